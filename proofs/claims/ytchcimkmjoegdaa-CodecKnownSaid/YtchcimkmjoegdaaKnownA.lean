/- CodecKnown's helpers: times, bad, and the literals. Conditions: as each theorem states. -/
import Derived.Test.YtchcimkmjoegdaaOneN
import Derived.Test.YtchcimkmjoegdaaLawA
namespace Go.Proofs.Ytchcimkmjoegdaa.C
open Go.RowKit Go.Proofs.YtchcimkmjoegdaaW.PrintWords Go.Proofs.YtchcimkmjoegdaaW.PrintMore Go.Proofs.Ytchcimkmjoegdaa.M
set_option linter.unusedVariables false
set_option linter.unusedSimpArgs false

set_option maxRecDepth 100000 in
set_option maxHeartbeats 1000000 in
theorem times_any (w : World) (k : Nat) (cb : Int) (A : Option Addr) (n c : Nat) (ms : List Int) (hr : RdV w A (nums .u8 ms)) (hl : ms.length = n) (hk : k ≤ 10) (hn : n ≤ 10) :
    Calls Try.prog 50 #[.int .i64 k, .int .u8 cb, .slice A n c] w fun e w' => ∃ v, e = .returned v ∧ Win w' w.heap.size 5 1 v (k + n) (nums .u8 (List.replicate k cb ++ ms)) ∧ Fr No w w' := by
  have HR := Aside0.mk hr
  have HL := Aside0.mk hl
  clear hr hl
  go_enter Try.func50, Try.ntmps50
  go_wp2_with fail
  go_loopw [7, 8] (fun v7 v8 wr => ∃ i : Nat, v8 = .int .i64 i ∧ i ≤ k ∧ Aside0 (Win wr w.heap.size 5 1 v7 i (nums .u8 (List.replicate i cb))) ∧ Aside0 (Fr No w wr)) (fun _ v8 _ => k - (intOf v8).toNat)
  case atStart => exact ⟨0, rfl, by omega, ⟨Win.nil _ _ _ _⟩, ⟨Fr.refl _ _⟩⟩
  case round =>
    obtain ⟨i, rfl, hi, HW, HF⟩ := hrel
    by_cases hlt : i < k
    · have H6 := Aside0.mk (small_bound (n := i + 1) (by omega))
      go_wp2_with (at_builtin; go_must (refine wpl_append1 wr w.heap.size rfl (.tmp 14) (.tmp 16) 22 5 (.int .u8 0) 1 1 rfl Try.underlying22 info5 rfl u7 i _ [.int .u8 cb] rfl rfl HW.out rfl (by simp [Value.oneCell']) HF.out.size H6.out.1 H6.out.2 ?_; intro v1 w1 g1 _ g3 _; have G1 := Aside0.mk g1; have G3 := Aside0.mk g3; clear g1 g3))
      go_roundw
      case rel =>
        refine ⟨i + 1, by simp, by omega, ⟨?_⟩, ⟨own_step HF.out HW.out G3.out⟩⟩
        have g := G1.out
        rw [nums_snoc, ← List.replicate_succ'] at g
        exact g
      case measure => simp [intOf]; omega
    · obtain rfl : k = i := by omega
      have H6 := Aside0.mk (small_bound (n := k + n) (by omega))
      go_wp2_with (at_builtin; go_must (refine wpl_append wr w.heap.size rfl (.tmp 18) (.tmp 19) 22 22 5 (.int .u8 0) 1 1 (.slice 5) rfl Try.underlying22 Try.underlying22 (.inl ⟨_, rfl⟩) info5 rfl u7 k _ (.slice A n c) n (nums .u8 ms) rfl rfl HW.out (Src.of_rd (HR.out.below HF.out.no) (by simp [nums, HL.out]) (nums_one _ _)) HF.out.size H6.out.1 H6.out.2 ?_; intro v1 w1 g1 _ g3 _; have G1 := Aside0.mk g1; have G3 := Aside0.mk g3; clear g1 g3))
      go_ret
      have g := G1.out
      rw [← nums_append] at g
      exact ⟨_, rfl, g, own_step HF.out HW.out G3.out⟩
set_option maxRecDepth 100000 in
set_option maxHeartbeats 1000000 in
theorem bad_any (w : World) (A : Option Addr) (n c : Nat) (xs : List Int) (hr : RdV w A (nums .u8 xs)) (hl : xs.length = n) (h0 : A = none → c = 0) (hc : n ≤ c) (hn : n ≤ 140737488355328) (hb : Byt xs) (hq : num xs = none) :
    Calls Try.prog 54 #[.slice A n c] w fun e w' => e = .returned (.bool true) ∧ Fr No w w' := by
  have HN := Aside0.mk (NewReader_any w A n c xs hr hl h0 hc hn)
  have hu : rU xs 0 0 = (0, 0, 20) := by simp [rU, hq]
  have H1 := Aside0.mk (fun w base g (h : Rdr w base g xs 0 0) => (by have := Uint_any w base g 0 xs 0 h hb; rw [hu] at this; exact this : Calls Try.prog 19 #[.pointer (some ⟨g, 0, none⟩)] w fun e' w' => e' = .returned (.int .u64 0) ∧ Rdr w' base g xs 0 20 ∧ Fr (One g) w w'))
  have H2 := Aside0.mk (fun w base g (h : Rdr w base g xs 0 20) => Err_any w base g 0 xs 20 h)
  have H3 := Aside0.mk (fun w base g (h : Rdr w base g xs 0 20) => (by have := Left_any w base g 0 xs 20 h; rw [hl] at this; simpa using this : Calls Try.prog 20 #[.pointer (some ⟨g, 0, none⟩)] w fun e' w' => e' = .returned (.int .i64 n) ∧ ∃ m, w' = w.drewN m))
  clear hr hl h0 hc hb hq hu
  go_enter Try.func54, Try.ntmps54
  go_wp2_with (first | (go_at_call 18; go_must (refine HN.out.mono ?_; rintro e' w1 ⟨g, rfl, q1, q2⟩; have Q1 := Aside0.mk q1; have F1 := Aside0.mk q2; clear q1 q2)) | (go_at_call 19; go_must (refine (H1.out _ _ _ Q1.out).mono ?_; rintro e' w2 ⟨rfl, q1, q2⟩; have Q2 := Aside0.mk q1; have F2 := Aside0.mk q2; clear q1 q2)) | (go_at_call 22; go_must (refine (H2.out _ _ _ Q2.out).mono ?_; rintro e' w3 ⟨rfl, rfl⟩; have Q3 := Aside0.mk Q2.out)) | (go_at_call 20; go_must (refine (H3.out _ _ _ Q3.out).mono ?_; rintro e' w4 ⟨rfl, m, rfl⟩)))
  go_ret
  exact ⟨rfl, Fr.of_No (accDrew (accOne F1.out.no (Nat.le_refl _) F2.out Q1.out.1) m)⟩
theorem lit_rd (w : World) (xs : List Int) : RdV (w.alloc (.cells (nums .u8 xs).toArray 5)) (some ⟨w.heap.size, 0, none⟩) (nums .u8 xs) := rd_lit w .u8 5 xs
theorem uns_lit (w : World) (u : Nat) (xs : List Int) (hu : u < M64) (h : uenc u = xs) (hn : xs.length ≤ 100) : Calls Try.prog 49 #[.int .u64 u, .slice (some ⟨w.heap.size, 0, none⟩) xs.length xs.length] (w.alloc (.cells (nums .u8 xs).toArray 5)) fun e w' => e = .returned (.bool true) ∧ Fr No w w' := by
  have := unsigned_any _ u _ _ xs.length xs (lit_rd w xs) rfl (Nat.le_refl _) (by omega) hu
  rw [decide_eq_true h] at this
  exact this.mono fun e w' h => ⟨h.1, below_one h.2⟩
theorem sig_lit (w : World) (q : Int) (xs : List Int) (h0 : -9223372036854775808 ≤ q) (h1 : q ≤ 9223372036854775807) (h : uenc (Lib.zigzag q) = xs) (hn : xs.length ≤ 100) : Calls Try.prog 51 #[.int .i64 q, .slice (some ⟨w.heap.size, 0, none⟩) xs.length xs.length] (w.alloc (.cells (nums .u8 xs).toArray 5)) fun e w' => e = .returned (.bool true) ∧ Fr No w w' := by
  have := signed_any _ q _ _ xs.length xs (lit_rd w xs) rfl (Nat.le_refl _) (by omega) h0 h1
  rw [decide_eq_true h] at this
  exact this.mono fun e w' h => ⟨h.1, below_one h.2⟩
theorem bad_lit (w : World) (xs : List Int) (hb : Byt xs) (h : num xs = none) (hn : xs.length ≤ 100) : Calls Try.prog 54 #[.slice (some ⟨w.heap.size, 0, none⟩) xs.length xs.length] (w.alloc (.cells (nums .u8 xs).toArray 5)) fun e w' => e = .returned (.bool true) ∧ Fr No w w' := by
  exact (bad_any _ _ _ xs.length xs (lit_rd w xs) rfl (fun h => by cases h) (Nat.le_refl _) (by omega) hb h).mono fun e w' h => ⟨h.1, below_one h.2⟩
theorem times_lit (w : World) (k : Nat) (cb : Int) (ms : List Int) (hk : k ≤ 10) (hn : ms.length ≤ 10) : Calls Try.prog 50 #[.int .i64 k, .int .u8 cb, .slice (some ⟨w.heap.size, 0, none⟩) ms.length ms.length] (w.alloc (.cells (nums .u8 ms).toArray 5)) fun e w' => ∃ v, e = .returned v ∧ Win w' w.heap.size 5 1 v (k + ms.length) (nums .u8 (List.replicate k cb ++ ms)) ∧ Fr No w w' := by
  exact (times_any _ k cb _ _ _ ms (lit_rd w ms) rfl hk hn).mono fun e w' ⟨v, h1, h2, h3⟩ => ⟨v, h1, h2.lower (by simp), below_one h3⟩
theorem new_lit (w : World) (xs : List Int) (hn : xs.length ≤ 100) : Calls Try.prog 18 #[.slice (some ⟨w.heap.size, 0, none⟩) xs.length xs.length] (w.alloc (.cells (nums .u8 xs).toArray 5)) fun e w' => ∃ g, e = .returned (.pointer (some ⟨g, 0, none⟩)) ∧ Rdr w' w.heap.size g xs 0 0 ∧ Fr No w w' := by
  exact (NewReader_any _ _ _ xs.length xs (lit_rd w xs) rfl (fun h => by cases h) (Nat.le_refl _) (by omega)).mono fun e w' ⟨g, h1, h2, h3⟩ => ⟨g, h1, h2.lower (by simp), below_one h3⟩
theorem ab_nums : ([9] ++ uenc 2 ++ bytesOf { data := #[97, 98] } : List Int) = [9, 2, 97, 98] := by
  rw [show uenc 2 = [2] by simp [uenc]]
  rfl
theorem put_lit (w : World) : Calls Try.prog 28 #[.slice (some ⟨w.heap.size, 0, none⟩) 1 1, .string { data := #[97, 98] }] (w.alloc (.cells #[.int .u8 9] 5)) (fun e w' => ∃ v, e = .returned v ∧ Win w' w.heap.size 5 1 v 4 (nums .u8 [9, 2, 97, 98]) ∧ Fr No w w') := by
  have h := PutText_any (w.alloc (.cells #[.int .u8 9] 5)) (some ⟨w.heap.size, 0, none⟩) 1 1 { data := #[97, 98] } [9] (lit_rd w [9]) rfl (fun h => by cases h) (by decide) (by decide)
  refine h.mono ?_
  rintro e w' ⟨v, rfl, q1, q2⟩
  have e2 : (uenc (ByteArray.size { data := #[97, 98] })) = [2] := by show uenc 2 = [2]; simp [uenc]
  rw [e2] at q1
  exact ⟨v, rfl, Win.lower q1 (by simp), below_one q2⟩
theorem kb_lit (w : World) (A : Option Addr) (c : Nat) (h : RdV w A (nums .u8 [9, 2, 97, 98])) (hc : 4 ≤ c) : Calls Try.prog 24 #[.slice A 4 c, .slice (some ⟨w.heap.size, 0, none⟩) 4 4] (w.alloc (.cells #[.int .u8 9, .int .u8 2, .int .u8 97, .int .u8 98] 5)) fun e w' => e = .returned (.bool true) ∧ Fr No w w' := by
  have hb := below_alloc (Below.refl w.heap.size w) (.cells #[.int .u8 9, .int .u8 2, .int .u8 97, .int .u8 98] 5)
  refine (KBytes_true (w.alloc (.cells #[.int .u8 9, .int .u8 2, .int .u8 97, .int .u8 98] 5)) A (some ⟨w.heap.size, 0, none⟩) 4 c 4 [9, 2, 97, 98] (h.below hb) (lit_rd w [9, 2, 97, 98]) rfl (by decide) hc (by decide)).mono ?_
  rintro e w' ⟨rfl, m, rfl⟩
  exact ⟨rfl, Fr.of_No (accDrew hb m)⟩
theorem bytes_lit (w : World) (b g : Nat) (h : Rdr w b g [97, 98] 0 0) (hb : Byt [97, 98]) : Calls Try.prog 52 #[.pointer (some ⟨g, 0, none⟩), .int .i64 3] w fun e' w' => (∃ A c, e' = .returned (.slice A 0 c)) ∧ Rdr w' b g [97, 98] 0 20 ∧ Fr (One g) w w' := by
  have := Bytes_any w b g 0 [97, 98] 0 3 h (by decide) (by decide) (by decide)
  rw [show rB [97, 98] 0 0 3 = ([], 0, 20) by decide] at this
  refine this.mono ?_
  rintro e' w' ⟨v, rfl, q0, q1, q2⟩
  obtain ⟨A, c, rfl, _⟩ := q0.shape
  exact ⟨⟨A, c, rfl⟩, q1, q2⟩
end Go.Proofs.Ytchcimkmjoegdaa.C
