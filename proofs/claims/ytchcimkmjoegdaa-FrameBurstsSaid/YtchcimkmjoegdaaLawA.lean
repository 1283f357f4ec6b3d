/- Chapter 2's statements, their own helpers: unsigned, signed, awake. Conditions: none beyond the hypotheses stated. -/
import Derived.Test.YtchcimkmjoegdaaKitA
import Derived.Test.YtchcimkmjoegdaaCodF
namespace Go.Proofs.Ytchcimkmjoegdaa.C
open Go.RowKit Go.Proofs.YtchcimkmjoegdaaW.PrintWords Go.Proofs.YtchcimkmjoegdaaW.PrintMore Go.Proofs.Ytchcimkmjoegdaa.M
set_option linter.unusedVariables false
set_option linter.unusedSimpArgs false

theorem rd_nil (w : World) (k : IntKind) (A : Option Addr) : RdV w A (nums k []) := fun h => absurd rfl h
theorem nums_nil (k : IntKind) : nums k [] = [] := rfl
/-- A literal's bytes are read. -/
theorem rd_lit (w : World) (k : IntKind) (t : TypeId) (xs : List Int) : RdV (w.alloc (.cells (nums k xs).toArray t)) (some ⟨w.heap.size, 0, none⟩) (nums k xs) :=
  fun _ => ⟨_, rfl, by simpa using World.news_of_block (cs := (nums k xs).toArray) (t := t) (fr := (0, 0)) (heap_alloc_new w (.cells (nums k xs).toArray t))⟩
set_option maxRecDepth 100000 in
set_option maxHeartbeats 1000000 in
theorem unsigned_any (w : World) (u : Nat) (A : Option Addr) (n c : Nat) (xs : List Int) (hr : RdV w A (nums .u8 xs)) (hl : xs.length = n) (hc : n ≤ c) (hn : n ≤ 9223372036854775807) (hu : u < M64) :
    Calls Try.prog 49 #[.int .u64 u, .slice A n c] w fun e w' => e = .returned (.bool (decide (uenc u = xs))) ∧ Fr No w w' := by
  have HP0 := PutUint_any w none 0 0 u [] (rd_nil _ _ _) rfl (fun _ => rfl) (Nat.le_refl _) (by omega) hu
  rw [Nat.zero_add, List.nil_append] at HP0
  have HP := Aside0.mk HP0
  clear HP0
  have HR := Aside0.mk hr
  have HB := Aside0.mk (fun (w1 : World) (A1 : Option Addr) (c1 : Nat) (h1 : RdV w1 A1 (nums .u8 (uenc u))) (h2 : RdV w1 A (nums .u8 xs)) (hc1 : (uenc u).length ≤ c1) => KBytes_any w1 A1 A (uenc u).length n c1 c (uenc u) xs h1 h2 rfl hl (by have := uenc_10 u hu; omega) hn hc1 hc)
  clear hr hl hc hn hu
  go_enter Try.func49, Try.ntmps49
  go_wp2_with (first | (go_at_call 25; go_must (refine HP.out.mono ?_; rintro e' w1 ⟨v, rfl, q1, q2⟩; have Q1 := Aside0.mk q1; have Q2 := Aside0.mk q2; clear q1 q2; obtain ⟨A1, c1, e1, l1⟩ := Q1.out.shape; subst e1; have L1 := Aside0.mk l1; clear l1)) | (go_at_call 24; go_must (refine (HB.out w1 A1 c1 (RdV.of_win Q1.out) (HR.out.below Q2.out.no) L1.out).mono ?_; rintro e' w2 ⟨rfl, m, rfl⟩)))
  go_ret
  exact ⟨rfl, Q2.out.trans (Fr.drewN w1 m) (fun _ _ h => h) (fun _ _ h => h)⟩
set_option maxRecDepth 100000 in
set_option maxHeartbeats 1000000 in
theorem signed_any (w : World) (q : Int) (A : Option Addr) (n c : Nat) (xs : List Int) (hr : RdV w A (nums .u8 xs)) (hl : xs.length = n) (hc : n ≤ c) (hn : n ≤ 9223372036854775807) (hq0 : -9223372036854775808 ≤ q) (hq1 : q ≤ 9223372036854775807) :
    Calls Try.prog 51 #[.int .i64 q, .slice A n c] w fun e w' => e = .returned (.bool (decide (uenc (Lib.zigzag q) = xs))) ∧ Fr No w w' := by
  have HP0 := PutInt_any w none 0 0 q [] (rd_nil _ _ _) rfl (fun _ => rfl) (Nat.le_refl _) (by omega) hq0 hq1
  rw [Nat.zero_add, List.nil_append] at HP0
  have HP := Aside0.mk HP0
  clear HP0
  have HR := Aside0.mk hr
  have hu := zig_64 q hq0 hq1
  generalize Lib.zigzag q = u at HP hu ⊢
  have HB := Aside0.mk (fun (w1 : World) (A1 : Option Addr) (c1 : Nat) (h1 : RdV w1 A1 (nums .u8 (uenc u))) (h2 : RdV w1 A (nums .u8 xs)) (hc1 : (uenc u).length ≤ c1) => KBytes_any w1 A1 A (uenc u).length n c1 c (uenc u) xs h1 h2 rfl hl (by have := uenc_10 u hu; omega) hn hc1 hc)
  clear hr hl hc hn hu hq0 hq1
  go_enter Try.func51, Try.ntmps51
  go_wp2_with (first | (go_at_call 26; go_must (refine HP.out.mono ?_; rintro e' w1 ⟨v, rfl, q1, q2⟩; have Q1 := Aside0.mk q1; have Q2 := Aside0.mk q2; clear q1 q2; obtain ⟨A1, c1, e1, l1⟩ := Q1.out.shape; subst e1; have L1 := Aside0.mk l1; clear l1)) | (go_at_call 24; go_must (refine (HB.out w1 A1 c1 (RdV.of_win Q1.out) (HR.out.below Q2.out.no) L1.out).mono ?_; rintro e' w2 ⟨rfl, m, rfl⟩)))
  go_ret
  exact ⟨rfl, Q2.out.trans (Fr.drewN w1 m) (fun _ _ h => h) (fun _ _ h => h)⟩
def AwL : List Int := [172, 2, 1, 2, 97, 98, 5]
theorem aw1 : rU AwL 0 0 = (300, 2, 0) := by decide
theorem aw2 : rU AwL 2 0 = (1, 3, 0) := by decide
theorem aw3 : rT AwL 3 0 2 = ([97, 98], 6, 0) := by decide
theorem aw4 : rE AwL 6 0 = 20 := by decide
theorem aw5 : uenc 300 = [172, 2] := by simp [uenc]
theorem awB : Byt AwL := by unfold Byt AwL; decide
set_option maxHeartbeats 2000000 in
/-- awake is true, in memory of its own. -/
theorem awake2_any (w : World) : Calls Try.prog 23 #[] w fun e w' => e = .returned (.bool true) ∧ Fr No w w' := by
  have HN := Aside0.mk (NewReader_any (w.alloc (.cells (nums .u8 AwL).toArray 5)) (some ⟨w.heap.size, 0, none⟩) 7 7 AwL (rd_lit w .u8 5 AwL) rfl (fun h => by cases h) (by decide) (by decide))
  have H1 := Aside0.mk (fun w base g (h : Rdr w base g AwL 0 0) => (by have := Uint_any w base g 0 AwL 0 h awB; rw [aw1] at this; exact this : Calls Try.prog 19 #[.pointer (some ⟨g, 0, none⟩)] w fun e' w' => e' = .returned (.int .u64 300) ∧ Rdr w' base g AwL 2 0 ∧ Fr (One g) w w'))
  have H2 := Aside0.mk (fun w base g (h : Rdr w base g AwL 2 0) => (by have := Int_any w base g 2 AwL 0 h awB; rw [aw2] at this; exact this : Calls Try.prog 21 #[.pointer (some ⟨g, 0, none⟩)] w fun e' w' => e' = .returned (.int .i64 (-1)) ∧ Rdr w' base g AwL 3 0 ∧ Fr (One g) w w'))
  have H3 := Aside0.mk (fun w base g (h : Rdr w base g AwL 3 0) => (by have := Text_any w base g 3 AwL 0 2 h awB (by decide); rw [aw3] at this; exact this : Calls Try.prog 34 #[.pointer (some ⟨g, 0, none⟩), .int .i64 2] w fun e' w' => e' = .returned (.string { data := #[97, 98] }) ∧ Rdr w' base g AwL 6 0 ∧ Fr (One g) w w'))
  have H4 := Aside0.mk (fun w base g (h : Rdr w base g AwL 6 0) => (by exact Left_any w base g 6 AwL 0 h : Calls Try.prog 20 #[.pointer (some ⟨g, 0, none⟩)] w fun e' w' => e' = .returned (.int .i64 1) ∧ ∃ m, w' = w.drewN m))
  have H5 := Aside0.mk (fun w base g (h : Rdr w base g AwL 6 0) => Err_any w base g 6 AwL 0 h)
  have H6 := Aside0.mk (fun w base g (h : Rdr w base g AwL 6 0) => (by have := End_any w base g 6 AwL 0 h; rw [aw4] at this; exact this : Calls Try.prog 35 #[.pointer (some ⟨g, 0, none⟩)] w fun e' w' => e' = .returned (.int .i64 20) ∧ Rdr w' base g AwL 6 20 ∧ Fr (One g) w w'))
  have H7 := Aside0.mk (fun (w : World) => (by have := unsigned_any (w.alloc (.cells (nums .u8 [172, 2]).toArray 5)) 300 (some ⟨w.heap.size, 0, none⟩) 2 2 [172, 2] (rd_lit w .u8 5 _) rfl (by decide) (by decide) (by decide); rw [decide_eq_true aw5] at this; exact this : Calls Try.prog 49 #[.int .u64 300, .slice (some ⟨w.heap.size, 0, none⟩) 2 2] (w.alloc (.cells #[.int .u8 172, .int .u8 2] 5)) fun e w' => e = .returned (.bool true) ∧ Fr No (w.alloc (.cells #[.int .u8 172, .int .u8 2] 5)) w'))
  go_enter Try.func23, Try.ntmps23
  go_wp2_with (first | (go_at_call 18; go_must (refine HN.out.mono ?_; rintro e' w1 ⟨g, rfl, q1, q2⟩; have Q1 := Aside0.mk q1; have F1 := Aside0.mk q2; clear q1 q2)) | (go_at_call 19; go_must (refine (H1.out _ _ _ Q1.out).mono ?_; rintro e' w2 ⟨rfl, q1, q2⟩; have Q2 := Aside0.mk q1; have F2 := Aside0.mk q2; clear q1 q2)) | (go_at_call 21; go_must (refine (H2.out _ _ _ Q2.out).mono ?_; rintro e' w3 ⟨rfl, q1, q2⟩; have Q3 := Aside0.mk q1; have F3 := Aside0.mk q2; clear q1 q2)) | (go_at_call 34; go_must (refine (H3.out _ _ _ Q3.out).mono ?_; rintro e' w4 ⟨rfl, q1, q2⟩; have Q4 := Aside0.mk q1; have F4 := Aside0.mk q2; clear q1 q2)) | (go_at_call 20; go_must (refine (H4.out _ _ _ Q4.out).mono ?_; rintro e' w5 ⟨rfl, m5, rfl⟩)) | (go_at_call 22; go_must (refine (H5.out _ _ _ (Q4.out.drewN m5)).mono ?_; rintro e' w6 ⟨rfl, rfl⟩)) | (go_at_call 35; go_must (refine (H6.out _ _ _ (Q4.out.drewN m5)).mono ?_; rintro e' w7 ⟨rfl, q1, q2⟩; have Q7 := Aside0.mk q1; have F7 := Aside0.mk q2; clear q1 q2)) | (go_at_call 49; go_must (refine (H7.out _).mono ?_; rintro e' w8 ⟨rfl, q2⟩; have F8 := Aside0.mk q2; clear q2)))
  go_ret
  have hg : w.heap.size ≤ g := by
    have := Q1.out.1
    simp at this
    omega
  have h0 := accAlloc (Below.refl w.heap.size w) (Nat.le_refl _) (.cells (nums .u8 AwL).toArray 5)
  have h1 := accOne (accOne (accOne (accNo h0 (Nat.le_refl _) F1.out) (Nat.le_refl _) F2.out hg) (Nat.le_refl _) F3.out hg) (Nat.le_refl _) F4.out hg
  have h2 := accOne (accDrew h1 m5) (Nat.le_refl _) F7.out hg
  exact ⟨rfl, Fr.of_No (accNo (accAlloc h2 (Nat.le_refl _) _) (Nat.le_refl _) F8.out)⟩
/-- A row's bytes, as the walks take them. -/
theorem row_read {k : IntKind} {w : World} {a : Option Addr} {len cap : Nat} {zs : List Int} (h : (a = none ∧ len = 0 ∧ cap = 0 ∧ zs = []) ∨ ∃ x, a = some x ∧ len ≤ cap ∧ cap ≤ maxLen ∧ zs.length = cap ∧ (∀ i, i < zs.length → w.cell? (x.add i) = some (.int k (zs.getD i 0))) ∧ ∀ n ∈ zs, (Lit.int k n).wf = true) :
    ∃ l : List Int, l.length = len ∧ RdV w a (nums k l) ∧ (a = none → cap = 0) ∧ len ≤ cap ∧ len ≤ maxLen ∧ ∀ x ∈ l, (Lit.int k x).wf = true := by
  rcases h with ⟨rfl, rfl, rfl, rfl⟩ | ⟨x, rfl, h1, h2, h3, h4, h5⟩
  · exact ⟨[], rfl, rd_nil _ _ _, fun _ => rfl, Nat.le_refl _, by decide, fun x hx => by cases hx⟩
  · refine ⟨zs.take len, by rw [List.length_take]; omega, fun _ => ⟨x, rfl, fun j u hu => ?_⟩, fun h => (by cases h), h1, Nat.le_trans h1 h2, fun y hy => h5 y (List.mem_of_mem_take hy)⟩
    rw [← nums_take, List.getElem?_take] at hu
    split at hu
    · rename_i hj
      have hj' : j < zs.length := by omega
      rw [h4 j hj']
      simp [nums, List.getElem?_eq_getElem hj'] at hu
      rw [← hu]
      simp [List.getD_eq_getElem?_getD, List.getElem?_eq_getElem hj']
    · cases hu
theorem byt_wf {l : List Int} (h : ∀ x ∈ l, (Lit.int .u8 x).wf = true) : Byt l := fun x hx => by
  have := h x hx
  simp [Lit.wf, IntKind.min, IntKind.max, IntKind.bits, IntKind.signed] at this
  omega
end Go.Proofs.Ytchcimkmjoegdaa.C
