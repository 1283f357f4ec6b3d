/- The codec's makers: slices.Clone, slices.Clip at bytes, put, PutUint, PutInt, PutText: what each call hands back. Conditions: the lengths that each theorem states. -/
import Derived.Test.YtchcimkmjoegdaaProg
import Derived.Test.YtchcimkmjoegdaaMem
import Derived.WalkSpells
import Derived.Lib.Zigzag
import Derived.Deep.DeepMust
import Derived.Outline
namespace Go.Proofs.Ytchcimkmjoegdaa.C
open Go.RowKit Go.Proofs.YtchcimkmjoegdaaW.PrintWords Go.Proofs.Ytchcimkmjoegdaa.M
set_option linter.unusedVariables false
set_option linter.unusedSimpArgs false

theorem info5 : (Try.prog.info? 5).map (fun i => (i.zero, i.size, i.bytes)) = some (some (.int .u8 0), 1, 1) := by kernel_rfl

set_option maxHeartbeats 400000 in
theorem clone_none (w : World) : Calls Try.prog 72 #[.slice none 0 0] w fun e w' => e = .returned (.slice none 0 0) ∧ w' = w := by
  have hn := fun (w : World) => Lib.run_eql_slice_nil (P := Try.prog) w 22 5 none 0 0 0 0 Try.underlying22
  go_enter Try.func72, Try.ntmps72
  go_wp2_with fail
  go_ret
  exact ⟨rfl, rfl⟩
/-- The bound that a text's or a slice's length meets. -/
theorem small_bound {n : Nat} (h : n ≤ 140737488355328) : n ≤ maxLen ∧ (n + n / 4 + 700) * 1 ≤ 281474976710656 := by
  simp only [maxLen]
  omega
set_option maxHeartbeats 400000 in
theorem clone_some (w : World) (ad : Addr) (n c : Nat) (xs : List Value) (hr : RdV w (some ad) xs) (hl : xs.length = n) (h1 : ∀ u ∈ xs, u.oneCell' = true) (hn : n ≤ 140737488355328) :
    Calls Try.prog 72 #[.slice (some ad) n c] w fun e w' => ∃ v, e = .returned v ∧ Win w' w.heap.size 5 1 v n xs ∧ Fr No w w' := by
  have hnl := fun (w : World) => Lib.run_eql_slice_nil (P := Try.prog) w 22 5 (some ad) n c 0 0 Try.underlying22
  obtain ⟨b1, b2⟩ := small_bound hn
  have HW := Aside0.mk (show Win (w.alloc (Obj.cells #[] 5)) w.heap.size 5 1 (.slice (some ⟨w.heap.size, 0, none⟩) 0 0) 0 [] from ⟨rfl, .inl ⟨rfl, _, rfl⟩⟩)
  have HS := Aside0.mk (Src.of_rd (P := Try.prog) (size := 1) (m := n) (c := c) (hr.below (below_alloc (Below.refl _ _) (Obj.cells #[] 5))) (by omega) h1)
  have HB := Aside0.mk b1
  have HL := Aside0.mk b2
  clear b1 b2 hr hl h1 hn
  go_enter Try.func72, Try.ntmps72
  go_wp2_with (at_builtin; refine wpl_append _ w.heap.size rfl (.tmp 5) (.tmp 6) 22 22 5 (.int .u8 0) 1 1 (.slice 5) rfl Try.underlying22 Try.underlying22 (.inl ⟨_, rfl⟩) info5 rfl (.slice (some ⟨w.heap.size, 0, none⟩) 0 0) 0 [] _ n xs rfl rfl HW.out HS.out (by simp) (by simpa using HB.out) (by simpa using HL.out) ?_; intro v1 w1 g1 g2 g3 g4; have G1 := Aside0.mk g1; have G3 := Aside0.mk g3; clear g1 g2 g3 g4)
  go_ret
  refine ⟨v1, rfl, by simpa using G1.out, ?_⟩
  exact (Fr.alloc (S := No) w _).trans G3.out (fun _ _ h => h) (fun i hi h => by have := h.eq; simp at this; omega)
/-- slices.Clone at bytes, nil let in. -/
theorem clone_any (w : World) (A : Option Addr) (n c : Nat) (xs : List Value) (hr : RdV w A xs) (hl : xs.length = n) (h0 : A = none → c = 0) (hc : n ≤ c) (h1 : ∀ u ∈ xs, u.oneCell' = true) (hn : n ≤ 140737488355328) :
    Calls Try.prog 72 #[.slice A n c] w fun e w' => ∃ v, e = .returned v ∧ Win w' w.heap.size 5 1 v n xs ∧ Fr No w w' := by
  cases A with
  | none =>
    obtain rfl := h0 rfl
    obtain rfl : n = 0 := by omega
    obtain rfl : xs = [] := List.eq_nil_of_length_eq_zero hl
    exact (clone_none w).mono fun e w' ⟨h, h'⟩ => by subst h; subst h'; exact ⟨_, rfl, Win.nil _ _ _ _, Fr.refl _ _⟩
  | some ad => exact clone_some w ad n c xs hr hl h1 hn
set_option maxHeartbeats 400000 in
/-- slices.Clip at bytes. -/
theorem clip_any (w : World) (A : Option Addr) (n c : Nat) (hc : n ≤ c) (hn : n ≤ 9223372036854775807) :
    Calls Try.prog 79 #[.slice A n c] w fun e w' => e = .returned (.slice A n n) ∧ w' = w := by
  go_enter Try.func79, Try.ntmps79
  go_wp2_with fail
  go_ret
  exact ⟨rfl, rfl⟩
set_option maxHeartbeats 400000 in
theorem id_fn (w : World) (n : Int) : Calls Try.prog 76 #[.int .u64 n] w fun e w' => e = .returned (.int .u64 n) ∧ w' = w := by
  go_enter Try.func76, Try.ntmps76
  go_wp2_with fail
  go_ret
  exact ⟨rfl, rfl⟩
theorem zig_bits (n : Int) (h0 : -9223372036854775808 ≤ n) (h1 : n ≤ 9223372036854775807) :
    bits BinOp.xor IntKind.u64 (IntKind.u64.wrap (wrap64 (n * 2))) (IntKind.u64.wrap (n / 9223372036854775808)) = ((Lib.zigzag n : Nat) : Int) := by
  by_cases h : 0 ≤ n
  · have e1 : IntKind.u64.wrap (wrap64 (n * 2)) = ((2 * n).toNat : Nat) := by rw [IntKind.wrap_u64]; unfold wrap64; omega
    have e2 : IntKind.u64.wrap (n / 9223372036854775808) = ((0 : Nat) : Int) := by rw [IntKind.wrap_u64]; omega
    rw [e1, e2, bits_xor_u64_nat _ _ (by omega) (by decide), Nat.xor_zero]
    have := Lib.zigzag_nonneg h
    omega
  · have e1 : IntKind.u64.wrap (wrap64 (n * 2)) = ((2 * n + 18446744073709551616).toNat : Nat) := by rw [IntKind.wrap_u64]; unfold wrap64; omega
    have e2 : IntKind.u64.wrap (n / 9223372036854775808) = ((2 ^ 64 - 1 : Nat) : Int) := by rw [IntKind.wrap_u64]; omega
    rw [e1, e2, bits_xor_u64_nat _ _ (by omega) (by decide), Nat.xor_comm, Lib.xor_ones64 _ (by omega)]
    unfold Lib.zigzag
    rw [if_neg h]
    omega
theorem ret_int {k : IntKind} {a b : Int} (h : a = b) : Ending.returned (.int k a) = .returned (.int k b) := by rw [h]
set_option maxHeartbeats 400000 in
theorem zig_fn (w : World) (n : Int) (h0 : -9223372036854775808 ≤ n) (h1 : n ≤ 9223372036854775807) : Calls Try.prog 78 #[.int .i64 n] w fun e w' => e = .returned (.int .u64 (Lib.zigzag n : Nat)) ∧ w' = w := by
  go_enter Try.func78, Try.ntmps78
  go_wp2_with fail
  go_ret
  exact ⟨ret_int (zig_bits n h0 h1), rfl⟩

theorem nums_one (k : IntKind) (xs : List Int) : ∀ u ∈ nums k xs, u.oneCell' = true := by
  intro u hu
  obtain ⟨x, _, rfl⟩ := List.mem_map.1 hu
  rfl
def uenc (n : Nat) : List Int := if n < 128 then [(n : Int)] else ((n % 128 + 128 : Nat) : Int) :: uenc (n / 128)
termination_by n
decreasing_by omega
theorem uenc_len : ∀ (k u : Nat), u < 128 ^ (k + 1) → (uenc u).length ≤ k + 1
  | 0, u, h => by rw [uenc, if_pos (by simpa using h)]; simp
  | k + 1, u, h => by
    rw [uenc]
    split
    · simp
    · have := uenc_len k (u / 128) (Nat.div_lt_of_lt_mul (by rw [Nat.pow_succ] at h; omega))
      simp only [List.length_cons]
      omega
theorem uenc_10 (u : Nat) (h : u < 18446744073709551616) : (uenc u).length ≤ 10 := uenc_len 9 u (by omega)
theorem uenc_pos (u : Nat) : 0 < (uenc u).length := by rw [uenc]; split <;> simp
theorem or128 (x : Int) (h0 : 0 ≤ x) : bits .or .u8 (x % 256) 128 = ((x.toNat % 128 + 128 : Nat) : Int) := by
  have e : x % 256 = ((x.toNat % 256 : Nat) : Int) := by omega
  rw [e]
  have h : x.toNat % 256 < 256 := Nat.mod_lt _ (by decide)
  have e2 : x.toNat % 128 = x.toNat % 256 % 128 := by omega
  rw [e2]
  generalize x.toNat % 256 = y at h
  revert y
  decide +kernel
def M64 : Nat := 18446744073709551616
theorem M64_eq : M64 = 18446744073709551616 := rfl
/-- The state of put's loop. -/
def PutRel (w : World) (n u : Nat) (xs : List Int) (v7 v8 : Value) (wr : World) : Prop :=
  ∃ (u' : Nat) (ys : List Int), v8 = .int .u64 (u' : Int) ∧ u' < M64 ∧ ys ++ uenc u' = uenc u ∧ Win wr w.heap.size 5 1 v7 (n + ys.length) (nums .u8 (xs ++ ys)) ∧ Fr No w wr
/-- What is written lies in rows of the call's own: nothing of w has turned. -/
theorem own_step {w wr w1 : World} {v : Value} {m size : Nat} {e : TypeId} {xs : List Value} (hF : Fr No w wr) (hW : Win wr w.heap.size e size v m xs) (g3 : Fr (At v) wr w1) : Fr No w w1 :=
  hF.trans g3 (fun _ _ h => h) (fun i hi h => (hW.young h hi).elim)
theorem nums_snoc (k : IntKind) (xs : List Int) (x : Int) : nums k xs ++ [.int k x] = nums k (xs ++ [x]) := by simp [nums]
set_option maxRecDepth 100000 in
set_option maxHeartbeats 400000 in
theorem put_u (w : World) (A : Option Addr) (n c : Nat) (u : Nat) (xs : List Int) (hr : RdV w A (nums .u8 xs)) (hl : xs.length = n) (h0 : A = none → c = 0) (hc : n ≤ c) (hn : n ≤ 140737488355000) (hu : u < M64) :
    Calls Try.prog 75 #[.slice A n c, .int .u64 u, .func (.func 76) #[] #[]] w fun e w' => ∃ v, e = .returned v ∧ Win w' w.heap.size 5 1 v (n + (uenc u).length) (nums .u8 (xs ++ uenc u)) ∧ Fr No w w' := by
  have hlv : (nums .u8 xs).length = n := by simpa [nums] using hl
  have hone : ∀ u ∈ nums .u8 xs, u.oneCell' = true := nums_one _ _
  have CL := Aside0.mk (clone_any w A n c (nums .u8 xs) hr hlv h0 hc hone (by omega))
  have HN := Aside0.mk hn
  have HU := Aside0.mk hu
  clear hr hlv h0 hc hone hn hu hl
  go_enter Try.func75, Try.ntmps75
  go_wp2_with (first | (go_at_call 72; go_must (refine CL.out.mono ?_; rintro e w1 ⟨v, rfl, hw, hf⟩; have HW := Aside0.mk hw; have HF := Aside0.mk hf; clear hw hf)) | (go_at_call 76; go_must (refine (id_fn _ _).mono ?_; rintro e w2 ⟨rfl, rfl⟩)))
  go_loopw [7, 8] (fun v7 v8 wr => PutRel w n u xs v7 v8 wr) (fun _ v8 _ => (intOf v8).toNat)
  case atStart => exact ⟨u, [], rfl, HU.out, rfl, by simpa using HW.out, HF.out⟩
  case round =>
    
    obtain ⟨u', ys, rfl, hu', hy, hW, hF⟩ := hrel
    have H1 := Aside0.mk hu'
    have H2 := Aside0.mk hy
    have H3 := Aside0.mk hW
    have H4 := Aside0.mk hF
    clear hu' hy hW hF
    have H5 := Aside0.mk (show n + ys.length + 1 ≤ maxLen ∧ (n + ys.length + 1 + (n + ys.length + 1) / 4 + 700) * 1 ≤ 281474976710656 from small_bound (by have := uenc_10 u HU.out; have := H2.out; have := congrArg List.length this; simp at this; have := HN.out; omega))
    have H6 := Aside0.mk H4.out.size
    by_cases hlt : 127 < u'
    · go_wp2_with (at_builtin; go_must (refine wpl_append1 wr w.heap.size rfl (.tmp 18) (.tmp 22) 22 5 (.int .u8 0) 1 1 rfl Try.underlying22 info5 rfl u7 _ _ [.int .u8 (bits BinOp.or IntKind.u8 ((u' : Int) % 256) 128)] rfl rfl H3.out rfl (by simp [Value.oneCell']) H6.out H5.out.1 H5.out.2 ?_; intro v1 w1 g1 _ g3 _; have G1 := Aside0.mk g1; have G3 := Aside0.mk g3; clear g1 g3))
      go_roundw
      case rel =>
        have h2 := H2.out
        rw [uenc, if_neg (by omega)] at h2
        refine ⟨u' / 128, ys ++ [((u' % 128 + 128 : Nat) : Int)], by simp, Nat.lt_of_le_of_lt (Nat.div_le_self _ _) H1.out, by simpa using h2, ?_, own_step H4.out H3.out G3.out⟩
        have g := G1.out
        rw [or128 _ (by omega), nums_snoc, Int.toNat_natCast] at g
        simpa [Nat.add_assoc] using g
      case measure => simp [intOf]; omega
    · go_wp2_with (first | (at_builtin; go_must (refine wpl_append1 wr w.heap.size rfl (.tmp 24) (.tmp 27) 22 5 (.int .u8 0) 1 1 rfl Try.underlying22 info5 rfl u7 _ _ [.int .u8 (u' : Int)] rfl rfl H3.out rfl (by simp [Value.oneCell']) H6.out H5.out.1 H5.out.2 ?_; intro v1 w1 g1 _ g3 _; have G1 := Aside0.mk g1; have G3 := Aside0.mk g3; clear g1 g3; obtain ⟨A1, c1, e1, l1⟩ := G1.out.shape; subst e1; have L1 := Aside0.mk l1; clear l1)) | (go_at_call 79; go_must (refine (clip_any _ _ _ _ L1.out G1.out.max).mono ?_; rintro e w3 ⟨rfl, rfl⟩)))
      go_ret
      have h2 := H2.out
      rw [uenc, if_pos (by omega)] at h2
      have g := G1.out.clip
      rw [nums_snoc] at g
      refine ⟨_, rfl, ?_, own_step H4.out H3.out G3.out⟩
      rw [← h2]
      simpa [Nat.add_assoc] using g
set_option maxRecDepth 100000 in
set_option maxHeartbeats 400000 in
theorem put_i (w : World) (A : Option Addr) (n c : Nat) (q : Int) (u : Nat) (xs : List Int) (hr : RdV w A (nums .u8 xs)) (hl : xs.length = n) (h0 : A = none → c = 0) (hc : n ≤ c) (hn : n ≤ 140737488355000) (hu : u < M64) (hq0 : -9223372036854775808 ≤ q) (hq1 : q ≤ 9223372036854775807) (hz : u = Lib.zigzag q) :
    Calls Try.prog 77 #[.slice A n c, .int .i64 q, .func (.func 78) #[] #[]] w fun e w' => ∃ v, e = .returned v ∧ Win w' w.heap.size 5 1 v (n + (uenc u).length) (nums .u8 (xs ++ uenc u)) ∧ Fr No w w' := by
  have hlv : (nums .u8 xs).length = n := by simpa [nums] using hl
  have hone : ∀ u ∈ nums .u8 xs, u.oneCell' = true := nums_one _ _
  have CL := Aside0.mk (clone_any w A n c (nums .u8 xs) hr hlv h0 hc hone (by omega))
  have ZG := Aside0.mk (fun w => zig_fn w q hq0 hq1)
  rw [← hz] at ZG
  have HN := Aside0.mk hn
  clear hz hq0 hq1
  have HU := Aside0.mk hu
  clear hr hlv h0 hc hone hn hu hl
  go_enter Try.func77, Try.ntmps77
  go_wp2_with (first | (go_at_call 72; go_must (refine CL.out.mono ?_; rintro e w1 ⟨v, rfl, hw, hf⟩; have HW := Aside0.mk hw; have HF := Aside0.mk hf; clear hw hf)) | (go_at_call 78; go_must (refine (ZG.out _).mono ?_; rintro e w2 ⟨rfl, rfl⟩)))
  go_loopw [7, 8] (fun v7 v8 wr => PutRel w n u xs v7 v8 wr) (fun _ v8 _ => (intOf v8).toNat)
  case atStart => exact ⟨u, [], rfl, HU.out, rfl, by simpa using HW.out, HF.out⟩
  case round =>
    
    obtain ⟨u', ys, rfl, hu', hy, hW, hF⟩ := hrel
    have H1 := Aside0.mk hu'
    have H2 := Aside0.mk hy
    have H3 := Aside0.mk hW
    have H4 := Aside0.mk hF
    clear hu' hy hW hF
    have H5 := Aside0.mk (show n + ys.length + 1 ≤ maxLen ∧ (n + ys.length + 1 + (n + ys.length + 1) / 4 + 700) * 1 ≤ 281474976710656 from small_bound (by have := uenc_10 u HU.out; have := H2.out; have := congrArg List.length this; simp at this; have := HN.out; omega))
    have H6 := Aside0.mk H4.out.size
    by_cases hlt : 127 < u'
    · go_wp2_with (at_builtin; go_must (refine wpl_append1 wr w.heap.size rfl (.tmp 18) (.tmp 22) 22 5 (.int .u8 0) 1 1 rfl Try.underlying22 info5 rfl u7 _ _ [.int .u8 (bits BinOp.or IntKind.u8 ((u' : Int) % 256) 128)] rfl rfl H3.out rfl (by simp [Value.oneCell']) H6.out H5.out.1 H5.out.2 ?_; intro v1 w1 g1 _ g3 _; have G1 := Aside0.mk g1; have G3 := Aside0.mk g3; clear g1 g3))
      go_roundw
      case rel =>
        have h2 := H2.out
        rw [uenc, if_neg (by omega)] at h2
        refine ⟨u' / 128, ys ++ [((u' % 128 + 128 : Nat) : Int)], by simp, Nat.lt_of_le_of_lt (Nat.div_le_self _ _) H1.out, by simpa using h2, ?_, own_step H4.out H3.out G3.out⟩
        have g := G1.out
        rw [or128 _ (by omega), nums_snoc, Int.toNat_natCast] at g
        simpa [Nat.add_assoc] using g
      case measure => simp [intOf]; omega
    · go_wp2_with (first | (at_builtin; go_must (refine wpl_append1 wr w.heap.size rfl (.tmp 24) (.tmp 27) 22 5 (.int .u8 0) 1 1 rfl Try.underlying22 info5 rfl u7 _ _ [.int .u8 (u' : Int)] rfl rfl H3.out rfl (by simp [Value.oneCell']) H6.out H5.out.1 H5.out.2 ?_; intro v1 w1 g1 _ g3 _; have G1 := Aside0.mk g1; have G3 := Aside0.mk g3; clear g1 g3; obtain ⟨A1, c1, e1, l1⟩ := G1.out.shape; subst e1; have L1 := Aside0.mk l1; clear l1)) | (go_at_call 79; go_must (refine (clip_any _ _ _ _ L1.out G1.out.max).mono ?_; rintro e w3 ⟨rfl, rfl⟩)))
      go_ret
      have h2 := H2.out
      rw [uenc, if_pos (by omega)] at h2
      have g := G1.out.clip
      rw [nums_snoc] at g
      refine ⟨_, rfl, ?_, own_step H4.out H3.out G3.out⟩
      rw [← h2]
      simpa [Nat.add_assoc] using g
theorem zig_64 (q : Int) (hq0 : -9223372036854775808 ≤ q) (hq1 : q ≤ 9223372036854775807) : Lib.zigzag q < M64 := Lib.zigzag_lt hq0 hq1
set_option maxHeartbeats 400000 in
theorem PutUint_any (w : World) (A : Option Addr) (n c : Nat) (u : Nat) (xs : List Int) (hr : RdV w A (nums .u8 xs)) (hl : xs.length = n) (h0 : A = none → c = 0) (hc : n ≤ c) (hn : n ≤ 140737488355000) (hu : u < M64) :
    Calls Try.prog 25 #[.slice A n c, .int .u64 u] w fun e w' => ∃ v, e = .returned v ∧ Win w' w.heap.size 5 1 v (n + (uenc u).length) (nums .u8 (xs ++ uenc u)) ∧ Fr No w w' := by
  have H := Aside0.mk (put_u w A n c u xs hr hl h0 hc hn hu)
  clear hr hl h0 hc hn hu
  go_enter Try.func25, Try.ntmps25
  go_wp2_with (go_at_call 75; go_must (refine H.out.mono ?_; rintro e w1 ⟨v, rfl, hq⟩; have Q := Aside0.mk hq; clear hq))
  go_ret
  exact ⟨v, rfl, Q.out⟩
set_option maxHeartbeats 400000 in
theorem PutInt_any (w : World) (A : Option Addr) (n c : Nat) (q : Int) (xs : List Int) (hr : RdV w A (nums .u8 xs)) (hl : xs.length = n) (h0 : A = none → c = 0) (hc : n ≤ c) (hn : n ≤ 140737488355000) (hq0 : -9223372036854775808 ≤ q) (hq1 : q ≤ 9223372036854775807) :
    Calls Try.prog 26 #[.slice A n c, .int .i64 q] w fun e w' => ∃ v, e = .returned v ∧ Win w' w.heap.size 5 1 v (n + (uenc (Lib.zigzag q)).length) (nums .u8 (xs ++ uenc (Lib.zigzag q))) ∧ Fr No w w' := by
  have H := Aside0.mk (put_i w A n c q _ xs hr hl h0 hc hn (zig_64 q hq0 hq1) hq0 hq1 rfl)
  clear hr hl h0 hc hn hq0 hq1
  go_enter Try.func26, Try.ntmps26
  go_wp2_with (go_at_call 77; go_must (refine H.out.mono ?_; rintro e w1 ⟨v, rfl, hq⟩; have Q := Aside0.mk hq; clear hq))
  go_ret
  exact ⟨v, rfl, Q.out⟩
/-- A text's bytes as numbers. -/
theorem strCells_nums (s : ByteArray) : Lib.strCells s = nums .u8 (bytesOf s) := by simp [nums, bytesOf, Lib.strCells]
set_option maxHeartbeats 400000 in
theorem PutText_any (w : World) (A : Option Addr) (n c : Nat) (s : ByteArray) (xs : List Int) (hr : RdV w A (nums .u8 xs)) (hl : xs.length = n) (h0 : A = none → c = 0) (hc : n ≤ c) (hn : n + s.size ≤ 140737488355000) :
    Calls Try.prog 28 #[.slice A n c, .string s] w fun e w' => ∃ v, e = .returned v ∧ Win w' w.heap.size 5 1 v (n + (uenc s.size).length + s.size) (nums .u8 (xs ++ uenc s.size ++ bytesOf s)) ∧ Fr No w w' := by
  have hs : s.size < M64 := by rw [M64_eq]; omega
  have H := Aside0.mk (PutUint_any w A n c s.size xs hr hl h0 hc (by omega) hs)
  have hS : (s.size : Int) ≤ 9223372036854775807 := by omega
  have HB := Aside0.mk (show n + (uenc s.size).length + s.size ≤ maxLen ∧ (n + (uenc s.size).length + s.size + (n + (uenc s.size).length + s.size) / 4 + 700) * 1 ≤ 281474976710656 from small_bound (by have := uenc_10 s.size hs; omega))
  clear hr hl h0 hc hn hs
  go_enter Try.func28, Try.ntmps28
  go_wp2_with (first | (go_at_call 25; go_must (refine H.out.mono ?_; rintro e w1 ⟨v, rfl, hq, hf⟩; have Q := Aside0.mk hq; have F := Aside0.mk hf; clear hq hf)) | (at_builtin; go_must (refine wpl_append w1 w.heap.size rfl (.tmp 9) (.tmp 10) 22 9 5 (.int .u8 0) 1 1 .string rfl Try.underlying22 Try.underlying9 (.inr rfl) info5 rfl v _ _ (.string s) s.size (nums .u8 (bytesOf s)) rfl rfl Q.out (by rw [← strCells_nums]; exact Src.of_string _ _) F.out.size HB.out.1 HB.out.2 ?_; intro v1 w2 g1 _ g3 _; have G1 := Aside0.mk g1; have G3 := Aside0.mk g3; clear g1 g3; obtain ⟨A1, c1, e1, l1⟩ := G1.out.shape; subst e1; have L1 := Aside0.mk l1; clear l1)) | (go_at_call 79; go_must (refine (clip_any _ _ _ _ L1.out G1.out.max).mono ?_; rintro e w3 ⟨rfl, rfl⟩)))
  go_ret
  refine ⟨_, rfl, ?_, own_step F.out Q.out G3.out⟩
  have g := G1.out.clip
  rwa [← nums_append] at g
end Go.Proofs.Ytchcimkmjoegdaa.C
