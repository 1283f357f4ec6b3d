/- lecternlaw02.one at nil readers. Conditions: the number of the call within int. -/
import Derived.Test.YtchcimkmjoegdaaOneW
namespace Go.Proofs.Ytchcimkmjoegdaa.M
theorem Fr.tr {a b c : World} (h : Fr No a b) (k : Fr No b c) : Fr No a c := h.trans k (fun _ _ h => h) (fun _ _ h => h)
end Go.Proofs.Ytchcimkmjoegdaa.M
namespace Go.Proofs.Ytchcimkmjoegdaa.C
open Go.RowKit Go.Proofs.YtchcimkmjoegdaaW.PrintWords Go.Proofs.YtchcimkmjoegdaaW.PrintMore Go.Proofs.Ytchcimkmjoegdaa.M
set_option linter.unusedVariables false
set_option linter.unusedSimpArgs false
set_option linter.unnecessarySimpa false
section
variable {W : World}

set_option maxRecDepth 100000 in
set_option maxHeartbeats 1000000 in
theorem onil_u (m : Int) : Calls Try.prog 46 #[.pointer none, .pointer none, .agg #[.int .i64 0, .int .i64 m]] W fun e' w' => e' = .returned (.bool true) ∧ Fr No W w' := by
  obtain ⟨bx, by'⟩ := box2 W (.int .i64 0) (.int .i64 m) 70
  have F0 := Aside0.mk (Fr.alloc (S := No) W (.cells #[.int .i64 0, .int .i64 m] 70))
  go_enter Try.func46, Try.ntmps46
  go_wp2_with (first | (go_at_call 19; go_must (refine (Uint_nil _).mono ?_; rintro e' w1 ⟨rfl, rfl⟩)) | (go_at_call 95; go_must (refine (mUint_nil _).mono ?_; rintro e' w2 ⟨rfl, rfl⟩)))
  go_ret
  exact ⟨rfl, F0.out⟩
set_option maxRecDepth 100000 in
set_option maxHeartbeats 1000000 in
theorem onil_i (m : Int) : Calls Try.prog 46 #[.pointer none, .pointer none, .agg #[.int .i64 1, .int .i64 m]] W fun e' w' => e' = .returned (.bool true) ∧ Fr No W w' := by
  obtain ⟨bx, by'⟩ := box2 W (.int .i64 1) (.int .i64 m) 70
  have F0 := Aside0.mk (Fr.alloc (S := No) W (.cells #[.int .i64 1, .int .i64 m] 70))
  go_enter Try.func46, Try.ntmps46
  go_wp2_with (first | (go_at_call 21; go_must (refine (Int_nil _).mono ?_; rintro e' w1 ⟨rfl, rfl⟩)) | (go_at_call 90; go_must (refine (mInt_nil _).mono ?_; rintro e' w2 ⟨rfl, rfl⟩)))
  go_ret
  exact ⟨rfl, F0.out⟩
set_option maxRecDepth 100000 in
set_option maxHeartbeats 1000000 in
theorem onil_e (m : Int) : Calls Try.prog 46 #[.pointer none, .pointer none, .agg #[.int .i64 5, .int .i64 m]] W fun e' w' => e' = .returned (.bool true) ∧ Fr No W w' := by
  obtain ⟨bx, by'⟩ := box2 W (.int .i64 5) (.int .i64 m) 70
  have F0 := Aside0.mk (Fr.alloc (S := No) W (.cells #[.int .i64 5, .int .i64 m] 70))
  go_enter Try.func46, Try.ntmps46
  go_wp2_with (first | (go_at_call 35; go_must (refine (End_nil _).mono ?_; rintro e' w1 ⟨rfl, rfl⟩)) | (go_at_call 91; go_must (refine (mEnd_nil _).mono ?_; rintro e' w2 ⟨rfl, q⟩; have Q2 := Aside0.mk q; clear q)))
  go_ret
  exact ⟨rfl, F0.out.tr Q2.out⟩
set_option maxRecDepth 100000 in
set_option maxHeartbeats 1000000 in
theorem onil_s (m : Int) : Calls Try.prog 46 #[.pointer none, .pointer none, .agg #[.int .i64 2, .int .i64 m]] W fun e' w' => e' = .returned (.bool true) ∧ Fr No W w' := by
  obtain ⟨bx, by'⟩ := box2 W (.int .i64 2) (.int .i64 m) 70
  have F0 := Aside0.mk (Fr.alloc (S := No) W (.cells #[.int .i64 2, .int .i64 m] 70))
  go_enter Try.func46, Try.ntmps46
  go_wp2_with fail
  go_region_held3 (fun w' => w'.cell? ⟨W.heap.size, 1, none⟩ = some (.int .i64 m)) (first | exact (by simpa using by') | assumption) (first | (go_at_call 53; refine (Size_nil _ _).mono ?_; rintro e' w1 ⟨rfl, q2⟩; have hc1 := pw_cell_below q2.no (show (W.alloc (.cells #[.int .i64 2, .int .i64 m] 70)).drew.cell? ⟨W.heap.size, 1, none⟩ = some (.int .i64 m) by simpa using by'); have Q1 := Aside0.mk (F0.out.tr ((Fr.of_below (below_drew (Below.refl _ _)) No).tr q2)); clear q2) | (go_at_call 88; refine (mSize_nil _ _).mono ?_; rintro e' w2 ⟨rfl, rfl⟩))
  go_wp2_with fail
  go_ret
  exact ⟨rfl, Q1.out⟩
set_option maxRecDepth 100000 in
set_option maxHeartbeats 1000000 in
theorem onil_t (m : Int) : Calls Try.prog 46 #[.pointer none, .pointer none, .agg #[.int .i64 3, .int .i64 m]] W fun e' w' => e' = .returned (.bool true) ∧ Fr No W w' := by
  obtain ⟨bx, by'⟩ := box2 W (.int .i64 3) (.int .i64 m) 70
  have F0 := Aside0.mk (Fr.alloc (S := No) W (.cells #[.int .i64 3, .int .i64 m] 70))
  go_enter Try.func46, Try.ntmps46
  go_wp2_with fail
  go_region_held3 (fun w' => w'.cell? ⟨W.heap.size, 1, none⟩ = some (.int .i64 m)) (first | exact (by simpa using by') | assumption) (first | (go_at_call 34; refine (Text_nil _ _).mono ?_; rintro e' w1 ⟨rfl, q2⟩; have hc1 := pw_cell_below q2.no (show (W.alloc (.cells #[.int .i64 3, .int .i64 m] 70)).drew.cell? ⟨W.heap.size, 1, none⟩ = some (.int .i64 m) by simpa using by'); have Q1 := Aside0.mk (F0.out.tr ((Fr.of_below (below_drew (Below.refl _ _)) No).tr q2)); clear q2) | (go_at_call 89; refine (mText_nil _ _).mono ?_; rintro e' w2 ⟨rfl, rfl⟩))
  go_wp2_with fail
  go_ret
  exact ⟨rfl, Q1.out⟩
set_option maxRecDepth 100000 in
set_option maxHeartbeats 1000000 in
theorem onil_b (m : Int) : Calls Try.prog 46 #[.pointer none, .pointer none, .agg #[.int .i64 4, .int .i64 m]] W fun e' w' => e' = .returned (.bool true) ∧ Fr No W w' := by
  obtain ⟨bx, by'⟩ := box2 W (.int .i64 4) (.int .i64 m) 70
  have F0 := Aside0.mk (Fr.alloc (S := No) W (.cells #[.int .i64 4, .int .i64 m] 70))
  go_enter Try.func46, Try.ntmps46
  go_wp2_with (first | (go_at_call 52; go_must (refine (Bytes_nil _ _).mono ?_; rintro e' w1 ⟨rfl, q2⟩; have hc1 := pw_cell_below q2.no by'; have Q1 := Aside0.mk (F0.out.tr q2); clear q2)) | (go_at_call 96; go_must (refine (mBytes_nil _ _).mono ?_; rintro e' w2 ⟨rfl, rfl⟩)) | (go_at_call 24; go_must (refine (KBytes_same _ none none 0 0 0 0 [] (fun h => absurd rfl h) (fun h => absurd rfl h) rfl rfl (by omega) (by omega) (by omega)).mono ?_; rintro e' w3 ⟨rfl, m3, rfl⟩)))
  go_loopw [9] (fun v9 wr => ∃ k : Nat, v9 = .int .i64 0 ∧ wr = w2.drewN k) (fun v9 _ => 0)
  case atStart => exact ⟨_, rfl, rfl⟩
  case round =>
    obtain ⟨k, rfl, rfl⟩ := hrel
    go_wp2_with fail
    go_ret
    exact ⟨rfl, Q1.out.tr (Fr.drewN _ _)⟩
set_option maxRecDepth 100000 in
set_option maxHeartbeats 1000000 in
theorem onil_o (op : Int) (h0 : ¬ op = 0) (h1 : ¬ op = 1) (h2 : ¬ op = 2) (h3 : ¬ op = 3) (h4 : ¬ op = 4) (h5 : ¬ op = 5) (m : Int) : Calls Try.prog 46 #[.pointer none, .pointer none, .agg #[.int .i64 op, .int .i64 m]] W fun e' w' => e' = .returned (.bool true) ∧ Fr No W w' := by
  obtain ⟨bx, by'⟩ := box2 W (.int .i64 op) (.int .i64 m) 70
  have F0 := Aside0.mk (Fr.alloc (S := No) W (.cells #[.int .i64 op, .int .i64 m] 70))
  have k0 : (op == 0) = false := by simp [h0]
  have k1 : (op == 1) = false := by simp [h1]
  have k2 : (op == 2) = false := by simp [h2]
  have k3 : (op == 3) = false := by simp [h3]
  have k4 : (op == 4) = false := by simp [h4]
  have k5 : (op == 5) = false := by simp [h5]
  clear h0 h1 h2 h3 h4 h5
  go_enter Try.func46, Try.ntmps46
  go_wp2_with fail
  go_ret
  exact ⟨rfl, F0.out⟩
theorem one_nil (op m : Int) : Calls Try.prog 46 #[.pointer none, .pointer none, .agg #[.int .i64 op, .int .i64 m]] W fun e' w' => e' = .returned (.bool true) ∧ Fr No W w' := by
  by_cases h0 : op = 0
  · subst h0; exact onil_u m
  by_cases h1 : op = 1
  · subst h1; exact onil_i m
  by_cases h2 : op = 2
  · subst h2; exact onil_s m
  by_cases h3 : op = 3
  · subst h3; exact onil_t m
  by_cases h4 : op = 4
  · subst h4; exact onil_b m
  by_cases h5 : op = 5
  · subst h5; exact onil_e m
  exact onil_o op h0 h1 h2 h3 h4 h5 m
theorem one_any {w0 : World} {g1 g2 n c i : Nat} {A : Option Addr} {xs : List Int} {e : Int} (h : Syn w0 W g1 g2 A n c xs i e i e) (I : Inp w0 A n c xs) (op m : Int) (hm0 : -9223372036854775808 ≤ m) (hm1 : m ≤ 9223372036854775807) : Calls Try.prog 46 #[.pointer (some ⟨g1, 0, none⟩), .pointer (some ⟨g2, 0, none⟩), .agg #[.int .i64 op, .int .i64 m]] W fun e' w' => e' = .returned (.bool true) ∧ Kept w0 w' g1 g2 A n c xs e := by
  by_cases h0 : op = 0
  · subst h0; exact one_u h I m hm0 hm1
  by_cases h1 : op = 1
  · subst h1; exact one_i h I m hm0 hm1
  by_cases h2 : op = 2
  · subst h2; exact one_s h I m hm0 hm1
  by_cases h3 : op = 3
  · subst h3; exact one_t h I m hm0 hm1
  by_cases h4 : op = 4
  · subst h4; exact one_b h I m hm0 hm1
  by_cases h5 : op = 5
  · subst h5; exact one_e h I m hm0 hm1
  exact one_o h I op h0 h1 h2 h3 h4 h5 m hm0 hm1
end
end Go.Proofs.Ytchcimkmjoegdaa.C
