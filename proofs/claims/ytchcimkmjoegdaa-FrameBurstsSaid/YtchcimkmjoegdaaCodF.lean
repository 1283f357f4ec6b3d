/- The codec's reader: Bytes, End. Conditions: as each theorem states. -/
import Derived.Test.YtchcimkmjoegdaaCodE
import Derived.Test.YtchcimkmjoegdaaMemB
import Derived.Deep.RegionHeld3
namespace Go.Proofs.Ytchcimkmjoegdaa.C
open Go.RowKit Go.Proofs.YtchcimkmjoegdaaW.PrintWords Go.Proofs.YtchcimkmjoegdaaW.PrintMore Go.Proofs.Ytchcimkmjoegdaa.M
set_option linter.unusedVariables false
set_option linter.unusedSimpArgs false

set_option maxHeartbeats 400000 in
theorem bytes_bad (w : World) (A : Option Addr) (n c : Nat) (q : Addr) (m : Int) (hn : n ≤ 9223372036854775807) (hq : w.cell? q = some (.int .i64 m)) (hm : m < 0 ∨ (n : Int) < m) :
    Calls Try.prog 98 #[.slice A n c, .pointer (some q)] w fun e w' => e = .returned (.tuple #[.slice none 0 0, .int .i64 (-1)]) ∧ w' = w := by
  have hcase : m < 0 ∨ (0 ≤ m ∧ (n : Int) < m) := by omega
  clear hm
  rcases hcase with h0 | ⟨h0, h1⟩
  all_goals
    go_enter Try.func98, Try.ntmps98
    go_wp2_with fail
    go_ret2
    exact ⟨rfl, rfl⟩
set_option maxHeartbeats 1000000 in
theorem bytes_ok (w : World) (A : Option Addr) (n c : Nat) (b : List Int) (q : Addr) (m : Nat) (hr : RdV w A (nums .u8 b)) (hl : b.length = n) (h0 : A = none → c = 0) (hc : n ≤ c) (hn : n ≤ 140737488355328) (hq : w.cell? q = some (.int .i64 m)) (hm : m ≤ n) :
    Calls Try.prog 98 #[.slice A n c, .pointer (some q)] w fun e w' => ∃ v, e = .returned (.tuple #[v, .int .i64 m]) ∧ Win w' w.heap.size 5 1 v m (nums .u8 (b.take m)) ∧ Fr No w w' := by
  obtain ⟨i0, hi, _, hsz, _⟩ := info_parts info5
  have hcut := cuth (P := Try.prog) 22 5 .i64 Try.underlying22 hi A n c m (by omega)
  have CL := Aside0.mk (fun W (h : RdV W A (nums .u8 (b.take m))) => clone_any W A m c (nums .u8 (b.take m)) h (by simp [nums]; omega) h0 (by omega) (nums_one _ _) (by omega))
  have HR := Aside0.mk (nums_take .u8 b m ▸ RdV.take hr m : RdV w A (nums .u8 (b.take m)))
  have hm' : (m : Int) ≤ n := by omega
  have hn' : (n : Int) ≤ 9223372036854775807 := by omega
  clear hr hl h0 hi hsz
  go_enter Try.func98, Try.ntmps98
  go_wp2_with fail
  go_region_held3 (fun w' => w'.cell? q = some (.int .i64 m) ∧ Aside0 (RdV w' A (nums .u8 (b.take m))) ∧ Aside0 (Fr No w w')) ((first | exact ⟨by simpa using hq, ⟨HR.out.drew⟩, ⟨Fr.of_below (below_drew (Below.refl _ _)) No⟩⟩ | exact ⟨by assumption, by assumption, by assumption⟩)) (first | (go_at_call 72; refine (CL.out w.drew HR.out.drew).mono ?_; rintro e w1 ⟨v, rfl, hw, hf⟩; have hcq := pw_cell_below hf.no (show w.drew.cell? q = some (.int .i64 m) by simpa using hq); have HRD1 := Aside0.mk (HR.out.drew.below hf.no); have HFR1 := Aside0.mk ((Fr.of_below (below_drew (Below.refl _ _)) No).trans hf (fun _ _ h => h) (fun _ _ h => h)); have HW := Aside0.mk hw; clear hw hf; obtain ⟨A1, c1, e1, l1⟩ := HW.out.shape; subst e1) | (go_at_call 79; refine (clip_any _ A1 m c1 l1 (by omega)).mono ?_; rintro e w2 ⟨rfl, rfl⟩))
  go_wp2_with fail
  go_ret2
  exact ⟨_, rfl, by simpa using HW.out.clip, HFR1.out⟩
set_option maxHeartbeats 1000000 in
theorem take_b_bad (w : World) (base g i : Nat) (xs : List Int) (q : Addr) (h : Rdr w base g xs i 0)
    (hcl : ∀ (A' : Option Addr) (c' m : Nat), RdV w A' (nums .u8 (xs.drop i)) → xs.length - i ≤ c' → Calls Try.prog 98 #[.slice A' (xs.length - i) c', .pointer (some q)] (w.drewN m) fun e w' => e = .returned (.tuple #[.slice none 0 0, .int .i64 (-1)]) ∧ w' = w.drewN m) :
    Calls Try.prog 97 #[.pointer (some ⟨g, 0, none⟩), .func (.func 98) #[] #[.pointer (some q)]] w fun e' w' => e' = .returned (.slice none 0 0) ∧ Rdr w' base g xs i 20 ∧ Fr (One g) w w' := by
  have H := Aside0.mk h
  obtain ⟨h1, h2, v, h3, h4⟩ := h
  obtain ⟨c0, c1, c2, f1, f2⟩ := Rdr.cells h3
  obtain ⟨A, c, rfl, hc⟩ := h4.shape
  have hm := h4.max
  obtain ⟨i0, hi, _, hsz, _⟩ := info_parts info5
  obtain ⟨A', hcut, hrd, _⟩ := cut_rd (P := Try.prog) 22 5 .i64 Try.underlying22 hi hsz A xs.length c i h2
  have HRD := Aside0.mk (nums_drop .u8 xs i ▸ hrd w (nums .u8 xs) hc (by simp [nums]) (RdV.of_win h4))
  have HN := Aside0.mk (fun m => hcl A' (c - i) m HRD.out (by omega))
  clear h4 h3 hrd hi hsz hcl
  go_enter Try.func97, Try.ntmps97
  go_wp2_with fail
  go_quiet ((go_at_call 98; go_must (exact Calls.quiet_of_same (HN.out _))))
  go_wp2_with fail
  go_ret
  have g := (H.out.drewN nq).set2 (e' := 20)
  exact ⟨rfl, g.1, (Fr.drewN w nq).trans g.2 (fun _ _ h => h) (fun _ _ h => h)⟩
set_option maxRecDepth 100000 in
set_option maxHeartbeats 1000000 in
theorem take_b_ok (w : World) (base g i : Nat) (xs : List Int) (q : Addr) (m : Nat) (h : Rdr w base g xs i 0) (hq : w.cell? q = some (.int .i64 m)) (hm : i + m ≤ xs.length) (hn : xs.length ≤ 140737488355328) :
    Calls Try.prog 97 #[.pointer (some ⟨g, 0, none⟩), .func (.func 98) #[] #[.pointer (some q)]] w fun e' w' => ∃ v, e' = .returned v ∧ Win w' w.heap.size 5 1 v m (nums .u8 ((xs.drop i).take m)) ∧ Rdr w' base g xs (i + m) 0 ∧ Fr (One g) w w' := by
  have H := Aside0.mk h
  obtain ⟨h1, h2, v, h3, h4⟩ := h
  obtain ⟨c0, c1, c2, f1, f2⟩ := Rdr.cells h3
  obtain ⟨A, c, rfl, hc⟩ := h4.shape
  have hx := h4.max
  obtain ⟨i0, hi, _, hsz, _⟩ := info_parts info5
  obtain ⟨A', hcut, hrd, hnone⟩ := cut_rd (P := Try.prog) 22 5 .i64 Try.underlying22 hi hsz A xs.length c i h2
  have HRD := Aside0.mk (nums_drop .u8 xs i ▸ hrd w (nums .u8 xs) hc (by simp [nums]) (RdV.of_win h4) : RdV w A' (nums .u8 (xs.drop i)))
  have hc0 : A' = none → c - i = 0 := fun he => by
    obtain rfl := hnone he
    have := h4.nil_cap
    omega
  have HB := Aside0.mk (bytes_ok w.drew A' (xs.length - i) (c - i) (xs.drop i) q m HRD.out.drew (by simp) hc0 (by omega) (by omega) (by simpa using hq) (by omega))
  clear h4 h3 hrd hi hsz hc0 hnone
  go_enter Try.func97, Try.ntmps97
  go_wp2_with fail
  go_region_held3 (fun w' => w'.cell? ⟨g, 0, none⟩ = some (.slice A xs.length c) ∧ w'.cell? ⟨g, 1, none⟩ = some (.int .i64 (i : Int))) ((first | exact ⟨by simpa using c0, by simpa using c1⟩ | exact ⟨by assumption, by assumption⟩)) (first | (go_at_call 98; refine HB.out.mono ?_; rintro e w1 ⟨v, rfl, hw, hf⟩; have hc0 := pw_cell_below hf.no (show w.drew.cell? ⟨g, 0, none⟩ = some (.slice A xs.length c) by simpa using c0); have hc1 := pw_cell_below hf.no (show w.drew.cell? ⟨g, 1, none⟩ = some (.int .i64 (i : Int)) by simpa using c1); have HW := Aside0.mk hw; have HF := Aside0.mk hf; clear hw hf))
  have HF0 := Aside0.mk (show Fr No w w1 from (Fr.of_below (below_drew (Below.refl _ _)) No).trans HF.out (fun _ _ h => h) (fun _ _ h => h))
  have H1 := Aside0.mk (H.out.below HF0.out.no)
  have f1' : w1.frozen? ⟨g, 1, none⟩ = false := by
    obtain ⟨_, _, v', h3', _⟩ := H1.out
    exact (Rdr.cells h3').2.2.2.1
  clear c0 c1 c2 f1 f2 hcut hq
  go_wp2_with fail
  go_ret
  have g1 := H1.out.set1 hm
  simp only [Int.natCast_add] at g1
  refine ⟨v, rfl, ?_, g1.1, ?_⟩
  · have hWb := HW.out
    have hs : w.drew.heap.size = w.heap.size := rfl
    rw [hs] at hWb
    exact hWb.fr g1.2 (fun k hk hs => by
      have hs' : k = g := hs
      subst hs'
      exact hWb.young hk H.out.lt)
  · exact HF0.out.trans g1.2 (fun _ _ h => h.elim) (fun _ _ h => h)
/-- What Bytes answers, and where the reader stands behind it. -/
def rB (xs : List Int) (i : Nat) (e : Int) (m : Int) : List Int × Nat × Int :=
  if e = 0 then (if 0 ≤ m ∧ (i : Int) + m ≤ xs.length then ((xs.drop i).take m.toNat, i + m.toNat, 0) else ([], i, 20)) else ([], i, e)
set_option maxHeartbeats 400000 in
theorem take_b_err (w : World) (base g i : Nat) (xs : List Int) (e : Int) (he : e ≠ 0) (f : Value) (h : Rdr w base g xs i e) :
    Calls Try.prog 97 #[.pointer (some ⟨g, 0, none⟩), f] w fun e' w' => e' = .returned (.slice none 0 0) ∧ w' = w := by
  obtain ⟨h1, h2, v, h3, h4⟩ := h
  obtain ⟨c0, c1, c2, f1, f2⟩ := Rdr.cells h3
  have heb : (e != 0) = true := by simp [he]
  clear h4 h3
  go_enter Try.func97, Try.ntmps97
  go_wp2_with fail
  go_ret
  exact ⟨rfl, rfl⟩
set_option maxHeartbeats 400000 in
theorem take_b_nil (w : World) (f : Value) : Calls Try.prog 97 #[.pointer none, f] w fun e' w' => e' = .returned (.slice none 0 0) ∧ w' = w := by
  go_enter Try.func97, Try.ntmps97
  go_wp2_with fail
  go_ret
  exact ⟨rfl, rfl⟩
theorem box (w : World) (a : Value) (t : TypeId) : (w.alloc (.cells #[a] t)).cell? ⟨w.heap.size, 0, none⟩ = some a := by
  have h := heap_alloc_new w (.cells #[a] t)
  unfold World.cell?
  rw [h]
  rfl
theorem below_one {w w' : World} {S : Nat → Prop} {o : Obj} (h : Fr S (w.alloc o) w') : Fr S w w' := (Fr.alloc (S := No) w o).trans h (fun _ _ h => h.elim) (fun _ _ h => h)
/-- The value that Bytes hands back is a window of its own, or nil. -/
theorem Win.up {w : World} {b b' size n : Nat} {e : TypeId} {v : Value} {xs : List Value} (h : Win w b e size v n xs) (hb : b' ≤ b) : Win w b' e size v n xs := h.lower hb
set_option maxHeartbeats 400000 in
theorem Bytes_any (w : World) (base g i : Nat) (xs : List Int) (e m : Int) (h : Rdr w base g xs i e) (hx : xs.length ≤ 140737488355328) (hm0 : -9223372036854775808 ≤ m) (hm : m ≤ 9223372036854775807) :
    Calls Try.prog 52 #[.pointer (some ⟨g, 0, none⟩), .int .i64 m] w fun e' w' => ∃ v, e' = .returned v ∧ Win w' w.heap.size 5 1 v (rB xs i e m).1.length (nums .u8 (rB xs i e m).1) ∧ Rdr w' base g xs (rB xs i e m).2.1 (rB xs i e m).2.2 ∧ Fr (One g) w w' := by
  have bx := box w (.int .i64 m) 3
  have hW := h.below (below_alloc (Below.refl _ _) (.cells #[.int .i64 m] 3))
  have BX := Aside0.mk bx
  have hi := h.2.1
  by_cases he : e = 0
  · subst he
    by_cases hle : 0 ≤ m ∧ (i : Int) + m ≤ xs.length
    · obtain ⟨k, rfl⟩ := Int.eq_ofNat_of_zero_le hle.1
      have T := Aside0.mk (take_b_ok _ base g i xs ⟨w.heap.size, 0, none⟩ k hW BX.out (by omega) hx)
      have hr : rB xs i 0 (k : Int) = ((xs.drop i).take k, i + k, 0) := by unfold rB; rw [if_pos rfl, if_pos hle]; simp
      rw [hr]
      have hlen : ((xs.drop i).take k).length = k := by simp; omega
      have HLEN := Aside0.mk hlen
      clear hr h hW bx hle hlen
      go_enter Try.func52, Try.ntmps52
      go_wp2_with (go_at_call 97; go_must (refine T.out.mono ?_; rintro e' w1 ⟨v, rfl, q1, q2, q3⟩; have Q1 := Aside0.mk q1; have Q2 := Aside0.mk q2; have Q3 := Aside0.mk q3; clear q1 q2 q3))
      go_ret
      exact ⟨v, rfl, by rw [HLEN.out]; exact Q1.out.lower (by simp), Q2.out, below_one Q3.out⟩
    · have T := Aside0.mk (take_b_bad _ base g i xs ⟨w.heap.size, 0, none⟩ hW (fun A' c' k hrd hc => bytes_bad _ A' (xs.length - i) c' _ m (by omega) ((cell_drewN _ _ k).trans BX.out) (by omega)))
      have hr : rB xs i 0 m = ([], i, 20) := by unfold rB; rw [if_pos rfl, if_neg hle]
      rw [hr]
      clear hr h hW bx hle
      go_enter Try.func52, Try.ntmps52
      go_wp2_with (go_at_call 97; go_must (refine T.out.mono ?_; rintro e' w1 ⟨rfl, q2, q3⟩; have Q2 := Aside0.mk q2; have Q3 := Aside0.mk q3; clear q2 q3))
      go_ret
      exact ⟨_, rfl, Win.nil _ _ _ _, Q2.out, below_one Q3.out⟩
  · have T := Aside0.mk (fun f => take_b_err _ base g i xs e he f hW)
    have hr : rB xs i e m = ([], i, e) := by simp [rB, he]
    rw [hr]
    have HW := Aside0.mk hW
    clear hr hW h bx
    go_enter Try.func52, Try.ntmps52
    go_wp2_with (go_at_call 97; go_must (refine (T.out _).mono ?_; rintro e' w1 ⟨rfl, rfl⟩))
    go_ret
    exact ⟨_, rfl, Win.nil _ _ _ _, HW.out, below_one (Fr.refl _ _)⟩
set_option maxHeartbeats 400000 in
theorem Bytes_nil (w : World) (m : Int) : Calls Try.prog 52 #[.pointer none, .int .i64 m] w fun e' w' => e' = .returned (.slice none 0 0) ∧ Fr No w w' := by
  go_enter Try.func52, Try.ntmps52
  go_wp2_with (go_at_call 97; go_must (refine (take_b_nil _ _).mono ?_; rintro e' w1 ⟨rfl, rfl⟩))
  go_ret
  exact ⟨rfl, below_one (Fr.refl _ _)⟩
/-- End's error. -/
def rE (xs : List Int) (i : Nat) (e : Int) : Int := if e = 0 ∧ i < xs.length then 20 else e
set_option maxHeartbeats 400000 in
theorem End_any (w : World) (base g i : Nat) (xs : List Int) (e : Int) (h : Rdr w base g xs i e) :
    Calls Try.prog 35 #[.pointer (some ⟨g, 0, none⟩)] w fun e' w' => e' = .returned (.int .i64 (rE xs i e)) ∧ Rdr w' base g xs i (rE xs i e) ∧ Fr (One g) w w' := by
  have H := Aside0.mk h
  obtain ⟨h1, h2, v, h3, h4⟩ := h
  obtain ⟨c0, c1, c2, f1, f2⟩ := Rdr.cells h3
  have hL := Aside0.mk (Left_any w base g i xs e H.out)
  clear h3 h4
  by_cases he : e = 0
  · subst he
    by_cases hi : i < xs.length
    · have hr : rE xs i 0 = 20 := by simp [rE, hi]
      rw [hr]
      have hpos : 0 < (xs.length : Int) - i := by omega
      have hE := Aside0.mk (fun m => Err_any ((w.drewN m).setCell ⟨g, 2, none⟩ (.int .i64 20)) base g i xs 20 ((H.out.drewN m).set2 (e' := 20)).1)
      clear hr
      go_enter Try.func35, Try.ntmps35
      go_wp2_with (first | (go_at_call 20; go_must (refine hL.out.mono ?_; rintro e' w1 ⟨rfl, m, rfl⟩)) | (go_at_call 22; go_must (refine (hE.out _).mono ?_; rintro e' w1 ⟨rfl, rfl⟩)))
      go_ret
      have g := (H.out.drewN m).set2 (e' := 20)
      exact ⟨rfl, g.1, (Fr.drewN w m).trans g.2 (fun _ _ h => h) (fun _ _ h => h)⟩
    · have hr : rE xs i 0 = 0 := by simp [rE, hi]
      rw [hr]
      have hpos : ¬ 0 < (xs.length : Int) - i := by omega
      have hE := Aside0.mk (fun m => Err_any (w.drewN m) base g i xs 0 (H.out.drewN m))
      clear hr
      go_enter Try.func35, Try.ntmps35
      go_wp2_with (first | (go_at_call 20; go_must (refine hL.out.mono ?_; rintro e' w1 ⟨rfl, m, rfl⟩)) | (go_at_call 22; go_must (refine (hE.out _).mono ?_; rintro e' w1 ⟨rfl, rfl⟩)))
      go_ret
      exact ⟨rfl, H.out.drewN m, Fr.drewN w m⟩
  · have hr : rE xs i e = e := by simp [rE, he]
    rw [hr]
    have heb : (e == 0) = false := by simp [he]
    have hE := Aside0.mk (Err_any w base g i xs e H.out)
    clear hr
    go_enter Try.func35, Try.ntmps35
    go_wp2_with (first | (go_at_call 22; go_must (refine hE.out.mono ?_; rintro e' w1 ⟨rfl, rfl⟩)))
    go_ret
    exact ⟨rfl, H.out, Fr.refl _ _⟩
set_option maxHeartbeats 400000 in
theorem End_nil (w : World) : Calls Try.prog 35 #[.pointer none] w fun e' w' => e' = .returned (.int .i64 20) ∧ w' = w := by
  go_enter Try.func35, Try.ntmps35
  go_wp2_with (first | (go_at_call 22; go_must (refine (Err_nil _).mono ?_; rintro e' w1 ⟨rfl, rfl⟩)))
  go_ret
  exact ⟨rfl, rfl⟩
end Go.Proofs.Ytchcimkmjoegdaa.C
