/- The reader with its list named: Bytes leaves the list's place alone. Turned by program from CodF. Conditions: as there. -/
import Derived.Test.YtchcimkmjoegdaaCodF
import Derived.Deep.RegionHeld3
namespace Go.Proofs.Ytchcimkmjoegdaa.C
open Go.RowKit Go.Proofs.YtchcimkmjoegdaaW.PrintWords Go.Proofs.YtchcimkmjoegdaaW.PrintMore Go.Proofs.Ytchcimkmjoegdaa.M
set_option linter.unusedVariables false
set_option linter.unusedSimpArgs false

def RdrV (w : World) (base g : Nat) (v : Value) (xs : List Int) (i : Nat) (e : Int) : Prop :=
  base ≤ g ∧ i ≤ xs.length ∧ w.heap[g]? = some (.cells #[v, .int .i64 i, .int .i64 e] 108 (0, 0)) ∧ Win w base 5 1 v xs.length (nums .u8 xs)
theorem RdrV.rdr {w : World} {base g i : Nat} {v : Value} {xs : List Int} {e : Int} (h : RdrV w base g v xs i e) : Rdr w base g xs i e := ⟨h.1, h.2.1, v, h.2.2.1, h.2.2.2⟩
theorem Rdr.open {w : World} {base g i : Nat} {xs : List Int} {e : Int} (h : Rdr w base g xs i e) : ∃ v, RdrV w base g v xs i e ∧ ∀ k, At v k → k < w.heap.size := by
  obtain ⟨h1, h2, v, h3, h4⟩ := h
  exact ⟨v, ⟨h1, h2, h3, h4⟩, fun k hk => (h4.at_ hk).2.1⟩
theorem RdrV.below {w w' : World} {base g i : Nat} {v : Value} {xs : List Int} {e : Int} (h : RdrV w base g v xs i e) (hb : Below w.heap.size w w') : RdrV w' base g v xs i e :=
  ⟨h.1, h.2.1, (hb.block g (blk_lt h.2.2.1)).trans h.2.2.1, h.2.2.2.below hb⟩
theorem RdrV.lt {w : World} {base g i : Nat} {v : Value} {xs : List Int} {e : Int} (h : RdrV w base g v xs i e) : g < w.heap.size := blk_lt h.2.2.1
theorem RdrV.fr {S : Nat → Prop} {w w' : World} {base g i : Nat} {v : Value} {xs : List Int} {e : Int} (h : RdrV w base g v xs i e) (hf : Fr S w w') (hg : ¬ S g) (hS : ∀ k, At v k → ¬ S k) : RdrV w' base g v xs i e :=
  ⟨h.1, h.2.1, hf.get h.2.2.1 hg, h.2.2.2.fr hf hS⟩
theorem RdrV.set1 {w : World} {base g i j : Nat} {v : Value} {xs : List Int} {e : Int} (h : RdrV w base g v xs i e) (hj : j ≤ xs.length) : RdrV (w.setCell ⟨g, 1, none⟩ (.int .i64 j)) base g v xs j e ∧ Fr (One g) w (w.setCell ⟨g, 1, none⟩ (.int .i64 j)) := by
  obtain ⟨h1, h2, h3, h4⟩ := h
  have hF : Fr (One g) w (w.setCell ⟨g, 1, none⟩ (.int .i64 j)) := Fr.setCell w _ _ rfl
  refine ⟨⟨h1, hj, C.set1 h3, h4.fr hF fun k hk hs => ?_⟩, hF⟩
  have hs' : k = g := hs
  subst hs'
  exact absurd (h4.ne_type hk h3) (by decide)
theorem RdrV.set2 {w : World} {base g i : Nat} {v : Value} {xs : List Int} {e e' : Int} (h : RdrV w base g v xs i e) : RdrV (w.setCell ⟨g, 2, none⟩ (.int .i64 e')) base g v xs i e' ∧ Fr (One g) w (w.setCell ⟨g, 2, none⟩ (.int .i64 e')) := by
  obtain ⟨h1, h2, h3, h4⟩ := h
  have hF : Fr (One g) w (w.setCell ⟨g, 2, none⟩ (.int .i64 e')) := Fr.setCell w _ _ rfl
  refine ⟨⟨h1, h2, C.set2 h3, h4.fr hF fun k hk hs => ?_⟩, hF⟩
  have hs' : k = g := hs
  subst hs'
  exact absurd (h4.ne_type hk h3) (by decide)
theorem RdrV.drewN {w : World} {base g i : Nat} {v : Value} {xs : List Int} {e : Int} (h : RdrV w base g v xs i e) (m : Nat) : RdrV (w.drewN m) base g v xs i e := h.below (pw_below_drewN (Below.refl _ _) m)
set_option maxHeartbeats 1000000 in
theorem take_bv_bad (w : World) (base g i : Nat) (xs : List Int) (q : Addr) (v0 : Value) (h : RdrV w base g v0 xs i 0)
    (hcl : ∀ (A' : Option Addr) (c' m : Nat), RdV w A' (nums .u8 (xs.drop i)) → xs.length - i ≤ c' → Calls Try.prog 98 #[.slice A' (xs.length - i) c', .pointer (some q)] (w.drewN m) fun e w' => e = .returned (.tuple #[.slice none 0 0, .int .i64 (-1)]) ∧ w' = w.drewN m) :
    Calls Try.prog 97 #[.pointer (some ⟨g, 0, none⟩), .func (.func 98) #[] #[.pointer (some q)]] w fun e' w' => e' = .returned (.slice none 0 0) ∧ RdrV w' base g v0 xs i 20 ∧ Fr (One g) w w' := by
  have H := Aside0.mk h
  obtain ⟨h1, h2, h3, h4⟩ := h
  obtain ⟨c0, c1, c2, f1, f2⟩ := Rdr.cells h3
  obtain ⟨A, c, rfl, hc⟩ := h4.shape
  have hm := h4.max
  obtain ⟨i0, hi, _, hsz, _⟩ := info_parts info5
  obtain ⟨A', hcut, hrd, _⟩ := cut_rd (P := Try.prog) 22 5 .i64 Try.underlying22 hi hsz A xs.length c i h2
  have HRD := Aside0.mk (nums_drop .u8 xs i ▸ hrd w (nums .u8 xs) hc (by simp [nums]) (RdV.of_win h4))
  have HN := Aside0.mk (fun m => hcl A' (c - i) m HRD.out (by omega))
  clear h4 h3 hrd hi hsz hcl
  go_enter Try.func97, Try.ntmps97
  go_wp2_with fail
  go_quiet ((go_at_call 98; go_must (exact Calls.quiet_of_same (HN.out _))))
  go_wp2_with fail
  go_ret
  have g := (H.out.drewN nq).set2 (e' := 20)
  exact ⟨rfl, g.1, (Fr.drewN w nq).trans g.2 (fun _ _ h => h) (fun _ _ h => h)⟩
set_option maxRecDepth 100000 in
set_option maxHeartbeats 1000000 in
theorem take_bv_ok (w : World) (base g i : Nat) (xs : List Int) (q : Addr) (m : Nat) (v0 : Value) (h : RdrV w base g v0 xs i 0) (hq : w.cell? q = some (.int .i64 m)) (hm : i + m ≤ xs.length) (hn : xs.length ≤ 140737488355328) :
    Calls Try.prog 97 #[.pointer (some ⟨g, 0, none⟩), .func (.func 98) #[] #[.pointer (some q)]] w fun e' w' => ∃ v, e' = .returned v ∧ Win w' w.heap.size 5 1 v m (nums .u8 ((xs.drop i).take m)) ∧ RdrV w' base g v0 xs (i + m) 0 ∧ Fr (One g) w w' := by
  have H := Aside0.mk h
  obtain ⟨h1, h2, h3, h4⟩ := h
  obtain ⟨c0, c1, c2, f1, f2⟩ := Rdr.cells h3
  obtain ⟨A, c, rfl, hc⟩ := h4.shape
  have hx := h4.max
  obtain ⟨i0, hi, _, hsz, _⟩ := info_parts info5
  obtain ⟨A', hcut, hrd, hnone⟩ := cut_rd (P := Try.prog) 22 5 .i64 Try.underlying22 hi hsz A xs.length c i h2
  have HRD := Aside0.mk (nums_drop .u8 xs i ▸ hrd w (nums .u8 xs) hc (by simp [nums]) (RdV.of_win h4) : RdV w A' (nums .u8 (xs.drop i)))
  have hc0 : A' = none → c - i = 0 := fun he => by
    obtain rfl := hnone he
    have := h4.nil_cap
    omega
  have HB := Aside0.mk (bytes_ok w.drew A' (xs.length - i) (c - i) (xs.drop i) q m HRD.out.drew (by simp) hc0 (by omega) (by omega) (by simpa using hq) (by omega))
  clear h4 h3 hrd hi hsz hc0 hnone
  go_enter Try.func97, Try.ntmps97
  go_wp2_with fail
  go_region_held3 (fun w' => w'.cell? ⟨g, 0, none⟩ = some (.slice A xs.length c) ∧ w'.cell? ⟨g, 1, none⟩ = some (.int .i64 (i : Int))) ((first | exact ⟨by simpa using c0, by simpa using c1⟩ | exact ⟨by assumption, by assumption⟩)) (first | (go_at_call 98; refine HB.out.mono ?_; rintro e w1 ⟨v, rfl, hw, hf⟩; have hc0 := pw_cell_below hf.no (show w.drew.cell? ⟨g, 0, none⟩ = some (.slice A xs.length c) by simpa using c0); have hc1 := pw_cell_below hf.no (show w.drew.cell? ⟨g, 1, none⟩ = some (.int .i64 (i : Int)) by simpa using c1); have HW := Aside0.mk hw; have HF := Aside0.mk hf; clear hw hf))
  have HF0 := Aside0.mk (show Fr No w w1 from (Fr.of_below (below_drew (Below.refl _ _)) No).trans HF.out (fun _ _ h => h) (fun _ _ h => h))
  have H1 := Aside0.mk (H.out.below HF0.out.no)
  have f1' : w1.frozen? ⟨g, 1, none⟩ = false := by
    obtain ⟨_, _, h3', _⟩ := H1.out
    exact (Rdr.cells h3').2.2.2.1
  clear c0 c1 c2 f1 f2 hcut hq
  go_wp2_with fail
  go_ret
  have g1 := H1.out.set1 hm
  simp only [Int.natCast_add] at g1
  refine ⟨v, rfl, ?_, g1.1, ?_⟩
  · have hWb := HW.out
    have hs : w.drew.heap.size = w.heap.size := rfl
    rw [hs] at hWb
    exact hWb.fr g1.2 (fun k hk hs => by
      have hs' : k = g := hs
      subst hs'
      exact hWb.young hk H.out.lt)
  · exact HF0.out.trans g1.2 (fun _ _ h => h.elim) (fun _ _ h => h)
set_option maxHeartbeats 400000 in
theorem BytesV_any (w : World) (base g i : Nat) (xs : List Int) (e m : Int) (v0 : Value) (h : RdrV w base g v0 xs i e) (hx : xs.length ≤ 140737488355328) (hm0 : -9223372036854775808 ≤ m) (hm : m ≤ 9223372036854775807) :
    Calls Try.prog 52 #[.pointer (some ⟨g, 0, none⟩), .int .i64 m] w fun e' w' => ∃ v, e' = .returned v ∧ Win w' w.heap.size 5 1 v (rB xs i e m).1.length (nums .u8 (rB xs i e m).1) ∧ RdrV w' base g v0 xs (rB xs i e m).2.1 (rB xs i e m).2.2 ∧ Fr (One g) w w' := by
  have bx := box w (.int .i64 m) 3
  have hW := h.below (below_alloc (Below.refl _ _) (.cells #[.int .i64 m] 3))
  have BX := Aside0.mk bx
  have hi := h.2.1
  by_cases he : e = 0
  · subst he
    by_cases hle : 0 ≤ m ∧ (i : Int) + m ≤ xs.length
    · obtain ⟨k, rfl⟩ := Int.eq_ofNat_of_zero_le hle.1
      have T := Aside0.mk (take_bv_ok _ base g i xs ⟨w.heap.size, 0, none⟩ k v0 hW BX.out (by omega) hx)
      have hr : rB xs i 0 (k : Int) = ((xs.drop i).take k, i + k, 0) := by unfold rB; rw [if_pos rfl, if_pos hle]; simp
      rw [hr]
      have hlen : ((xs.drop i).take k).length = k := by simp; omega
      have HLEN := Aside0.mk hlen
      clear hr h hW bx hle hlen
      go_enter Try.func52, Try.ntmps52
      go_wp2_with (go_at_call 97; go_must (refine T.out.mono ?_; rintro e' w1 ⟨v, rfl, q1, q2, q3⟩; have Q1 := Aside0.mk q1; have Q2 := Aside0.mk q2; have Q3 := Aside0.mk q3; clear q1 q2 q3))
      go_ret
      exact ⟨v, rfl, by rw [HLEN.out]; exact Q1.out.lower (by simp), Q2.out, below_one Q3.out⟩
    · have T := Aside0.mk (take_bv_bad _ base g i xs ⟨w.heap.size, 0, none⟩ v0 hW (fun A' c' k hrd hc => bytes_bad _ A' (xs.length - i) c' _ m (by omega) ((cell_drewN _ _ k).trans BX.out) (by omega)))
      have hr : rB xs i 0 m = ([], i, 20) := by unfold rB; rw [if_pos rfl, if_neg hle]
      rw [hr]
      clear hr h hW bx hle
      go_enter Try.func52, Try.ntmps52
      go_wp2_with (go_at_call 97; go_must (refine T.out.mono ?_; rintro e' w1 ⟨rfl, q2, q3⟩; have Q2 := Aside0.mk q2; have Q3 := Aside0.mk q3; clear q2 q3))
      go_ret
      exact ⟨_, rfl, Win.nil _ _ _ _, Q2.out, below_one Q3.out⟩
  · have T := Aside0.mk (fun f => take_b_err _ base g i xs e he f hW.rdr)
    have hr : rB xs i e m = ([], i, e) := by simp [rB, he]
    rw [hr]
    have HW := Aside0.mk hW
    clear hr hW h bx
    go_enter Try.func52, Try.ntmps52
    go_wp2_with (go_at_call 97; go_must (refine (T.out _).mono ?_; rintro e' w1 ⟨rfl, rfl⟩))
    go_ret
    exact ⟨_, rfl, Win.nil _ _ _ _, HW.out, below_one (Fr.refl _ _)⟩
end Go.Proofs.Ytchcimkmjoegdaa.C
