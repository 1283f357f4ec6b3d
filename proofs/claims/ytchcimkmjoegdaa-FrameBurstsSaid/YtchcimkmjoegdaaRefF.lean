/- The reference's reader of chapter 2: Bytes, End. Conditions: the lengths' bounds. -/
import Derived.Test.YtchcimkmjoegdaaRefE
import Derived.Test.YtchcimkmjoegdaaPuts
import Derived.Test.YtchcimkmjoegdaaMemD
namespace Go.Proofs.Ytchcimkmjoegdaa.C
open Go.RowKit Go.Proofs.YtchcimkmjoegdaaW.PrintWords Go.Proofs.YtchcimkmjoegdaaW.PrintMore Go.Proofs.Ytchcimkmjoegdaa.M
set_option linter.unusedVariables false
set_option linter.unusedSimpArgs false
section
variable (w : World) (g : Nat) (A : Option Addr) (n c : Nat) (xs : List Int) (i : Nat) (e : Int)

set_option maxRecDepth 100000 in
set_option maxHeartbeats 400000 in
theorem mEnd_nil : Calls Try.prog 91 #[.pointer none] w fun e' w' => e' = .returned (.int .i64 20) ∧ Fr No w w' := by
  go_enter Try.func91, Try.ntmps91
  go_wp2_with fail
  go_quiet (fail)
  go_wp2_with (go_at_call 48; go_must (refine (mErr_nil _).mono ?_; rintro e' w1 ⟨rfl, rfl⟩))
  go_ret
  exact ⟨rfl, Fr.drewN _ _⟩
set_option maxRecDepth 100000 in
set_option maxHeartbeats 1000000 in
theorem mEnd_any (h : w.heap[g]? = some (.cells #[.slice A n c, .int .i64 i, .int .i64 e] 67 (0, 0))) (hl : xs.length = n) (hi : i ≤ n) (hn : n ≤ 140737488355328) :
    Calls Try.prog 91 #[.pointer (some ⟨g, 0, none⟩)] w fun e' w' => e' = .returned (.int .i64 (rE xs i e)) ∧ w'.heap[g]? = some (.cells #[.slice A n c, .int .i64 i, .int .i64 (rE xs i e)] 67 (0, 0)) ∧ Fr (One g) w w' := by
  obtain ⟨c0, c1, c2, f1, f2⟩ := t3_cells h
  have H := Aside0.mk h
  clear h
  by_cases he : e = 0
  · subst he
    by_cases hlt : i < n
    · go_enter Try.func91, Try.ntmps91
      go_wp2_with fail
      go_quiet (fail)
      have HE := Aside0.mk (mErr_any _ g A n c i 20 (t3_set2 (w := w.drewN nq) (x := .int .i64 20) H.out))
      go_wp2_with (go_at_call 48; go_must (refine HE.out.mono ?_; rintro e' w1 ⟨rfl, rfl⟩))
      go_ret
      have hr : rE xs i 0 = 20 := by unfold rE; rw [if_pos (by omega)]
      rw [hr]
      exact ⟨rfl, t3_set2 (w := w.drewN nq) H.out, (Fr.drewN w _).trans (Fr.setCell (S := One g) (w.drewN nq) ⟨g, 2, none⟩ _ rfl) (fun _ _ h => h) (fun _ _ h => h)⟩
    · go_enter Try.func91, Try.ntmps91
      go_wp2_with fail
      go_quiet (fail)
      have HE := Aside0.mk (mErr_any (w.drewN nq) g A n c i 0 H.out)
      go_wp2_with (go_at_call 48; go_must (refine HE.out.mono ?_; rintro e' w1 ⟨rfl, rfl⟩))
      go_ret
      have hr : rE xs i 0 = 0 := by unfold rE; rw [if_neg (by omega)]
      rw [hr]
      exact ⟨rfl, H.out, Fr.drewN w _⟩
  · have heb : (e == 0) = false := by simp [he]
    have HE0 := Aside0.mk he
    clear he
    go_enter Try.func91, Try.ntmps91
    go_wp2_with fail
    go_quiet (fail)
    have HE := Aside0.mk (mErr_any (w.drewN nq) g A n c i e H.out)
    go_wp2_with (go_at_call 48; go_must (refine HE.out.mono ?_; rintro e' w1 ⟨rfl, rfl⟩))
    go_ret
    have hr : rE xs i e = e := by unfold rE; rw [if_neg (fun h => HE0.out h.1)]
    rw [hr]
    exact ⟨rfl, H.out, Fr.drewN w _⟩
set_option maxRecDepth 100000 in
set_option maxHeartbeats 400000 in
theorem mBytes_nil (m : Int) : Calls Try.prog 96 #[.pointer none, .int .i64 m] w fun e' w' => e' = .returned (.slice none 0 0) ∧ w' = w := by
  go_enter Try.func96, Try.ntmps96
  go_wp2_with fail
  go_ret
  exact ⟨rfl, rfl⟩
set_option maxRecDepth 100000 in
set_option maxHeartbeats 400000 in
theorem mBytes_err (m : Int) (h : w.heap[g]? = some (.cells #[.slice A n c, .int .i64 i, .int .i64 e] 67 (0, 0))) (he : e ≠ 0) : Calls Try.prog 96 #[.pointer (some ⟨g, 0, none⟩), .int .i64 m] w fun e' w' => e' = .returned (.slice none 0 0) ∧ w' = w := by
  obtain ⟨c0, c1, c2, f1, f2⟩ := t3_cells h
  have heb : (e != 0) = true := by simp [he]
  clear h he
  go_enter Try.func96, Try.ntmps96
  go_wp2_with fail
  go_ret
  exact ⟨rfl, rfl⟩
set_option maxRecDepth 100000 in
set_option maxHeartbeats 1000000 in
theorem mBytes_neg (m : Int) (h : w.heap[g]? = some (.cells #[.slice A n c, .int .i64 i, .int .i64 0] 67 (0, 0))) (hm : m < 0) : Calls Try.prog 96 #[.pointer (some ⟨g, 0, none⟩), .int .i64 m] w fun e' w' => e' = .returned (.slice none 0 0) ∧ w'.heap[g]? = some (.cells #[.slice A n c, .int .i64 i, .int .i64 20] 67 (0, 0)) ∧ Fr (One g) w w' := by
  obtain ⟨c0, c1, c2, f1, f2⟩ := t3_cells h
  have H := Aside0.mk h
  clear h
  go_enter Try.func96, Try.ntmps96
  go_wp2_with fail
  go_quiet (fail)
  go_wp2_with fail
  go_ret
  exact ⟨rfl, t3_set2 (w := w.drewN nq) H.out, (Fr.drewN w _).trans (Fr.setCell (S := One g) (w.drewN nq) ⟨g, 2, none⟩ _ rfl) (fun _ _ h => h) (fun _ _ h => h)⟩
set_option maxRecDepth 100000 in
set_option maxHeartbeats 1000000 in
theorem mBytes_big (m : Int) (h : w.heap[g]? = some (.cells #[.slice A n c, .int .i64 i, .int .i64 0] 67 (0, 0))) (hm : ¬ m < 0) (hi : i ≤ n) (hn : n ≤ 140737488355328) (hb : (n : Int) - i < m) : Calls Try.prog 96 #[.pointer (some ⟨g, 0, none⟩), .int .i64 m] w fun e' w' => e' = .returned (.slice none 0 0) ∧ w'.heap[g]? = some (.cells #[.slice A n c, .int .i64 i, .int .i64 20] 67 (0, 0)) ∧ Fr (One g) w w' := by
  obtain ⟨c0, c1, c2, f1, f2⟩ := t3_cells h
  have H := Aside0.mk h
  have hw1' : IntKind.i64.wrap ((n : Int) - i) = n - i := by rw [IntKind.wrap_i64]; omega
  clear h
  go_enter Try.func96, Try.ntmps96
  go_wp2_with fail
  go_quiet (fail)
  go_wp2_with fail
  go_ret
  exact ⟨rfl, t3_set2 (w := w.drewN nq) H.out, (Fr.drewN w _).trans (Fr.setCell (S := One g) (w.drewN nq) ⟨g, 2, none⟩ _ rfl) (fun _ _ h => h) (fun _ _ h => h)⟩
set_option maxRecDepth 100000 in
set_option maxHeartbeats 4000000 in
theorem mBytes_ok (m : Nat) (h : w.heap[g]? = some (.cells #[.slice A n c, .int .i64 i, .int .i64 0] 67 (0, 0))) (hr : RdV w A (nums .u8 xs)) (hl : xs.length = n) (hc : n ≤ c) (hn : n ≤ 140737488355328) (hm : i + m ≤ n) :
    Calls Try.prog 96 #[.pointer (some ⟨g, 0, none⟩), .int .i64 m] w fun e' w' => ∃ v, e' = .returned v ∧ Win w' w.heap.size 5 1 v m (nums .u8 ((xs.drop i).take m)) ∧ w'.heap[g]? = some (.cells #[.slice A n c, .int .i64 ((i + m : Nat) : Int), .int .i64 0] 67 (0, 0)) ∧ Fr (One g) w w' := by
  obtain ⟨c0, c1, c2, f1, f2⟩ := t3_cells h
  have H := Aside0.mk h
  obtain ⟨i0, hi0, _, hsz, _⟩ := info_parts info5
  obtain ⟨A2, hcut2, hrd2, _⟩ := cutlh_rd (P := Try.prog) 22 5 .i64 .i64 Try.underlying22 hi0 hsz A n c i (i + m) (by omega) hm hc
  rw [Nat.add_sub_cancel_left] at hcut2
  simp only [Int.natCast_add] at hcut2
  have HRD := Aside0.mk (show ∀ W, RdV W A (nums .u8 xs) → RdV W A2 (nums .u8 ((xs.drop i).take m)) from fun W hW => by
    have := hrd2 W (nums .u8 xs) (by simp [nums, hl]) hW
    rw [nums_drop, nums_take, Nat.add_sub_cancel_left] at this
    exact this)
  have HR := Aside0.mk hr
  have HM := Aside0.mk (show ((xs.drop i).take m).length = m from by simp; omega)
  have HB0 := Aside0.mk (show 0 + m ≤ maxLen ∧ (0 + m + (0 + m) / 4 + 700) * 1 ≤ 281474976710656 from small_bound (by omega))
  have hnm : ¬ (m : Int) < 0 := by omega
  have hnb : ¬ (n : Int) - i < m := by omega
  have hw1' : IntKind.i64.wrap ((n : Int) - i) = n - i := by rw [IntKind.wrap_i64]; omega
  clear h hr hl hi0 hsz hrd2
  go_enter Try.func96, Try.ntmps96
  go_wp2_with fail
  go_quiet (fail)
  go_wp2_with fail
  have hwim : IntKind.i64.wrap ((i : Int) + m) = i + m := by rw [IntKind.wrap_i64]; omega
  have hwi2 : wrap64 ((i : Int) + m) = i + m := by unfold wrap64; omega
  have hz1 : (0 : Int) ≤ i := by omega
  have hz2 : (i : Int) ≤ i + m := by omega
  have hz3 : (i : Int) + m ≤ n := by omega
  have hz4 : (i : Int) + m ≤ c := by omega
  go_region_held3 (fun w' => w'.cell? ⟨g, 0, none⟩ = some (.slice A n c) ∧ w'.cell? ⟨g, 1, none⟩ = some (.int .i64 (i : Int))) ((first | exact ⟨by simpa using c0, by simpa using c1⟩ | exact ⟨by assumption, by assumption⟩)) (first | (refine step_append (w.drewN nq).drew (w.drewN nq).heap.size rfl (.tmp 34) (.tmp 49) 22 22 5 (.int .u8 0) 1 1 (.slice 5) rfl Try.underlying22 Try.underlying22 (.inl ⟨_, rfl⟩) info5 rfl (.slice none 0 0) 0 [] (.slice A2 m (c - i)) m (nums .u8 ((xs.drop i).take m)) rfl rfl (Win.nil _ _ _ _) (src_nums (HRD.out _ (HR.out.below (below_drew (accDrew (Below.refl _ _) nq)))) HM.out) (Nat.le_refl _) HB0.out.1 HB0.out.2 ?_; intro v1 w2 g1 _ g3 _; have G1 := Aside0.mk g1; have G3 := Aside0.mk (show Fr No (w.drewN nq).drew w2 from g3.mono (fun _ _ h => (At.none h).elim)); clear g1 g3; have hc0 := pw_cell_below G3.out.no (show (w.drewN nq).drew.cell? ⟨g, 0, none⟩ = some (.slice A n c) by simpa using c0); have hc1 := pw_cell_below G3.out.no (show (w.drewN nq).drew.cell? ⟨g, 1, none⟩ = some (.int .i64 (i : Int)) by simpa using c1)))
  have H2 := Aside0.mk (show w2.heap[g]? = some (.cells #[.slice A n c, .int .i64 i, .int .i64 0] 67 (0, 0)) from G3.out.get (w := (w.drewN nq).drew) H.out (fun h => h))
  obtain ⟨d0, d1, d2, k1, k2⟩ := t3_cells H2.out
  clear c0 c1 c2 f1 f2
  go_wp2_with fail
  go_ret
  have g1 := G1.out
  rw [Nat.zero_add, List.nil_append] at g1
  have g1' : Win w2 w.heap.size 5 1 v1 m (nums .u8 ((xs.drop i).take m)) := g1
  have hs := Fr.setCell (S := One g) w2 ⟨g, 1, none⟩ (.int .i64 ((i : Int) + m)) rfl
  refine ⟨_, rfl, g1'.fr hs (fun k hk hs => by
    have hs' : k = g := hs
    subst hs'
    exact g1'.young hk (blk_lt H.out)), t3_set1 H2.out, ?_⟩
  exact (((Fr.drewN w nq).trans (Fr.of_below (below_drew (Below.refl _ _)) No) (fun _ _ h => h) (fun _ _ h => h)).trans G3.out (fun _ _ h => h) (fun _ _ h => h)).trans hs (fun _ _ h => h.elim) (fun _ _ h => h)
theorem mBytes_any (m : Int) (h : w.heap[g]? = some (.cells #[.slice A n c, .int .i64 i, .int .i64 e] 67 (0, 0))) (hr : RdV w A (nums .u8 xs)) (hl : xs.length = n) (hi : i ≤ n) (hc : n ≤ c) (hn : n ≤ 140737488355328) :
    Calls Try.prog 96 #[.pointer (some ⟨g, 0, none⟩), .int .i64 m] w fun e' w' => ∃ v, e' = .returned v ∧ Win w' w.heap.size 5 1 v (rB xs i e m).1.length (nums .u8 (rB xs i e m).1) ∧ w'.heap[g]? = some (.cells #[.slice A n c, .int .i64 ((rB xs i e m).2.1 : Nat), .int .i64 (rB xs i e m).2.2] 67 (0, 0)) ∧ Fr (One g) w w' := by
  by_cases he : e = 0
  · subst he
    by_cases h0 : m < 0
    · have hr' : rB xs i 0 m = ([], i, 20) := by simp only [rB, if_pos]; rw [if_neg (by omega)]
      rw [hr']
      refine (mBytes_neg w g A n c i m h h0).mono ?_
      rintro e' w' ⟨rfl, q1, q2⟩
      exact ⟨_, rfl, Win.nil _ _ _ _, q1, q2⟩
    · by_cases h1 : (n : Int) - i < m
      · have hr' : rB xs i 0 m = ([], i, 20) := by simp only [rB, if_pos]; rw [if_neg (by omega)]
        rw [hr']
        refine (mBytes_big w g A n c i m h h0 hi hn h1).mono ?_
        rintro e' w' ⟨rfl, q1, q2⟩
        exact ⟨_, rfl, Win.nil _ _ _ _, q1, q2⟩
      · obtain ⟨k, rfl⟩ := Int.eq_ofNat_of_zero_le (Int.not_lt.1 h0)
        have hr' : rB xs i 0 (k : Int) = ((xs.drop i).take k, i + k, 0) := by simp only [rB, if_pos]; rw [if_pos (by omega)]; rfl
        rw [hr']
        have hlen : ((xs.drop i).take k).length = k := by simp; omega
        rw [hlen]
        exact mBytes_ok w g A n c xs i k h hr hl hc hn (by omega)
  · have hr' : rB xs i e m = ([], i, e) := by simp [rB, he]
    rw [hr']
    refine (mBytes_err w g A n c i e m h he).mono ?_
    rintro e' w' ⟨rfl, rfl⟩
    exact ⟨_, rfl, Win.nil _ _ _ _, h, Fr.refl _ _⟩
end
end Go.Proofs.Ytchcimkmjoegdaa.C
