/- The codec's reader, its calls: NewReader, take, Uint, Int, Size, Text, Bytes, Left, Err, End: what each answers and what the reader holds behind it. Conditions: as each theorem states. -/
import Derived.Test.YtchcimkmjoegdaaCodB
namespace Go.Proofs.Ytchcimkmjoegdaa.C
open Go.RowKit Go.Proofs.YtchcimkmjoegdaaW.PrintWords Go.Proofs.YtchcimkmjoegdaaW.PrintMore Go.Proofs.Ytchcimkmjoegdaa.M
set_option linter.unusedVariables false
set_option linter.unusedSimpArgs false

/-- A reader of xs at block g: its place, its error. -/
def Rdr (w : World) (base g : Nat) (xs : List Int) (i : Nat) (e : Int) : Prop :=
  base ≤ g ∧ i ≤ xs.length ∧ ∃ v, w.heap[g]? = some (.cells #[v, .int .i64 i, .int .i64 e] 108 (0, 0)) ∧ Win w base 5 1 v xs.length (nums .u8 xs)
theorem Rdr.below {w w' : World} {base g i : Nat} {xs : List Int} {e : Int} (h : Rdr w base g xs i e) (hb : Below w.heap.size w w') : Rdr w' base g xs i e := by
  obtain ⟨h1, h2, v, h3, h4⟩ := h
  exact ⟨h1, h2, v, (hb.block g (blk_lt h3)).trans h3, h4.below hb⟩
theorem Rdr.lt {w : World} {base g i : Nat} {xs : List Int} {e : Int} (h : Rdr w base g xs i e) : g < w.heap.size := by
  obtain ⟨_, _, v, h3, _⟩ := h
  exact blk_lt h3
/-- Others' blocks turn. -/
theorem Rdr.fr {S : Nat → Prop} {w w' : World} {base g i : Nat} {xs : List Int} {e : Int} (h : Rdr w base g xs i e) (hf : Fr S w w') (hg : ¬ S g) (hS : ∀ k cur, S k → w.heap[k]? ≠ some (.cells cur 5 (0, 0))) : Rdr w' base g xs i e := by
  obtain ⟨h1, h2, v, h3, h4⟩ := h
  exact ⟨h1, h2, v, hf.get h3 hg, h4.fr hf fun k hk hs => by
    obtain ⟨_, _, cur, hc⟩ := h4.at_ hk
    exact hS k cur hs hc⟩
/-- The reader's block written: its place, its error. -/
theorem Rdr.cells {w : World} {g : Nat} {v a b : Value} (h : w.heap[g]? = some (.cells #[v, a, b] 108 (0, 0))) :
    w.cell? ⟨g, 0, none⟩ = some v ∧ w.cell? ⟨g, 1, none⟩ = some a ∧ w.cell? ⟨g, 2, none⟩ = some b ∧ w.frozen? ⟨g, 1, none⟩ = false ∧ w.frozen? ⟨g, 2, none⟩ = false := by
  refine ⟨?_, ?_, ?_, ?_, ?_⟩ <;> simp [World.cell?, World.frozen?, h]
theorem set1 {w : World} {g : Nat} {v a b x : Value} (h : w.heap[g]? = some (.cells #[v, a, b] 108 (0, 0))) : (w.setCell ⟨g, 1, none⟩ x).heap[g]? = some (.cells #[v, x, b] 108 (0, 0)) := by
  simp [World.setCell, Array.getElem?_modify, h]
theorem set2 {w : World} {g : Nat} {v a b x : Value} (h : w.heap[g]? = some (.cells #[v, a, b] 108 (0, 0))) : (w.setCell ⟨g, 2, none⟩ x).heap[g]? = some (.cells #[v, a, x] 108 (0, 0)) := by
  simp [World.setCell, Array.getElem?_modify, h]

set_option maxHeartbeats 400000 in
theorem NewReader_any (w : World) (A : Option Addr) (n c : Nat) (xs : List Int) (hr : RdV w A (nums .u8 xs)) (hl : xs.length = n) (h0 : A = none → c = 0) (hc : n ≤ c) (hn : n ≤ 140737488355328) :
    Calls Try.prog 18 #[.slice A n c] w fun e w' => ∃ g, e = .returned (.pointer (some ⟨g, 0, none⟩)) ∧ Rdr w' w.heap.size g xs 0 0 ∧ Fr No w w' := by
  have CL := Aside0.mk (clone_any w A n c (nums .u8 xs) hr (by simpa [nums] using hl) h0 hc (nums_one _ _) hn)
  clear hr h0 hc hn
  go_enter Try.func18, Try.ntmps18
  go_wp2_with (first | (go_at_call 72; go_must (refine CL.out.mono ?_; rintro e w1 ⟨v, rfl, hw, hf⟩; have HW := Aside0.mk hw; have HF := Aside0.mk hf; clear hw hf; obtain ⟨A1, c1, e1, l1⟩ := HW.out.shape; subst e1)))
  go_ret
  refine ⟨w1.heap.size, rfl, ⟨HF.out.size, by omega, _, heap_alloc_new w1 _, ?_⟩, (HF.out.trans (Fr.alloc (S := No) w1 _) (fun _ _ h => h) (fun _ _ h => h))⟩
  rw [hl]
  exact HW.out.below (below_alloc (Below.refl _ _) _)
set_option maxHeartbeats 400000 in
theorem Err_any (w : World) (base g i : Nat) (xs : List Int) (e : Int) (h : Rdr w base g xs i e) :
    Calls Try.prog 22 #[.pointer (some ⟨g, 0, none⟩)] w fun e' w' => e' = .returned (.int .i64 e) ∧ w' = w := by
  obtain ⟨h1, h2, v, h3, h4⟩ := h
  obtain ⟨c0, c1, c2, f1, f2⟩ := Rdr.cells h3
  clear h4 h3
  go_enter Try.func22, Try.ntmps22
  go_wp2_with fail
  go_ret
  exact ⟨rfl, rfl⟩
set_option maxHeartbeats 400000 in
theorem Left_any (w : World) (base g i : Nat) (xs : List Int) (e : Int) (h : Rdr w base g xs i e) :
    Calls Try.prog 20 #[.pointer (some ⟨g, 0, none⟩)] w fun e' w' => e' = .returned (.int .i64 ((xs.length : Int) - i)) ∧ ∃ m, w' = w.drewN m := by
  obtain ⟨h1, h2, v, h3, h4⟩ := h
  obtain ⟨c0, c1, c2, f1, f2⟩ := Rdr.cells h3
  obtain ⟨A, c, rfl, hc⟩ := h4.shape
  have hm := h4.max
  clear h4 h3
  go_enter Try.func20, Try.ntmps20
  go_wp2_with fail
  go_quiet (fail)
  go_wp2_with fail
  go_ret
  exact ⟨rfl, nq, rfl⟩
set_option maxHeartbeats 400000 in
theorem Err_nil (w : World) : Calls Try.prog 22 #[.pointer none] w fun e' w' => e' = .returned (.int .i64 20) ∧ w' = w := by
  go_enter Try.func22, Try.ntmps22
  go_wp2_with fail
  go_ret
  exact ⟨rfl, rfl⟩
set_option maxHeartbeats 400000 in
theorem Left_nil (w : World) : Calls Try.prog 20 #[.pointer none] w fun e' w' => e' = .returned (.int .i64 0) ∧ w' = w := by
  go_enter Try.func20, Try.ntmps20
  go_wp2_with fail
  go_ret
  exact ⟨rfl, rfl⟩
/-- What Uint answers, and where the reader stands behind it. -/
def rU (xs : List Int) (i : Nat) (e : Int) : Nat × Nat × Int :=
  if e = 0 then (match num (xs.drop i) with | none => (0, i, 20) | some (u, k) => (u, i + k, 0)) else (0, i, e)
theorem Rdr.set1 {w : World} {base g i j : Nat} {xs : List Int} {e : Int} (h : Rdr w base g xs i e) (hj : j ≤ xs.length) : Rdr (w.setCell ⟨g, 1, none⟩ (.int .i64 j)) base g xs j e ∧ Fr (One g) w (w.setCell ⟨g, 1, none⟩ (.int .i64 j)) := by
  obtain ⟨h1, h2, v, h3, h4⟩ := h
  have hF : Fr (One g) w (w.setCell ⟨g, 1, none⟩ (.int .i64 j)) := Fr.setCell w _ _ rfl
  refine ⟨⟨h1, hj, v, C.set1 h3, h4.fr hF fun k hk hs => ?_⟩, hF⟩
  have hs' : k = g := hs
  subst hs'
  exact absurd (h4.ne_type hk h3) (by decide)
theorem Rdr.set2 {w : World} {base g i : Nat} {xs : List Int} {e e' : Int} (h : Rdr w base g xs i e) : Rdr (w.setCell ⟨g, 2, none⟩ (.int .i64 e')) base g xs i e' ∧ Fr (One g) w (w.setCell ⟨g, 2, none⟩ (.int .i64 e')) := by
  obtain ⟨h1, h2, v, h3, h4⟩ := h
  have hF : Fr (One g) w (w.setCell ⟨g, 2, none⟩ (.int .i64 e')) := Fr.setCell w _ _ rfl
  refine ⟨⟨h1, h2, v, C.set2 h3, h4.fr hF fun k hk hs => ?_⟩, hF⟩
  have hs' : k = g := hs
  subst hs'
  exact absurd (h4.ne_type hk h3) (by decide)
theorem Rdr.drewN {w : World} {base g i : Nat} {xs : List Int} {e : Int} (h : Rdr w base g xs i e) (m : Nat) : Rdr (w.drewN m) base g xs i e := h.below (pw_below_drewN (Below.refl _ _) m)
theorem numK_le : ∀ (k : Nat) (b : List Int) (u n : Nat), numK k b = some (u, n) → n ≤ b.length ∧ 0 < n ∧ n ≤ k ∧ u < 128 ^ n
  | 0, b, u, n, h => by cases b <;> cases h
  | k + 1, [], u, n, h => by cases h
  | k + 1, c :: r, u, n, h => by
    rw [numK] at h
    split at h
    · cases h
    · split at h
      · split at h
        · cases h
        · injection h with h
          injection h with h1 h2
          subst h1; subst h2
          exact ⟨by simp, by omega, by omega, by omega⟩
      · obtain ⟨⟨u', n'⟩, hp, he⟩ := Option.map_eq_some_iff.1 h
        injection he with h1 h2
        subst h1; subst h2
        obtain ⟨g1, g2, g3, g4⟩ := numK_le k r u' n' hp
        refine ⟨by simp; omega, by omega, by omega, ?_⟩
        simp only at *
        rw [Nat.pow_succ]
        omega
set_option maxHeartbeats 400000 in
theorem take_u (w : World) (base g i : Nat) (xs : List Int) (e : Int) (p : Value) (h : Rdr w base g xs i e) (hb : Byt xs) :
    Calls Try.prog 73 #[.pointer (some ⟨g, 0, none⟩), .func (.func 74) #[p] #[]] w fun e' w' => e' = .returned (.int .u64 (rU xs i e).1) ∧ Rdr w' base g xs (rU xs i e).2.1 (rU xs i e).2.2 ∧ Fr (One g) w w' := by
  have H := Aside0.mk h
  obtain ⟨h1, h2, v, h3, h4⟩ := h
  obtain ⟨c0, c1, c2, f1, f2⟩ := Rdr.cells h3
  obtain ⟨A, c, rfl, hc⟩ := h4.shape
  have hm := h4.max
  have HB := Aside0.mk hb
  by_cases he : e = 0
  · subst he
    obtain ⟨i0, hi, _, hsz, _⟩ := info_parts info5
    obtain ⟨A', hcut, hrd, _⟩ := cut_rd (P := Try.prog) 22 5 .i64 Try.underlying22 hi hsz A xs.length c i h2
    have HRD := Aside0.mk (nums_drop .u8 xs i ▸ hrd w (nums .u8 xs) hc (by simp [nums]) (RdV.of_win h4))
    have hN := fun (m : Nat) => number_any (w.drewN m) p A' (xs.length - i) (c - i) (xs.drop i) (HRD.out.below (pw_below_drewN (Below.refl _ _) m)) (by simp) (by omega) (by omega) (fun x hx => hb x (List.mem_of_mem_drop hx))
    rcases hq : num (xs.drop i) with _ | ⟨u, k⟩
    · rw [hq] at hN
      simp only [numV] at hN
      have HN := Aside0.mk hN
      have HQ := Aside0.mk hq
      clear h4 h3 hrd hi hsz hb hq hN
      go_enter Try.func73, Try.ntmps73
      go_wp2_with fail
      go_quiet ((go_at_call 74; go_must (exact Calls.quiet_of_same (HN.out _))))
      go_wp2_with fail
      go_ret
      have hr : rU xs i 0 = (0, i, 20) := by simp [rU, HQ.out]
      rw [hr]
      have g := (H.out.drewN nq).set2 (e' := 20)
      exact ⟨rfl, g.1, (Fr.drewN w nq).trans g.2 (fun _ _ h => h) (fun _ _ h => h)⟩
    · rw [hq] at hN
      simp only [numV] at hN
      obtain ⟨hk1, hk2, hk3, hk4⟩ := numK_le 10 _ u k hq
      have hk5 : i + k ≤ xs.length := by simp at hk1; omega
      have HN := Aside0.mk hN
      have HQ := Aside0.mk hq
      clear h4 h3 hrd hi hsz hb hq hN hk1 hk4
      go_enter Try.func73, Try.ntmps73
      go_wp2_with fail
      go_quiet ((go_at_call 74; go_must (exact Calls.quiet_of_same (HN.out _))))
      go_wp2_with fail
      go_ret
      have hr : rU xs i 0 = (u, i + k, 0) := by simp [rU, HQ.out]
      rw [hr]
      have g := (H.out.drewN nq).set1 hk5
      refine ⟨rfl, ?_, ?_⟩
      · simpa using g.1
      · simpa using (Fr.drewN w nq).trans g.2 (fun _ _ h => h) (fun _ _ h => h)
  · have heb : (e != 0) = true := by simp [he]
    clear h4 h3 hb
    go_enter Try.func73, Try.ntmps73
    go_wp2_with fail
    go_ret
    have hr : rU xs i e = (0, i, e) := by simp [rU, he]
    rw [hr]
    exact ⟨rfl, H.out, Fr.refl _ _⟩
set_option maxHeartbeats 400000 in
theorem take_t_bad (w : World) (base g i : Nat) (xs : List Int) (p q : Addr) (X : Value)  (h : Rdr w base g xs i 0)
    (hcl : ∀ (A' : Option Addr) (c' m : Nat), RdV w A' (nums .u8 (xs.drop i)) → xs.length - i ≤ c' → Calls Try.prog 81 #[.slice A' (xs.length - i) c', .pointer (some p), .pointer (some q)] (w.drewN m) fun e w' => e = .returned (.tuple #[X, .int .i64 (-1)]) ∧ w' = w.drewN m)  :
    Calls Try.prog 80 #[.pointer (some ⟨g, 0, none⟩), .func (.func 81) #[] #[.pointer (some p), .pointer (some q)]] w fun e' w' => e' = .returned (.string ByteArray.empty) ∧ Rdr w' base g xs i 20 ∧ Fr (One g) w w' := by
  have H := Aside0.mk h
  obtain ⟨h1, h2, v, h3, h4⟩ := h
  obtain ⟨c0, c1, c2, f1, f2⟩ := Rdr.cells h3
  obtain ⟨A, c, rfl, hc⟩ := h4.shape
  have hm := h4.max
  obtain ⟨i0, hi, _, hsz, _⟩ := info_parts info5
  obtain ⟨A', hcut, hrd, _⟩ := cut_rd (P := Try.prog) 22 5 .i64 Try.underlying22 hi hsz A xs.length c i h2
  have HRD := Aside0.mk (nums_drop .u8 xs i ▸ hrd w (nums .u8 xs) hc (by simp [nums]) (RdV.of_win h4))
  have HN := Aside0.mk (fun m => hcl A' (c - i) m HRD.out (by omega))
  clear h4 h3 hrd hi hsz hcl
  go_enter Try.func80, Try.ntmps80
  go_wp2_with fail
  go_quiet ((go_at_call 81; go_must (exact Calls.quiet_of_same (HN.out _))))
  go_wp2_with fail
  go_ret
  have g := (H.out.drewN nq).set2 (e' := 20)
  exact ⟨rfl, g.1, (Fr.drewN w nq).trans g.2 (fun _ _ h => h) (fun _ _ h => h)⟩
set_option maxHeartbeats 400000 in
theorem take_t_ok (w : World) (base g i : Nat) (xs : List Int) (p q : Addr) (X : Value) (k : Nat) (h : Rdr w base g xs i 0)
    (hcl : ∀ (A' : Option Addr) (c' m : Nat), RdV w A' (nums .u8 (xs.drop i)) → xs.length - i ≤ c' → Calls Try.prog 81 #[.slice A' (xs.length - i) c', .pointer (some p), .pointer (some q)] (w.drewN m) fun e w' => e = .returned (.tuple #[X, .int .i64 (k : Int)]) ∧ w' = w.drewN m) (hk : i + k ≤ xs.length) :
    Calls Try.prog 80 #[.pointer (some ⟨g, 0, none⟩), .func (.func 81) #[] #[.pointer (some p), .pointer (some q)]] w fun e' w' => e' = .returned X ∧ Rdr w' base g xs (i + k) 0 ∧ Fr (One g) w w' := by
  have H := Aside0.mk h
  obtain ⟨h1, h2, v, h3, h4⟩ := h
  obtain ⟨c0, c1, c2, f1, f2⟩ := Rdr.cells h3
  obtain ⟨A, c, rfl, hc⟩ := h4.shape
  have hm := h4.max
  obtain ⟨i0, hi, _, hsz, _⟩ := info_parts info5
  obtain ⟨A', hcut, hrd, _⟩ := cut_rd (P := Try.prog) 22 5 .i64 Try.underlying22 hi hsz A xs.length c i h2
  have HRD := Aside0.mk (nums_drop .u8 xs i ▸ hrd w (nums .u8 xs) hc (by simp [nums]) (RdV.of_win h4))
  have HN := Aside0.mk (fun m => hcl A' (c - i) m HRD.out (by omega))
  clear h4 h3 hrd hi hsz hcl
  go_enter Try.func80, Try.ntmps80
  go_wp2_with fail
  go_quiet ((go_at_call 81; go_must (exact Calls.quiet_of_same (HN.out _))))
  go_wp2_with fail
  go_ret
  have g := (H.out.drewN nq).set1 hk
  refine ⟨rfl, ?_, ?_⟩
  · simpa using g.1
  · simpa using (Fr.drewN w nq).trans g.2 (fun _ _ h => h) (fun _ _ h => h)
set_option maxHeartbeats 400000 in
/-- The reader has an error already. -/
theorem take_t_err (w : World) (base g i : Nat) (xs : List Int) (e : Int) (he : e ≠ 0) (f : Value) (h : Rdr w base g xs i e) :
    Calls Try.prog 80 #[.pointer (some ⟨g, 0, none⟩), f] w fun e' w' => e' = .returned (.string ByteArray.empty) ∧ w' = w := by
  obtain ⟨h1, h2, v, h3, h4⟩ := h
  obtain ⟨c0, c1, c2, f1, f2⟩ := Rdr.cells h3
  have heb : (e != 0) = true := by simp [he]
  clear h4 h3
  go_enter Try.func80, Try.ntmps80
  go_wp2_with fail
  go_ret
  exact ⟨rfl, rfl⟩
set_option maxHeartbeats 400000 in
theorem take_t_nil (w : World) (f : Value) : Calls Try.prog 80 #[.pointer none, f] w fun e' w' => e' = .returned (.string ByteArray.empty) ∧ w' = w := by
  go_enter Try.func80, Try.ntmps80
  go_wp2_with fail
  go_ret
  exact ⟨rfl, rfl⟩
set_option maxHeartbeats 400000 in
theorem take_s_bad (w : World) (base g i : Nat) (xs : List Int) (p q : Addr) (X : Value)  (h : Rdr w base g xs i 0)
    (hcl : ∀ (A' : Option Addr) (c' m : Nat), RdV w A' (nums .u8 (xs.drop i)) → xs.length - i ≤ c' → Calls Try.prog 100 #[.slice A' (xs.length - i) c', .pointer (some p), .pointer (some q)] (w.drewN m) fun e w' => e = .returned (.tuple #[X, .int .i64 (-1)]) ∧ w' = w.drewN m)  :
    Calls Try.prog 99 #[.pointer (some ⟨g, 0, none⟩), .func (.func 100) #[] #[.pointer (some p), .pointer (some q)]] w fun e' w' => e' = .returned (.int .i64 0) ∧ Rdr w' base g xs i 20 ∧ Fr (One g) w w' := by
  have H := Aside0.mk h
  obtain ⟨h1, h2, v, h3, h4⟩ := h
  obtain ⟨c0, c1, c2, f1, f2⟩ := Rdr.cells h3
  obtain ⟨A, c, rfl, hc⟩ := h4.shape
  have hm := h4.max
  obtain ⟨i0, hi, _, hsz, _⟩ := info_parts info5
  obtain ⟨A', hcut, hrd, _⟩ := cut_rd (P := Try.prog) 22 5 .i64 Try.underlying22 hi hsz A xs.length c i h2
  have HRD := Aside0.mk (nums_drop .u8 xs i ▸ hrd w (nums .u8 xs) hc (by simp [nums]) (RdV.of_win h4))
  have HN := Aside0.mk (fun m => hcl A' (c - i) m HRD.out (by omega))
  clear h4 h3 hrd hi hsz hcl
  go_enter Try.func99, Try.ntmps99
  go_wp2_with fail
  go_quiet ((go_at_call 100; go_must (exact Calls.quiet_of_same (HN.out _))))
  go_wp2_with fail
  go_ret
  have g := (H.out.drewN nq).set2 (e' := 20)
  exact ⟨rfl, g.1, (Fr.drewN w nq).trans g.2 (fun _ _ h => h) (fun _ _ h => h)⟩
set_option maxHeartbeats 400000 in
theorem take_s_ok (w : World) (base g i : Nat) (xs : List Int) (p q : Addr) (X : Value) (k : Nat) (h : Rdr w base g xs i 0)
    (hcl : ∀ (A' : Option Addr) (c' m : Nat), RdV w A' (nums .u8 (xs.drop i)) → xs.length - i ≤ c' → Calls Try.prog 100 #[.slice A' (xs.length - i) c', .pointer (some p), .pointer (some q)] (w.drewN m) fun e w' => e = .returned (.tuple #[X, .int .i64 (k : Int)]) ∧ w' = w.drewN m) (hk : i + k ≤ xs.length) :
    Calls Try.prog 99 #[.pointer (some ⟨g, 0, none⟩), .func (.func 100) #[] #[.pointer (some p), .pointer (some q)]] w fun e' w' => e' = .returned X ∧ Rdr w' base g xs (i + k) 0 ∧ Fr (One g) w w' := by
  have H := Aside0.mk h
  obtain ⟨h1, h2, v, h3, h4⟩ := h
  obtain ⟨c0, c1, c2, f1, f2⟩ := Rdr.cells h3
  obtain ⟨A, c, rfl, hc⟩ := h4.shape
  have hm := h4.max
  obtain ⟨i0, hi, _, hsz, _⟩ := info_parts info5
  obtain ⟨A', hcut, hrd, _⟩ := cut_rd (P := Try.prog) 22 5 .i64 Try.underlying22 hi hsz A xs.length c i h2
  have HRD := Aside0.mk (nums_drop .u8 xs i ▸ hrd w (nums .u8 xs) hc (by simp [nums]) (RdV.of_win h4))
  have HN := Aside0.mk (fun m => hcl A' (c - i) m HRD.out (by omega))
  clear h4 h3 hrd hi hsz hcl
  go_enter Try.func99, Try.ntmps99
  go_wp2_with fail
  go_quiet ((go_at_call 100; go_must (exact Calls.quiet_of_same (HN.out _))))
  go_wp2_with fail
  go_ret
  have g := (H.out.drewN nq).set1 hk
  refine ⟨rfl, ?_, ?_⟩
  · simpa using g.1
  · simpa using (Fr.drewN w nq).trans g.2 (fun _ _ h => h) (fun _ _ h => h)
set_option maxHeartbeats 400000 in
/-- The reader has an error already. -/
theorem take_s_err (w : World) (base g i : Nat) (xs : List Int) (e : Int) (he : e ≠ 0) (f : Value) (h : Rdr w base g xs i e) :
    Calls Try.prog 99 #[.pointer (some ⟨g, 0, none⟩), f] w fun e' w' => e' = .returned (.int .i64 0) ∧ w' = w := by
  obtain ⟨h1, h2, v, h3, h4⟩ := h
  obtain ⟨c0, c1, c2, f1, f2⟩ := Rdr.cells h3
  have heb : (e != 0) = true := by simp [he]
  clear h4 h3
  go_enter Try.func99, Try.ntmps99
  go_wp2_with fail
  go_ret
  exact ⟨rfl, rfl⟩
set_option maxHeartbeats 400000 in
theorem take_s_nil (w : World) (f : Value) : Calls Try.prog 99 #[.pointer none, f] w fun e' w' => e' = .returned (.int .i64 0) ∧ w' = w := by
  go_enter Try.func99, Try.ntmps99
  go_wp2_with fail
  go_ret
  exact ⟨rfl, rfl⟩

set_option maxHeartbeats 400000 in
theorem take_u_nil (w : World) (f : Value) : Calls Try.prog 73 #[.pointer none, f] w fun e' w' => e' = .returned (.int .u64 0) ∧ w' = w := by
  go_enter Try.func73, Try.ntmps73
  go_wp2_with fail
  go_ret
  exact ⟨rfl, rfl⟩
set_option maxHeartbeats 400000 in
theorem Uint_any (w : World) (base g i : Nat) (xs : List Int) (e : Int) (h : Rdr w base g xs i e) (hb : Byt xs) :
    Calls Try.prog 19 #[.pointer (some ⟨g, 0, none⟩)] w fun e' w' => e' = .returned (.int .u64 (rU xs i e).1) ∧ Rdr w' base g xs (rU xs i e).2.1 (rU xs i e).2.2 ∧ Fr (One g) w w' := by
  have H := Aside0.mk (take_u w base g i xs e (.pointer (some ⟨g, 0, none⟩)) h hb)
  clear h hb
  go_enter Try.func19, Try.ntmps19
  go_wp2_with (go_at_call 73; go_must (refine H.out.mono ?_; rintro e' w1 ⟨rfl, hq⟩; have Q := Aside0.mk hq; clear hq))
  go_ret
  exact ⟨rfl, Q.out⟩
set_option maxHeartbeats 400000 in
theorem Uint_nil (w : World) : Calls Try.prog 19 #[.pointer none] w fun e' w' => e' = .returned (.int .u64 0) ∧ w' = w := by
  go_enter Try.func19, Try.ntmps19
  go_wp2_with (go_at_call 73; go_must (refine (take_u_nil _ _).mono ?_; rintro e' w1 ⟨rfl, rfl⟩))
  go_ret
  exact ⟨rfl, rfl⟩
/-- The signed number of an unsigned one. -/
def unzig (u : Nat) : Int := if u % 2 = 0 then ((u / 2 : Nat) : Int) else -((u / 2 : Nat) : Int) - 1
theorem numK_64 : ∀ (k : Nat) (b : List Int) (u n : Nat), numK (k + 1) b = some (u, n) → u < 2 * 128 ^ k
  | k, [], u, n, h => by cases h
  | k, c :: r, u, n, h => by
    rw [numK] at h
    split at h
    · cases h
    · rename_i hg
      split at h
      · split at h
        · cases h
        · injection h with h
          injection h with h1 h2
          subst h1
          rcases Nat.eq_zero_or_pos k with hk | hk
          · subst hk
            have : ¬ (1 < c.toNat % 128) := fun h => hg ⟨rfl, h⟩
            simp
            omega
          · have : 128 ^ 1 ≤ 128 ^ k := Nat.pow_le_pow_right (by decide) hk
            omega
      · obtain ⟨⟨u', n'⟩, hp, he⟩ := Option.map_eq_some_iff.1 h
        injection he with h1 h2
        subst h1
        cases k with
        | zero => cases r <;> cases hp
        | succ k =>
          have := numK_64 k r u' n' hp
          simp only
          rw [Nat.pow_succ]
          omega
theorem num_64 {b : List Int} {u n : Nat} (h : num b = some (u, n)) : u < M64 := by
  have := numK_64 9 b u n h
  rw [M64_eq]
  omega
theorem rU_64 (xs : List Int) (i : Nat) (e : Int) : (rU xs i e).1 < M64 := by
  unfold rU
  split
  · split
    · show 0 < M64; decide
    · rename_i h
      exact num_64 h
  · show 0 < M64; decide
theorem xor_m1 (x : Nat) (hx : x < 9223372036854775808) : bits .xor .i64 (x : Int) (-1) = -(x : Int) - 1 := by
  show IntKind.i64.wrap ((BitVec.ofInt 64 (x : Int) ^^^ BitVec.ofInt 64 (-1)).toNat : Int) = _
  have h1 : (BitVec.ofInt 64 (-1)).toNat = 2 ^ 64 - 1 := by decide
  have h2 : (BitVec.ofInt 64 (x : Int)).toNat = x := by
    rw [BitVec.ofInt_natCast, BitVec.toNat_ofNat]; exact Nat.mod_eq_of_lt (by omega)
  rw [BitVec.toNat_xor, h1, h2, Nat.xor_comm, Lib.xor_ones64 x (by omega), IntKind.wrap_i64]
  omega
theorem xor_0 (x : Nat) (hx : x < 9223372036854775808) : bits .xor .i64 (x : Int) 0 = (x : Int) := by
  show IntKind.i64.wrap ((BitVec.ofInt 64 (x : Int) ^^^ BitVec.ofInt 64 0).toNat : Int) = _
  have h1 : (BitVec.ofInt 64 0).toNat = 0 := by decide
  have h2 : (BitVec.ofInt 64 (x : Int)).toNat = x := by
    rw [BitVec.ofInt_natCast, BitVec.toNat_ofNat]; exact Nat.mod_eq_of_lt (by omega)
  rw [BitVec.toNat_xor, h1, h2, Nat.xor_zero, IntKind.wrap_i64]
  omega
theorem unzig_bits (u : Nat) (h : u < M64) : bits BinOp.xor IntKind.i64 (wrap64 ((u : Int) / 2)) (wrap64 (-wrap64 (bits BinOp.and IntKind.u64 (u : Int) 1))) = unzig u := by
  rw [M64_eq] at h
  rw [Lib.u64_and1 _ (by omega) (by omega)]
  have e1 : wrap64 ((u : Int) / 2) = ((u / 2 : Nat) : Int) := by unfold wrap64; omega
  rw [e1]
  unfold unzig
  split
  · have e2 : wrap64 (-wrap64 ((u : Int) % 2)) = 0 := by unfold wrap64; omega
    rw [e2, xor_0 _ (by omega)]
  · have e2 : wrap64 (-wrap64 ((u : Int) % 2)) = -1 := by unfold wrap64; omega
    rw [e2, xor_m1 _ (by omega)]
set_option maxHeartbeats 400000 in
theorem Int_any (w : World) (base g i : Nat) (xs : List Int) (e : Int) (h : Rdr w base g xs i e) (hb : Byt xs) :
    Calls Try.prog 21 #[.pointer (some ⟨g, 0, none⟩)] w fun e' w' => e' = .returned (.int .i64 (unzig (rU xs i e).1)) ∧ Rdr w' base g xs (rU xs i e).2.1 (rU xs i e).2.2 ∧ Fr (One g) w w' := by
  have H := Aside0.mk (take_u w base g i xs e (.pointer (some ⟨g, 0, none⟩)) h hb)
  have HU := Aside0.mk (rU_64 xs i e)
  clear h hb
  generalize (rU xs i e).1 = u at H HU ⊢
  go_enter Try.func21, Try.ntmps21
  go_wp2_with (go_at_call 73; go_must (refine H.out.mono ?_; rintro e' w1 ⟨rfl, hq⟩; have Q := Aside0.mk hq; clear hq))
  go_ret
  exact ⟨ret_int (unzig_bits u HU.out), Q.out⟩
set_option maxHeartbeats 400000 in
theorem Int_nil (w : World) : Calls Try.prog 21 #[.pointer none] w fun e' w' => e' = .returned (.int .i64 0) ∧ w' = w := by
  go_enter Try.func21, Try.ntmps21
  go_wp2_with (go_at_call 73; go_must (refine (take_u_nil _ _).mono ?_; rintro e' w1 ⟨rfl, rfl⟩))
  go_ret
  exact ⟨ret_int (by decide +kernel), rfl⟩
end Go.Proofs.Ytchcimkmjoegdaa.C
