/- The codec's reader, its calls with a bound: Size, Text, Bytes, End. Conditions: as each theorem states. -/
import Derived.Test.YtchcimkmjoegdaaCodC
namespace Go.Proofs.Ytchcimkmjoegdaa.C
open Go.RowKit Go.Proofs.YtchcimkmjoegdaaW.PrintWords Go.Proofs.YtchcimkmjoegdaaW.PrintMore Go.Proofs.Ytchcimkmjoegdaa.M
set_option linter.unusedVariables false
set_option linter.unusedSimpArgs false

set_option maxHeartbeats 400000 in
/-- Size's inner function where there is no number, or it is too great. -/
theorem size_none (w : World) (A : Option Addr) (n c : Nat) (b : List Int) (p q : Addr) (r : Value) (most : Int) (hr : RdV w A (nums .u8 b)) (hl : b.length = n) (hc : n ≤ c) (hn : n ≤ 9223372036854775807) (hb : Byt b)
    (hp : w.cell? p = some r) (hq : w.cell? q = some (.int .i64 most)) (hnum : num b = none) :
    Calls Try.prog 100 #[.slice A n c, .pointer (some p), .pointer (some q)] w fun e w' => e = .returned (.tuple #[.int .i64 0, .int .i64 (-1)]) ∧ w' = w := by
  have H := fun p => number_any w p A n c b hr hl hc hn hb
  rw [hnum] at H
  simp only [numV] at H
  have HN := Aside0.mk H
  clear H hr hl hb hnum
  go_enter Try.func100, Try.ntmps100
  go_wp2_with (go_at_call 74; go_must (refine (HN.out _).mono ?_; rintro e' w1 ⟨rfl, rfl⟩))
  go_ret2
  exact ⟨rfl, rfl⟩
set_option maxHeartbeats 400000 in
theorem size_big (w : World) (A : Option Addr) (n c : Nat) (b : List Int) (p q : Addr) (r : Value) (most : Int) (u k : Nat) (hr : RdV w A (nums .u8 b)) (hl : b.length = n) (hc : n ≤ c) (hn : n ≤ 9223372036854775807) (hb : Byt b)
    (hp : w.cell? p = some r) (hq : w.cell? q = some (.int .i64 most)) (hm : most ≤ 9223372036854775807) (hnum : num b = some (u, k)) (hbig : most < u) :
    Calls Try.prog 100 #[.slice A n c, .pointer (some p), .pointer (some q)] w fun e w' => e = .returned (.tuple #[.int .i64 0, .int .i64 (-1)]) ∧ w' = w := by
  have H := fun p => number_any w p A n c b hr hl hc hn hb
  rw [hnum] at H
  simp only [numV] at H
  have HN := Aside0.mk H
  clear H hr hl hb hnum
  rcases Int.lt_or_le most 0 with h0 | h0
  · go_enter Try.func100, Try.ntmps100
    go_wp2_with (go_at_call 74; go_must (refine (HN.out _).mono ?_; rintro e' w1 ⟨rfl, rfl⟩))
    go_ret2
    exact ⟨rfl, rfl⟩
  · go_enter Try.func100, Try.ntmps100
    go_wp2_with (go_at_call 74; go_must (refine (HN.out _).mono ?_; rintro e' w1 ⟨rfl, rfl⟩))
    go_ret2
    exact ⟨rfl, rfl⟩
set_option maxHeartbeats 400000 in
theorem size_ok (w : World) (A : Option Addr) (n c : Nat) (b : List Int) (p q : Addr) (r : Value) (most : Int) (u k : Nat) (hr : RdV w A (nums .u8 b)) (hl : b.length = n) (hc : n ≤ c) (hn : n ≤ 9223372036854775807) (hb : Byt b)
    (hp : w.cell? p = some r) (hq : w.cell? q = some (.int .i64 most)) (hm : most ≤ 9223372036854775807) (hnum : num b = some (u, k)) (hle : (u : Int) ≤ most) :
    Calls Try.prog 100 #[.slice A n c, .pointer (some p), .pointer (some q)] w fun e w' => e = .returned (.tuple #[.int .i64 u, .int .i64 k]) ∧ w' = w := by
  have H := fun p => number_any w p A n c b hr hl hc hn hb
  rw [hnum] at H
  simp only [numV] at H
  have HN := Aside0.mk H
  clear H hr hl hb hnum
  go_enter Try.func100, Try.ntmps100
  go_wp2_with (go_at_call 74; go_must (refine (HN.out _).mono ?_; rintro e' w1 ⟨rfl, rfl⟩))
  go_ret2
  exact ⟨rfl, rfl⟩
/-- What Size answers, and where the reader stands behind it. -/
def rS (xs : List Int) (i : Nat) (e : Int) (most : Int) : Nat × Nat × Int :=
  if e = 0 then (match num (xs.drop i) with | none => (0, i, 20) | some (u, k) => if (u : Int) ≤ most then (u, i + k, 0) else (0, i, 20)) else (0, i, e)
/-- Two boxes. -/
theorem boxes (w : World) (a b : Value) (t t' : TypeId) : ((w.alloc (.cells #[a] t)).alloc (.cells #[b] t')).cell? ⟨w.heap.size, 0, none⟩ = some a ∧ ((w.alloc (.cells #[a] t)).alloc (.cells #[b] t')).cell? ⟨w.heap.size + 1, 0, none⟩ = some b := by
  constructor
  · have h : ((w.alloc (.cells #[a] t)).alloc (.cells #[b] t')).heap[w.heap.size]? = some (.cells #[a] t (0, 0)) := by
      rw [Go.heap_alloc_old _ _ (by simp)]
      exact heap_alloc_new w _
    simp [World.cell?, h]
  · have h : ((w.alloc (.cells #[a] t)).alloc (.cells #[b] t')).heap[w.heap.size + 1]? = some (.cells #[b] t' (0, 0)) := by
      have := heap_alloc_new (w.alloc (.cells #[a] t)) (.cells #[b] t')
      simpa using this
    unfold World.cell?
    rw [h]
    rfl
theorem below_two {w w' : World} {S : Nat → Prop} {o o' : Obj} (h : Fr S ((w.alloc o).alloc o') w') : Fr S w w' :=
  ((Fr.alloc (S := No) w o).trans (Fr.alloc (S := No) (w.alloc o) o') (fun _ _ h => h) (fun _ _ h => h)).trans h (fun _ _ h => h.elim) (fun _ _ h => h)
theorem cell_drewN (w : World) (a : Addr) (m : Nat) : (w.drewN m).cell? a = w.cell? a := by simp
set_option maxHeartbeats 400000 in
theorem Size_any (w : World) (base g i : Nat) (xs : List Int) (e most : Int) (h : Rdr w base g xs i e) (hb : Byt xs) (hm : most ≤ 9223372036854775807) :
    Calls Try.prog 53 #[.pointer (some ⟨g, 0, none⟩), .int .i64 most] w fun e' w' => e' = .returned (.int .i64 (rS xs i e most).1) ∧ Rdr w' base g xs (rS xs i e most).2.1 (rS xs i e most).2.2 ∧ Fr (One g) w w' := by
  obtain ⟨bx, by'⟩ := boxes w (.pointer (some ⟨g, 0, none⟩)) (.int .i64 most) 23 3
  have hW := h.below (below_alloc (below_alloc (Below.refl _ _) (.cells #[.pointer (some ⟨g, 0, none⟩)] 23)) (.cells #[.int .i64 most] 3))
  have hx : xs.length ≤ 9223372036854775807 := by obtain ⟨_, _, v, _, h4⟩ := h; exact h4.max
  have BX := Aside0.mk bx
  have BY := Aside0.mk by'
  by_cases he : e = 0
  · subst he
    rcases hq : num (xs.drop i) with _ | ⟨u, k⟩
    · have T := Aside0.mk (take_s_bad _ base g i xs ⟨w.heap.size, 0, none⟩ ⟨w.heap.size + 1, 0, none⟩ (.int .i64 0) hW (fun A' c' m hrd hc => size_none _ A' (xs.length - i) c' (xs.drop i) _ _ _ most (hrd.below (pw_below_drewN (Below.refl _ _) m)) (by simp) hc (by omega) (fun x hx => hb x (List.mem_of_mem_drop hx)) ((cell_drewN _ _ m).trans BX.out) ((cell_drewN _ _ m).trans BY.out) hq))
      have hr : rS xs i 0 most = (0, i, 20) := by simp [rS, hq]
      rw [hr]
      clear hr hq hb hW h bx by'
      go_enter Try.func53, Try.ntmps53
      go_wp2_with (go_at_call 99; go_must (refine T.out.mono ?_; rintro e' w1 ⟨rfl, q1, q2⟩; have Q1 := Aside0.mk q1; have Q2 := Aside0.mk q2; clear q1 q2))
      go_ret
      exact ⟨rfl, Q1.out, below_two Q2.out⟩
    · obtain ⟨hk1, hk2, hk3, hk4⟩ := numK_le 10 _ u k hq
      have hk5 : i + k ≤ xs.length := by simp at hk1; omega
      by_cases hle : (u : Int) ≤ most
      · have T := Aside0.mk (take_s_ok _ base g i xs ⟨w.heap.size, 0, none⟩ ⟨w.heap.size + 1, 0, none⟩ (.int .i64 u) k hW (fun A' c' m hrd hc => size_ok _ A' (xs.length - i) c' (xs.drop i) _ _ _ most u k (hrd.below (pw_below_drewN (Below.refl _ _) m)) (by simp) hc (by omega) (fun x hx => hb x (List.mem_of_mem_drop hx)) ((cell_drewN _ _ m).trans BX.out) ((cell_drewN _ _ m).trans BY.out) hm hq hle) hk5)
        have hr : rS xs i 0 most = (u, i + k, 0) := by simp [rS, hq, hle]
        rw [hr]
        clear hr hq hb hW h bx by' hk1 hk4
        go_enter Try.func53, Try.ntmps53
        go_wp2_with (go_at_call 99; go_must (refine T.out.mono ?_; rintro e' w1 ⟨rfl, q1, q2⟩; have Q1 := Aside0.mk q1; have Q2 := Aside0.mk q2; clear q1 q2))
        go_ret
        exact ⟨rfl, Q1.out, below_two Q2.out⟩
      · have T := Aside0.mk (take_s_bad _ base g i xs ⟨w.heap.size, 0, none⟩ ⟨w.heap.size + 1, 0, none⟩ (.int .i64 0) hW (fun A' c' m hrd hc => size_big _ A' (xs.length - i) c' (xs.drop i) _ _ _ most u k (hrd.below (pw_below_drewN (Below.refl _ _) m)) (by simp) hc (by omega) (fun x hx => hb x (List.mem_of_mem_drop hx)) ((cell_drewN _ _ m).trans BX.out) ((cell_drewN _ _ m).trans BY.out) hm hq (by omega)))
        have hr : rS xs i 0 most = (0, i, 20) := by simp [rS, hq, hle]
        rw [hr]
        clear hr hq hb hW h bx by' hk1 hk4
        go_enter Try.func53, Try.ntmps53
        go_wp2_with (go_at_call 99; go_must (refine T.out.mono ?_; rintro e' w1 ⟨rfl, q1, q2⟩; have Q1 := Aside0.mk q1; have Q2 := Aside0.mk q2; clear q1 q2))
        go_ret
        exact ⟨rfl, Q1.out, below_two Q2.out⟩
  · have T := Aside0.mk (fun f => take_s_err _ base g i xs e he f hW)
    have hr : rS xs i e most = (0, i, e) := by simp [rS, he]
    rw [hr]
    have HW := Aside0.mk hW
    clear hr hb hW h bx by'
    go_enter Try.func53, Try.ntmps53
    go_wp2_with (go_at_call 99; go_must (refine (T.out _).mono ?_; rintro e' w1 ⟨rfl, rfl⟩))
    go_ret
    exact ⟨rfl, HW.out, below_two (Fr.refl _ _)⟩
set_option maxHeartbeats 400000 in
theorem Size_nil (w : World) (most : Int) : Calls Try.prog 53 #[.pointer none, .int .i64 most] w fun e' w' => e' = .returned (.int .i64 0) ∧ Fr No w w' := by
  obtain ⟨bx, by'⟩ := boxes w (.pointer none) (.int .i64 most) 23 3
  go_enter Try.func53, Try.ntmps53
  go_wp2_with (go_at_call 99; go_must (refine (take_s_nil _ _).mono ?_; rintro e' w1 ⟨rfl, rfl⟩))
  go_ret
  exact ⟨rfl, below_two (Fr.refl _ _)⟩
end Go.Proofs.Ytchcimkmjoegdaa.C
