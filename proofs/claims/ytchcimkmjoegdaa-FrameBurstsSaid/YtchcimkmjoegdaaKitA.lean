/- The statements' own helpers at bytes: Bytes, LentBytes, KeptBytes. Conditions: the lengths that each theorem states. -/
import Derived.Test.YtchcimkmjoegdaaCodA
import Derived.Test.YtchcimkmjoegdaaMemB
import Derived.BigQuiet
namespace Go.Proofs.Ytchcimkmjoegdaa.C
open Go.RowKit Go.Proofs.YtchcimkmjoegdaaW.PrintWords Go.Proofs.YtchcimkmjoegdaaW.PrintMore Go.Proofs.Ytchcimkmjoegdaa.M
set_option linter.unusedVariables false
set_option linter.unusedSimpArgs false

theorem rd_at {w : World} {A : Option Addr} {k : IntKind} {xs : List Int} {i : Nat} {x : Int} (h : RdV w A (nums k xs)) (hx : xs[i]? = some x) : ∃ ad, A = some ad ∧ w.cell? (ad.add i) = some (.int k x) := by
  obtain ⟨ad, e, hc⟩ := h (by intro h0; have h1 : xs = [] := (by simpa [nums] using h0); subst h1; simp at hx)
  exact ⟨ad, e, hc i _ (by simp [nums, hx])⟩
theorem get_some {xs : List Int} {i : Nat} (h : i < xs.length) : ∃ x, xs[i]? = some x := ⟨_, List.getElem?_eq_getElem h⟩
theorem take_succ_of {xs : List Int} {i : Nat} {x : Int} (h : xs[i]? = some x) : xs.take (i + 1) = xs.take i ++ [x] := by
  rw [List.take_add_one, h]
  rfl
set_option maxHeartbeats 1000000 in
theorem KBytes_true (w : World) (A B : Option Addr) (n c d : Nat) (xs : List Int) (hx : RdV w A (nums .u8 xs)) (hy : RdV w B (nums .u8 xs)) (hl : xs.length = n) (hn : n ≤ 9223372036854775807) (hc : n ≤ c) (hd : n ≤ d) :
    Calls Try.prog 24 #[.slice A n c, .slice B n d] w fun e w' => e = .returned (.bool true) ∧ ∃ m, w' = w.drewN m := by
  have HX := Aside0.mk hx
  have HY := Aside0.mk hy
  have HL := Aside0.mk hl
  clear hx hy hl
  go_enter Try.func24, Try.ntmps24
  go_wp2_with fail
  go_loopw [5] (fun v5 wr => ∃ i m : Nat, v5 = .int .i64 i ∧ i ≤ n ∧ wr = w.drewN m) (fun v5 _ => n - (intOf v5).toNat)
  case atStart => exact ⟨0, 0, rfl, by omega, rfl⟩
  case round =>
    obtain ⟨i, m, rfl, hi, rfl⟩ := hrel
    by_cases hlt : i < n
    · obtain ⟨x, hx⟩ := get_some (xs := xs) (i := i) (by have := HL.out; omega)
      obtain ⟨a1, e1, h1⟩ := rd_at HX.out hx
      obtain ⟨a2, e2, h2⟩ := rd_at HY.out hx
      clear hx
      subst e1; subst e2
      go_wp2_with fail
      go_quiet (fail)
      go_wp2_with fail
      go_roundw
      case rel => exact ⟨i + 1, m + nq, by simp, by omega, (by first | rfl | exact World.drewN_drewN ..)⟩
      case measure => simp [intOf]; omega
    · go_wp2_with fail
      go_ret
      exact ⟨rfl, m, rfl⟩
set_option maxHeartbeats 1000000 in
theorem KBytes_len (w : World) (A B : Option Addr) (n n' c d : Nat) (h : n ≠ n') (hn : n ≤ 9223372036854775807) (hn' : n' ≤ 9223372036854775807) :
    Calls Try.prog 24 #[.slice A n c, .slice B n' d] w fun e w' => e = .returned (.bool false) ∧ w' = w := by
  have hb : ((n : Int) != (n' : Int)) = true := by simp; omega
  clear h
  go_enter Try.func24, Try.ntmps24
  go_wp2_with fail
  go_ret
  exact ⟨rfl, rfl⟩
set_option maxHeartbeats 1000000 in
theorem KBytes_false (w : World) (A B : Option Addr) (n c d : Nat) (xs ys : List Int) (hx : RdV w A (nums .u8 xs)) (hy : RdV w B (nums .u8 ys)) (hl : xs.length = n) (hl' : ys.length = n) (hn : n ≤ 9223372036854775807) (hc : n ≤ c) (hd : n ≤ d) (hne : xs ≠ ys) :
    Calls Try.prog 24 #[.slice A n c, .slice B n d] w fun e w' => e = .returned (.bool false) ∧ ∃ m, w' = w.drewN m := by
  have HX := Aside0.mk hx
  have HY := Aside0.mk hy
  have HL := Aside0.mk hl
  have HL' := Aside0.mk hl'
  have HNE := Aside0.mk hne
  clear hx hy hl hl' hne
  go_enter Try.func24, Try.ntmps24
  go_wp2_with fail
  go_loopw [5] (fun v5 wr => ∃ i m : Nat, v5 = .int .i64 i ∧ i ≤ n ∧ wr = w.drewN m ∧ Aside0 (xs.take i = ys.take i)) (fun v5 _ => n - (intOf v5).toNat)
  case atStart => exact ⟨0, 0, rfl, by omega, rfl, ⟨rfl⟩⟩
  case round =>
    obtain ⟨i, m, rfl, hi, rfl, HT⟩ := hrel
    by_cases hlt : i < n
    · obtain ⟨x, hx⟩ := get_some (xs := xs) (i := i) (by have := HL.out; omega)
      obtain ⟨y, hy⟩ := get_some (xs := ys) (i := i) (by have := HL'.out; omega)
      obtain ⟨a1, e1, h1⟩ := rd_at HX.out hx
      obtain ⟨a2, e2, h2⟩ := rd_at HY.out hy
      have HXX := Aside0.mk hx
      have HYY := Aside0.mk hy
      clear hx hy
      subst e1; subst e2
      by_cases hxy : x = y
      · subst hxy
        go_wp2_with fail
        go_quiet (fail)
        go_wp2_with fail
        go_roundw
        case rel => exact ⟨i + 1, m + nq, by simp, by omega, (by first | rfl | exact World.drewN_drewN ..), ⟨by rw [take_succ_of HXX.out, take_succ_of HYY.out, HT.out]⟩⟩
        case measure => simp [intOf]; omega
      · have hb : (x != y) = true := by simp [hxy]
        clear hxy
        go_wp2_with fail
        go_quiet (fail)
        go_wp2_with fail
        go_ret
        exact ⟨rfl, m + nq, (by first | rfl | exact World.drewN_drewN ..)⟩
    · exact absurd (by have := HT.out; rwa [List.take_of_length_le (by have := HL.out; omega), List.take_of_length_le (by have := HL'.out; omega)] at this) HNE.out
/-- kit.Bytes. -/
theorem KBytes_any (w : World) (A B : Option Addr) (n n' c d : Nat) (xs ys : List Int) (hx : RdV w A (nums .u8 xs)) (hy : RdV w B (nums .u8 ys)) (hl : xs.length = n) (hl' : ys.length = n') (hn : n ≤ 9223372036854775807) (hn' : n' ≤ 9223372036854775807) (hc : n ≤ c) (hd : n' ≤ d) :
    Calls Try.prog 24 #[.slice A n c, .slice B n' d] w fun e w' => e = .returned (.bool (decide (xs = ys))) ∧ ∃ m, w' = w.drewN m := by
  by_cases h : n = n'
  · subst h
    by_cases hxy : xs = ys
    · subst hxy
      rw [decide_eq_true rfl]
      exact KBytes_true w A B n c d xs hx hy hl hn hc hd
    · rw [decide_eq_false hxy]
      exact KBytes_false w A B n c d xs ys hx hy hl hl' hn hc hd hxy
  · rw [decide_eq_false (by intro h'; subst h'; omega)]
    exact (KBytes_len w A B n n' c d h hn hn').mono fun e w' ⟨h1, h2⟩ => ⟨h1, 0, h2⟩
set_option maxHeartbeats 1000000 in
/-- kit.LentBytes: the bytes in memory of their own, a mark behind them. -/
theorem LentBytes_any (w : World) (A : Option Addr) (n c : Nat) (xs : List Int) (hr : RdV w A (nums .u8 xs)) (hl : xs.length = n) (hc : n ≤ c) (hn : n ≤ 140737488355327) :
    Calls Try.prog 27 #[.slice A n c] w fun e w' => ∃ A' c', e = .returned (.slice A' n c') ∧ Win w' w.heap.size 5 1 (.slice A' (n + 1) c') (n + 1) (nums .u8 (xs ++ [201])) ∧ Fr No w w' := by
  have HS := Aside0.mk (Src.of_rd (P := Try.prog) (size := 1) (m := n) (c := c) hr (by simp [nums, hl]) (nums_one _ _))
  have HB := Aside0.mk (small_bound (n := n) (by omega))
  have HB1 := Aside0.mk (small_bound (n := n + 1) (by omega))
  obtain ⟨i0, hi, _, hsz, _⟩ := info_parts info5
  have hcut := fun (A : Option Addr) (c : Nat) (h : n + 1 ≤ c) => cuth (P := Try.prog) 22 5 .i64 Try.underlying22 hi A (n + 1) c n (by omega)
  have HC := Aside0.mk hcut
  have hn' : (n : Int) ≤ 9223372036854775807 := by omega
  clear hr hl hi hsz hcut
  go_enter Try.func27, Try.ntmps27
  go_wp2_with (first | ((with_reducible refine gate_builtin (b := .append) (xs := #[.tmp 4, .tmp 5]) rfl ?_); at_builtin; go_must (refine wpl_append w w.heap.size rfl (.tmp 4) (.tmp 5) 22 22 5 (.int .u8 0) 1 1 (.slice 5) rfl Try.underlying22 Try.underlying22 (.inl ⟨_, rfl⟩) info5 rfl (.slice none 0 0) 0 [] (.slice A n c) n (nums .u8 xs) rfl rfl (Win.nil _ _ _ _) HS.out (Nat.le_refl _) (by simpa using HB.out.1) (by simpa using HB.out.2) ?_; intro v1 w1 g1 _ g3 _; have G1 := Aside0.mk g1; have G3 := Aside0.mk g3; clear g1 g3)) | ((with_reducible refine gate_builtin (b := .append) (xs := #[.tmp 7, .tmp 8]) rfl ?_); at_builtin; go_must (refine wpl_append1 w1 w.heap.size rfl (.tmp 7) (.tmp 8) 22 5 (.int .u8 0) 1 1 rfl Try.underlying22 info5 rfl v1 n (nums .u8 xs) [.int .u8 201] rfl rfl (by simpa using G1.out) rfl (by simp [Value.oneCell']) G3.out.size HB1.out.1 HB1.out.2 ?_; intro v2 w2 k1 _ k3 _; have K1 := Aside0.mk k1; have K3 := Aside0.mk k3; clear k1 k3; obtain ⟨A2, c2, e2, l2⟩ := K1.out.shape; subst e2; have hcut := HC.out A2 c2 l2)))
  go_ret
  have F1 : Fr No w w1 := G3.out.mono (fun k hk h => (At.none h).elim)
  refine ⟨A2, c2, rfl, by simpa [nums] using K1.out, F1.trans K3.out (fun _ _ h => h) (fun k hk h => ?_)⟩
  exact ((show Win w1 w.heap.size 5 1 v1 n (nums .u8 xs) by simpa using G1.out).young h hk).elim
set_option maxHeartbeats 1000000 in
/-- kit.KeptBytes: the bytes and the mark behind them. -/
theorem KeptBytes_any (w : World) (A B : Option Addr) (n c d n' : Nat) (xs ys : List Int) (x : Int) (hx : RdV w A (nums .u8 (xs ++ [x]))) (hy : RdV w B (nums .u8 ys)) (hl : xs.length = n) (hl' : ys.length = n') (hn : n + 1 ≤ 9223372036854775807) (hn' : n' ≤ 9223372036854775807) (hc : n + 1 ≤ c) (hd : n' ≤ d) :
    Calls Try.prog 32 #[.slice A n c, .slice B n' d] w fun e w' => e = .returned (.bool (decide (xs = ys) && decide (x = 201))) ∧ ∃ m, w' = w.drewN m := by
  have HB := KBytes_any w A B n n' c d xs ys (by have := RdV.take hx n; rw [nums_take, ← hl, List.take_left] at this; exact this) hy hl hl' (by omega) hn' (by omega) hd
  obtain ⟨ad, eA, hcell⟩ := rd_at (i := n) (x := x) hx (by rw [← hl]; simp)
  subst eA
  obtain ⟨i0, hi, _, hsz, _⟩ := info_parts info5
  have hcut := cuth (P := Try.prog) 22 5 .i64 Try.underlying22 hi (some ad) n c (n + 1) hc
  simp only [Int.natCast_add, Int.natCast_one] at hcut
  have hn1 : (n : Int) + 1 ≤ 9223372036854775807 := by omega
  clear hx hy hi hsz hl hl'
  by_cases hxy : xs = ys
  · rw [decide_eq_true hxy] at HB ⊢
    have H := Aside0.mk HB
    clear HB hxy
    go_enter Try.func32, Try.ntmps32
    go_wp2_with (go_at_call 24; go_must (refine H.out.mono ?_; rintro e' w1 ⟨rfl, m, rfl⟩))
    go_ret
    exact ⟨congrArg (fun b => Ending.returned (.bool b)) (show (x == 201) = (true && decide (x = 201)) by rw [Bool.true_and]; rfl), m, rfl⟩
  · rw [decide_eq_false hxy] at HB ⊢
    have H := Aside0.mk HB
    clear HB hxy
    go_enter Try.func32, Try.ntmps32
    go_wp2_with (go_at_call 24; go_must (refine H.out.mono ?_; rintro e' w1 ⟨rfl, m, rfl⟩))
    go_ret
    exact ⟨rfl, m, rfl⟩
end Go.Proofs.Ytchcimkmjoegdaa.C
