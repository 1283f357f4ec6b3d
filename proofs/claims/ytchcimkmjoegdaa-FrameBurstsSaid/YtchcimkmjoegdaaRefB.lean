/- The reference of chapter 2: the number that stands at the head of bytes. Conditions: the length's bound. -/
import Derived.Test.YtchcimkmjoegdaaBackB
namespace Go.Proofs.Ytchcimkmjoegdaa.C
open Go.RowKit Go.Proofs.YtchcimkmjoegdaaW.PrintWords Go.Proofs.YtchcimkmjoegdaaW.PrintMore Go.Proofs.Ytchcimkmjoegdaa.M
set_option linter.unusedVariables false
set_option linter.unusedSimpArgs false

theorem num_of_enc {b : List Int} {u m : Nat} (hu : u < M64) (h : uenc u = b.take m) (hl : (uenc u).length = m) : num b = some (u, m) := by
  have h2 := num_uenc u (b.drop m) hu
  rw [h, List.take_append_drop, ← h, hl] at h2
  exact h2
theorem uenc_at : ∀ (u j : Nat) (x : Int), (uenc u)[j]? = some x → (j + 1 < (uenc u).length → 127 < x) ∧ (j + 1 = (uenc u).length → x ≤ 127) ∧ x % 128 = ((u / 128 ^ j % 128 : Nat) : Int) := fun u => by
  induction u using Nat.strongRecOn with
  | _ u ih =>
    intro j x hx
    by_cases hu : u < 128
    · rw [uenc_small hu] at hx ⊢
      cases j with
      | zero => simp at hx; subst hx; simp; omega
      | succ j => simp at hx
    · rw [uenc_big hu] at hx ⊢
      cases j with
      | zero =>
        simp at hx
        subst hx
        have := uenc_pos (u / 128)
        refine ⟨fun _ => by omega, fun h => by rw [List.length_cons] at h; omega, by simp⟩
      | succ j =>
        have h := ih (u / 128) (by omega) j x (by simpa using hx)
        rw [Nat.div_div_eq_div_mul, ← Nat.pow_succ'] at h
        simpa using h
theorem u64_nat (x : Int) : ∃ k : Nat, IntKind.u64.wrap x = (k : Int) ∧ k < M64 := by
  refine ⟨(IntKind.u64.wrap x).toNat, ?_, ?_⟩
  · rw [IntKind.wrap_u64]; omega
  · rw [IntKind.wrap_u64, M64_eq]; omega
theorem or_nat (x y : Int) : ∃ k : Nat, bits .or .u64 x y = (k : Int) ∧ k < M64 := u64_nat _
theorem or_rel (x y : Int) (v6 : Value) (i j : Nat) (h : v6 = .int .i64 ((j : Int) - 1)) (hj : j ≤ i + 1) : ∃ (acc : Nat) (j : Nat), Value.int .u64 (bits .or .u64 x y) = .int .u64 acc ∧ v6 = .int .i64 ((j : Int) - 1) ∧ j ≤ i + 1 ∧ Aside0 (acc < M64) := by
  obtain ⟨k, e, hk⟩ := or_nat x y
  exact ⟨k, j, by rw [e], h, hj, ⟨hk⟩⟩
set_option maxRecDepth 100000 in
set_option maxHeartbeats 2000000 in
theorem refNumber_none (w : World) (A : Option Addr) (n c : Nat) (b : List Int) (hr : RdV w A (nums .u8 b)) (hl : b.length = n) (hc : n ≤ c) (hn : n ≤ 140737488355328) (hb : Byt b) (hnum : num b = none) :
    Calls Try.prog 113 #[.slice A n c] w fun e w' => e = .returned (.tuple #[.int .u64 0, .int .i64 0]) ∧ Fr No w w' := by
  have HR := Aside0.mk hr
  have HB := Aside0.mk hb
  have HL := Aside0.mk hl
  have HN := Aside0.mk hnum
  clear hr hb hl hnum
  go_enter Try.func113, Try.ntmps113
  go_wp2_with fail
  go_loop [4] (fun v4 => ∃ i : Nat, v4 = .int .i64 i ∧ i ≤ n) (fun v4 => n - (intOf v4).toNat)
  case atStart => exact ⟨0, rfl, by omega⟩
  case round =>
    obtain ⟨i, rfl, hi⟩ := hrel
    have hcase : (∃ x ad, i < n ∧ A = some ad ∧ 127 < x ∧ w.cell? (ad.add i) = some (.int .u8 x)) ∨ i = n ∨ (∃ x ad, i < n ∧ A = some ad ∧ ¬ 127 < x ∧ w.cell? (ad.add i) = some (.int .u8 x)) := by
      by_cases hlt : i < n
      · obtain ⟨x, hx⟩ := get_some (xs := b) (i := i) (by have := HL.out; omega)
        obtain ⟨ad, e, h⟩ := rd_at HR.out hx
        by_cases h2 : 127 < x
        · exact .inl ⟨x, ad, hlt, e, h2, h⟩
        · exact .inr (.inr ⟨x, ad, hlt, e, h2, h⟩)
      · exact .inr (.inl (by omega))
    rcases hcase with ⟨x, ad, hlt, eA, h2, hcell⟩ | rfl | ⟨x, ad, hlt, eA, h2, hcell⟩
    · subst eA
      go_wp2_with fail
      go_round
      case rel => exact ⟨i + 1, by simp, by omega⟩
      case measure => simp [intOf]; omega
    · go_wp2_with fail
      go_ret2
      exact ⟨rfl, Fr.refl _ _⟩
    · by_cases h9 : 9 < i
      · subst eA
        go_wp2_with fail
        go_ret2
        exact ⟨rfl, Fr.refl _ _⟩
      · subst eA
        go_wp2_with fail
        clear hcell
        go_loop [5, 6] (fun v5 v6 => ∃ (acc : Nat) (j : Nat), v5 = .int .u64 acc ∧ v6 = .int .i64 ((j : Int) - 1) ∧ j ≤ i + 1 ∧ Aside0 (acc < M64)) (fun _ v6 => (intOf v6 + 1).toNat)
        case atStart => exact ⟨0, i + 1, rfl, by simp, by omega, ⟨by rw [M64_eq]; omega⟩⟩
        case round =>
          obtain ⟨acc, j, rfl, rfl, hj, HA⟩ := hrel
          by_cases hlj : 0 < j
          · obtain ⟨j', rfl⟩ : ∃ j', j = j' + 1 := ⟨j - 1, by omega⟩
            obtain ⟨y, hy⟩ := get_some (xs := b) (i := j') (by have := HL.out; omega)
            have hcy := (by obtain ⟨ad2, e2, h⟩ := rd_at HR.out hy; injection e2 with e2; subst e2; exact h : w.cell? (ad.add j') = some (.int .u8 y))
            have hyb := HB.out y (List.mem_of_getElem? hy)
            obtain ⟨hy0, hy1⟩ := hyb
            clear hy
            rw [show ((j' + 1 : Nat) : Int) - 1 = (j' : Int) by omega]
            go_wp2_with fail
            go_round
            case rel => exact or_rel _ _ _ _ j' (by simp) (by omega)
            case measure => simp [intOf]
          · obtain rfl : j = 0 := by omega
            have HU := Aside0.mk (refUint_any w acc HA.out)
            by_cases hlen : (uenc acc).length = i + 1
            · have HLEN := Aside0.mk hlen
              have hlen' : ((uenc acc).length : Int) = i + 1 := by omega
              have hne : uenc acc ≠ b.take (i + 1) := fun h => by
                have := num_of_enc HA.out h hlen
                rw [HN.out] at this
                cases this
              have HNE := Aside0.mk hne
              clear hlen hne
              go_wp2_with (go_at_call 29; go_must (refine HU.out.mono ?_; rintro e w1 ⟨v, rfl, q1, q2⟩; have Q1 := Aside0.mk q1; have Q2 := Aside0.mk q2; clear q1 q2; obtain ⟨A1, c1, e1, l1⟩ := Q1.out.shape; subst e1))
              go_loopw [8] (fun v8 wr => ∃ j m : Nat, v8 = .int .i64 j ∧ j ≤ i + 1 ∧ wr = w1.drewN m ∧ Aside0 ((uenc acc).take j = b.take j)) (fun v8 _ => i + 1 - (intOf v8).toNat)
              case atStart => exact ⟨0, 0, rfl, by omega, rfl, ⟨rfl⟩⟩
              case round =>
                obtain ⟨j, m, rfl, hj2, rfl, HT⟩ := hrel
                by_cases hlj2 : j < i + 1
                · obtain ⟨y, hy⟩ := get_some (xs := uenc acc) (i := j) (by have := HLEN.out; omega)
                  obtain ⟨z, hz⟩ := get_some (xs := b) (i := j) (by have := HL.out; omega)
                  have hcy := rd_at (RdV.of_win Q1.out) hy
                  obtain ⟨ad1, eA1, hcy⟩ := hcy
                  subst eA1
                  have hcz := rd_some (HR.out.below Q2.out.no) hz
                  have hlt2 : (j : Int) < (uenc acc).length := by have := HLEN.out; omega
                  have HY := Aside0.mk hy
                  have HZ := Aside0.mk hz
                  clear hy hz
                  by_cases hyz : y = z
                  · subst hyz
                    go_wp2_with fail
                    go_quiet (fail)
                    go_wp2_with fail
                    go_roundw
                    case rel => exact ⟨j + 1, m + nq, by simp, by omega, (by first | rfl | exact World.drewN_drewN ..), ⟨by rw [take_succ_of HY.out, take_succ_of HZ.out, HT.out]⟩⟩
                    case measure => simp [intOf]; omega
                  · have hyz' : (y != z) = true := by simp [hyz]
                    clear hyz
                    go_wp2_with fail
                    go_quiet (fail)
                    go_wp2_with fail
                    go_ret2
                    exact ⟨rfl, Q2.out.trans (Fr.of_below (accDrew (accDrew (Below.refl _ _) _) _) No) (fun _ _ h => h) (fun _ _ h => h)⟩
                · exfalso
                  obtain rfl : j = i + 1 := by omega
                  refine HNE.out ?_
                  have := HT.out
                  rwa [List.take_of_length_le (l := uenc acc) (by have := HLEN.out; omega)] at this
            · have hlen' : (((uenc acc).length : Int) != (i : Int) + 1) = true := by simp; omega
              clear hlen
              go_wp2_with (go_at_call 29; go_must (refine HU.out.mono ?_; rintro e w1 ⟨v, rfl, q1, q2⟩; have Q1 := Aside0.mk q1; have Q2 := Aside0.mk q2; clear q1 q2; obtain ⟨A1, c1, e1, l1⟩ := Q1.out.shape; subst e1))
              go_ret2
              exact ⟨rfl, Q2.out⟩
theorem down_or (u j acc : Nat) (y : Int) (hu : u < M64) (h : u / 128 ^ (j + 1) = acc) (hy : y % 128 = ((u / 128 ^ j % 128 : Nat) : Int)) : bits .or .u64 (IntKind.u64.wrap ((acc : Int) * 128)) (y % 128) = ((u / 128 ^ j : Nat) : Int) := by
  rw [M64_eq] at hu
  rw [hy]
  have h1 : u / 128 ^ j / 128 = acc := by rw [Nat.div_div_eq_div_mul, ← Nat.pow_succ]; exact h
  have h2 : u / 128 ^ j ≤ u := Nat.div_le_self _ _
  generalize u / 128 ^ j = v at h1 h2 ⊢
  have hw : IntKind.u64.wrap ((acc : Int) * 128) = ((128 * acc : Nat) : Int) := by rw [IntKind.wrap_u64]; omega
  rw [hw, bits_or_u64_nat _ _ (by omega) (by omega)]
  congr 1
  have e := Nat.two_pow_add_eq_or_of_lt (i := 7) (b := v % 128) (by omega) acc
  rw [show (2 : Nat) ^ 7 = 128 by decide] at e
  rw [← e]
  omega
set_option maxRecDepth 100000 in
set_option maxHeartbeats 2000000 in
theorem refNumber_some (w : World) (A : Option Addr) (n c : Nat) (b : List Int) (hr : RdV w A (nums .u8 b)) (hl : b.length = n) (hc : n ≤ c) (hn : n ≤ 140737488355328) (hb : Byt b) (u k : Nat) (hnum : num b = some (u, k)) :
    Calls Try.prog 113 #[.slice A n c] w fun e w' => e = .returned (.tuple #[.int .u64 u, .int .i64 k]) ∧ Fr No w w' := by
  obtain ⟨hk1, hk2, hk3, hu⟩ := numK_le 10 b u k hnum
  have he := num_enc hb hnum
  have hel : (uenc u).length = k := by rw [he, List.length_take]; omega
  have hat : ∀ j x, j < k → b[j]? = some x → (j + 1 < k → 127 < x) ∧ (j + 1 = k → x ≤ 127) ∧ x % 128 = ((u / 128 ^ j % 128 : Nat) : Int) := fun j x hj hx => by
    have h := uenc_at u j x (by rw [he, List.getElem?_take, if_pos hj]; exact hx)
    rwa [hel] at h
  have hu64 := num_64 hnum
  have hmid : ∀ j x, j + 1 < k → b[j]? = some x → 127 < x := fun j x hj hx => (hat j x (by omega) hx).1 hj
  have hend : ∀ x, b[k - 1]? = some x → ¬ 127 < x := fun x hx h => by have := (hat (k - 1) x (by omega) hx).2.1 (by omega); omega
  have HR := Aside0.mk hr
  have HB := Aside0.mk hb
  have HL := Aside0.mk hl
  have HE := Aside0.mk he
  have HEL := Aside0.mk hel
  have HAT := Aside0.mk hat
  have HMID := Aside0.mk hmid
  have HEND := Aside0.mk hend
  have HU := Aside0.mk hu
  have HU64 := Aside0.mk (refUint_any w u hu64)
  have HU6 := Aside0.mk hu64
  have hkn : k ≤ n := by omega
  clear hr hb hl hnum he hel hat hmid hend hu hu64 hk1
  go_enter Try.func113, Try.ntmps113
  go_wp2_with fail
  go_loop [4] (fun v4 => ∃ i : Nat, v4 = .int .i64 i ∧ i + 1 ≤ k) (fun v4 => n - (intOf v4).toNat)
  case atStart => exact ⟨0, rfl, by omega⟩
  case round =>
    obtain ⟨i, rfl, hi⟩ := hrel
    obtain ⟨x, hx⟩ := get_some (xs := b) (i := i) (by have := HL.out; omega)
    obtain ⟨ad, eA, hcell⟩ := rd_at HR.out hx
    subst eA
    by_cases hlt : i + 1 < k
    · have h2 : 127 < x := HMID.out i x hlt hx
      clear hx
      go_wp2_with fail
      go_round
      case rel => exact ⟨i + 1, by simp, by omega⟩
      case measure => simp [intOf]; omega
    · have h2 : ¬ 127 < x := Int.not_lt.2 <| HEND.out x (by rw [show k - 1 = i by omega]; exact hx)
      clear hx
      obtain rfl : k = i + 1 := by omega
      go_wp2_with fail
      clear hcell
      go_loop [5, 6] (fun v5 v6 => ∃ (j : Nat), v5 = .int .u64 ((u / 128 ^ j : Nat) : Int) ∧ v6 = .int .i64 ((j : Int) - 1) ∧ j ≤ i + 1) (fun _ v6 => (intOf v6 + 1).toNat)
      case atStart => exact ⟨i + 1, by rw [Nat.div_eq_of_lt HU.out]; rfl, by simp, by omega⟩
      case round =>
        obtain ⟨j, rfl, rfl, hj⟩ := hrel
        by_cases hlj : 0 < j
        · obtain ⟨j', rfl⟩ : ∃ j', j = j' + 1 := ⟨j - 1, by omega⟩
          obtain ⟨y, hy⟩ := get_some (xs := b) (i := j') (by have := HL.out; omega)
          have hcy := rd_some HR.out hy
          have hyb := HB.out y (List.mem_of_getElem? hy)
          obtain ⟨hy0, hy1⟩ := hyb
          have HY := Aside0.mk (HAT.out j' y (by omega) hy).2.2
          clear hy
          rw [show ((j' + 1 : Nat) : Int) - 1 = (j' : Int) by omega]
          generalize hacc : u / 128 ^ (j' + 1) = acc
          have HACC := Aside0.mk hacc
          clear hacc
          go_wp2_with fail
          go_round
          case rel => exact ⟨j', by rw [down_or u j' acc y HU6.out HACC.out HY.out], by simp, by omega⟩
          case measure => simp [intOf]
        · obtain rfl : j = 0 := by omega
          rw [Nat.pow_zero, Nat.div_one]
          have hlen' : ((uenc u).length : Int) = i + 1 := by have := HEL.out; omega
          go_wp2_with (go_at_call 29; go_must (refine HU64.out.mono ?_; rintro e w1 ⟨v, rfl, q1, q2⟩; have Q1 := Aside0.mk q1; have Q2 := Aside0.mk q2; clear q1 q2; obtain ⟨A1, c1, e1, l1⟩ := Q1.out.shape; subst e1))
          go_loopw [8] (fun v8 wr => ∃ j m : Nat, v8 = .int .i64 j ∧ j ≤ i + 1 ∧ wr = w1.drewN m) (fun v8 _ => i + 1 - (intOf v8).toNat)
          case atStart => exact ⟨0, 0, rfl, by omega, rfl⟩
          case round =>
            obtain ⟨j, m, rfl, hj2, rfl⟩ := hrel
            by_cases hlj2 : j < i + 1
            · obtain ⟨y, hy⟩ := get_some (xs := uenc u) (i := j) (by have := HEL.out; omega)
              obtain ⟨ad1, eA1, hcy⟩ := rd_at (RdV.of_win Q1.out) hy
              subst eA1
              have hcz := rd_some (HR.out.below Q2.out.no) (x := y) (i := j) (by have h := hy; rw [HE.out, List.getElem?_take, if_pos hlj2] at h; exact h)
              have hlt2 : (j : Int) < (uenc u).length := by have := HEL.out; omega
              clear hy
              go_wp2_with fail
              go_quiet (fail)
              go_wp2_with fail
              go_roundw
              case rel => exact ⟨j + 1, m + nq, by simp, by omega, (by first | rfl | exact World.drewN_drewN ..)⟩
              case measure => simp [intOf]; omega
            · have hlt2 : ¬ (j : Int) < (uenc u).length := by have := HEL.out; omega
              go_wp2_with fail
              go_ret2
              exact ⟨rfl, Q2.out.trans (Fr.of_below (accDrew (Below.refl _ _) _) No) (fun _ _ h => h) (fun _ _ h => h)⟩
end Go.Proofs.Ytchcimkmjoegdaa.C
