/- The codec's reader: number, take, Uint, Int, Size, Text, Bytes, Left, Err, End: what each call answers and what the reader holds behind it. Conditions: as each theorem states. -/
import Derived.Test.YtchcimkmjoegdaaCodA
import Derived.StillTailTactics
import Derived.BigQuiet
namespace Go.Proofs.Ytchcimkmjoegdaa.C
open Go.RowKit Go.Proofs.YtchcimkmjoegdaaW.PrintWords Go.Proofs.YtchcimkmjoegdaaW.PrintMore Go.Proofs.Ytchcimkmjoegdaa.M
attribute [local go_sem] max2_int min2_int max_two min_two
set_option linter.unusedVariables false
set_option linter.unusedSimpArgs false

/-- What stands at the head of bytes, k groups at the most; none: no number's form. -/
def numK : Nat → List Int → Option (Nat × Nat)
  | 0, _ => none
  | _ + 1, [] => none
  | k + 1, c :: r =>
    if k = 0 ∧ 1 < c.toNat % 128 then none
    else if c < 128 then (if c = 0 ∧ k ≠ 9 then none else some (c.toNat % 128, 1))
    else (numK k r).map fun p => (c.toNat % 128 + 128 * p.1, p.2 + 1)
def num (b : List Int) : Option (Nat × Nat) := numK 10 b
def numV : Option (Nat × Nat) → Value
  | none => .tuple #[.int .u64 0, .int .i64 (-1)]
  | some (u, n) => .tuple #[.int .u64 u, .int .i64 n]
def Byt (b : List Int) : Prop := ∀ x ∈ b, 0 ≤ x ∧ x ≤ 255
/-- The state of number's loop. -/
def NumRel (b : List Int) (m : Nat) (v6 v16 : Value) : Prop :=
  ∃ acc i : Nat, v6 = .int .u64 acc ∧ v16 = .int .i64 i ∧ i ≤ m ∧ acc < 128 ^ i ∧ num b = (numK (10 - i) (b.drop i)).map fun p => (acc + 128 ^ i * p.1, p.2 + i)
theorem grp (x : Int) (h0 : 0 ≤ x) (h1 : x ≤ 255) : IntKind.u64.wrap (bits .and .u8 x 127) = ((x.toNat % 128 : Nat) : Int) := by
  have h := bits_mask .u8 8 (by decide) wraps_u8 7 (by decide) x h0 (by omega)
  have e : bits .and .u8 x 127 = x % 128 := h
  rw [e, IntKind.wrap_u64]
  omega
theorem pow128 (i : Nat) : (2 : Int) ^ (7 * i) = ((128 ^ i : Nat) : Int) := by
  rw [Int.pow_mul]
  norm_cast
theorem accu (i acc : Nat) (x : Int) (h0 : 0 ≤ x) (h1 : x ≤ 255) (hi : i < 10) (ha : acc < 128 ^ i) (h9 : i = 9 → x.toNat % 128 ≤ 1) :
    bits .or .u64 (acc : Int) (IntKind.u64.wrap (IntKind.u64.wrap (bits .and .u8 x 127) * 2 ^ (7 * i))) = ((acc + 128 ^ i * (x.toNat % 128) : Nat) : Int) ∧ acc + 128 ^ i * (x.toNat % 128) < 128 ^ (i + 1) := by
  rw [grp x h0 h1, pow128]
  have hg : x.toNat % 128 < 128 := Nat.mod_lt _ (by decide)
  generalize x.toNat % 128 = g at hg h9
  have hP : 128 ^ (i + 1) = 128 ^ i * 128 := Nat.pow_succ ..
  have hm : g * 128 ^ i + 128 ^ i ≤ 128 ^ i * 128 := by
    have := Nat.mul_le_mul_right (128 ^ i) (show g + 1 ≤ 128 by omega)
    rw [Nat.add_mul, Nat.one_mul, Nat.mul_comm 128] at this
    exact this
  have hbig : 128 ^ i * g + 128 ^ i ≤ 18446744073709551616 := by
    rcases Nat.lt_or_ge i 9 with h | h
    · have : 128 ^ i ≤ 128 ^ 8 := Nat.pow_le_pow_right (by decide) (by omega)
      have : 128 ^ i * 128 ≤ 128 ^ 8 * 128 := Nat.mul_le_mul_right _ this
      rw [Nat.mul_comm]
      omega
    · obtain rfl : i = 9 := by omega
      have := h9 rfl
      have : 128 ^ 9 * g ≤ 128 ^ 9 * 1 := Nat.mul_le_mul_left _ this
      omega
  have e1 : (g : Int) * ((128 ^ i : Nat) : Int) = ((128 ^ i * g : Nat) : Int) := by rw [Nat.mul_comm]; norm_cast
  have hw : IntKind.u64.wrap ((g : Int) * ((128 ^ i : Nat) : Int)) = ((128 ^ i * g : Nat) : Int) := by
    rw [e1, IntKind.wrap_u64]
    omega
  refine ⟨?_, by rw [hP]; have := Nat.mul_comm (128 ^ i) g; omega⟩
  rw [hw, bits_or_u64_nat _ _ (by omega) (by omega)]
  congr 1
  have e2 : 128 ^ i = 2 ^ (7 * i) := by rw [Nat.pow_mul]
  rw [Nat.or_comm, e2, ← Nat.two_pow_add_eq_or_of_lt (by rw [← e2]; exact ha)]
  omega
theorem drop_at {b : List Int} {i : Nat} {x : Int} (hx : b[i]? = some x) : b.drop i = x :: b.drop (i + 1) := by
  have h := (List.getElem?_eq_some_iff.1 hx)
  obtain ⟨h1, h2⟩ := h
  rw [List.drop_eq_getElem_cons h1, h2]
section
variable {b : List Int} {i acc : Nat} {x : Int} (hx : b[i]? = some x) (hi : i < 10) (hn : num b = (numK (10 - i) (b.drop i)).map fun p => (acc + 128 ^ i * p.1, p.2 + i))
include hx hi hn
theorem num_open : num b = (if 9 - i = 0 ∧ 1 < x.toNat % 128 then none else if x < 128 then (if x = 0 ∧ 9 - i ≠ 9 then none else some (x.toNat % 128, 1)) else (numK (9 - i) (b.drop (i + 1))).map fun p => (x.toNat % 128 + 128 * p.1, p.2 + 1) : Option (Nat × Nat)).map fun p => (acc + 128 ^ i * p.1, p.2 + i) := by
  rw [hn, drop_at hx, show 10 - i = (9 - i) + 1 by omega, numK]
theorem num_big (h9 : i = 9) (hg : 1 < x.toNat % 128) : num b = none := by
  rw [num_open hx hi hn, if_pos ⟨by omega, hg⟩]; rfl
theorem num_zero (h9 : i = 9 → x.toNat % 128 ≤ 1) (h0 : x = 0) (hp : 0 < i) : num b = none := by
  rw [num_open hx hi hn, if_neg (by intro h; have := h9 (by omega); omega), if_pos (by omega), if_pos ⟨h0, by omega⟩]; rfl
theorem num_end (h9 : i = 9 → x.toNat % 128 ≤ 1) (h1 : x < 128) (hp : ¬ (x = 0 ∧ 0 < i)) : num b = some (acc + 128 ^ i * (x.toNat % 128), i + 1) := by
  rw [num_open hx hi hn, if_neg (by intro h; have := h9 (by omega); omega), if_pos h1, if_neg (by intro h; exact hp ⟨h.1, by omega⟩)]
  simp [Nat.add_comm]
theorem num_on (h9 : i = 9 → x.toNat % 128 ≤ 1) (h1 : ¬ x < 128) : num b = (numK (10 - (i + 1)) (b.drop (i + 1))).map fun p => (acc + 128 ^ i * (x.toNat % 128) + 128 ^ (i + 1) * p.1, p.2 + (i + 1)) := by
  rw [num_open hx hi hn, if_neg (by intro h; have := h9 (by omega); omega), if_neg h1, show 10 - (i + 1) = 9 - i by omega, Option.map_map]
  congr 1
  funext p
  simp only [Function.comp_apply, Nat.pow_succ, Nat.mul_add, Nat.mul_assoc]
  congr 1 <;> omega
end
theorem num_out {b : List Int} {i acc : Nat} (hi : i = 10 ∨ b.length ≤ i) (hn : num b = (numK (10 - i) (b.drop i)).map fun p => (acc + 128 ^ i * p.1, p.2 + i)) : num b = none := by
  rw [hn]
  rcases hi with rfl | hi
  · rfl
  · rw [List.drop_eq_nil_of_le hi]
    cases 10 - i <;> rfl
theorem num_v (b : List Int) (k : Option (Nat × Nat)) (h : num b = k) : numV (num b) = numV k := by rw [h]
set_option maxRecDepth 100000 in
set_option maxHeartbeats 2000000 in
theorem number_any (w : World) (p : Value) (A : Option Addr) (n c : Nat) (b : List Int) (hr : RdV w A (nums .u8 b)) (hl : b.length = n) (hc : n ≤ c) (hn : n ≤ 9223372036854775807) (hb : Byt b) :
    Calls Try.prog 74 #[p, .slice A n c] w fun e w' => e = .returned (numV (num b)) ∧ w' = w := by
  have HR := Aside0.mk hr
  have HB := Aside0.mk hb
  have HL := Aside0.mk hl
  clear hr hb hl
  by_cases h10 : 10 < n
  · have e10 : max (10 : Int) 0 = 10 := by decide
    go_enter Try.func74, Try.ntmps74
    go_wp2_with fail
    go_loop [6, 16] (fun v6 v16 => NumRel b 10 v6 v16) (fun _ v16 => 10 - (intOf v16).toNat)
    case atStart => exact ⟨0, 0, rfl, rfl, by omega, by simp, by simp [num]⟩
    case round =>
      obtain ⟨acc, i, rfl, rfl, hi, hacc, hnum⟩ := hrel
      have H1 := Aside0.mk hacc
      have H2 := Aside0.mk hnum
      clear hacc hnum
      by_cases hlt : i < 10
      · have hin : i < b.length := by have := HL.out; omega
        obtain ⟨ad, eA, hcell⟩ := HR.out (by intro h; have := congrArg List.length h; simp [nums] at this; subst this; simp at hin)
        obtain ⟨x, hx⟩ : ∃ x, b[i]? = some x := ⟨_, List.getElem?_eq_getElem hin⟩
        have hcx := hcell i (.int .u8 x) (by simp [nums, hx])
        subst eA
        clear hcell
        have HX := Aside0.mk hx
        clear hx
        have hb := HB.out x (List.mem_of_getElem? HX.out)
        obtain ⟨hx0, hx1⟩ := hb
        have hi10 : i < 10 := by omega
        have HG := Aside0.mk (grp x hx0 hx1)
        by_cases hbig : i = 9 ∧ 1 < x.toNat % 128
        · have h9b : ((i : Int) == 9) = true := by simp; omega
          have hg : 1 < IntKind.u64.wrap (bits .and .u8 x 127) := by rw [HG.out]; omega
          have HBIG := Aside0.mk hbig
          clear hbig
          go_wp2_with fail
          go_ret2
          exact ⟨by rw [num_v b _ (num_big HX.out hi10 H2.out HBIG.out.1 HBIG.out.2)]; rfl, rfl⟩
        · have H9 := Aside0.mk (show i = 9 → x.toNat % 128 ≤ 1 from fun h => by omega)
          clear hbig
          have HA := Aside0.mk (accu i acc x hx0 hx1 hi10 H1.out H9.out)
          have h9 : (((i : Int) == 9) = false) ∨ (((i : Int) == 9) = true ∧ IntKind.u64.wrap (bits .and .u8 x 127) ≤ 1) := by
            by_cases h : i = 9
            · exact .inr ⟨by simp; omega, by rw [HG.out]; have := H9.out h; omega⟩
            · exact .inl (by simp; omega)
          by_cases hs : x < 128
          · by_cases hz : x = 0 ∧ 0 < i
            · have HZ := Aside0.mk hz
              obtain ⟨hz0, hz1⟩ := hz
              have hzb : (x == 0) = true := by simp [hz0]
              clear hz0
              rcases h9 with h9 | ⟨h9, h9'⟩
              all_goals
                go_wp2_with fail
                go_ret2
                exact ⟨by rw [num_v b _ (num_zero HX.out hi10 H2.out H9.out HZ.out.1 HZ.out.2)]; rfl, rfl⟩
            · have HZ := Aside0.mk hz
              have hz' : ((x == 0) = false) ∨ ((x == 0) = true ∧ ¬ 0 < i) := by
                by_cases h : x = 0
                · exact .inr ⟨by simp [h], fun h' => hz ⟨h, h'⟩⟩
                · exact .inl (by simp [h])
              clear hz
              have hfin : Ending.returned (.tuple #[.int .u64 (bits .or .u64 (acc : Int) (IntKind.u64.wrap (IntKind.u64.wrap (bits .and .u8 x 127) * 2 ^ (7 * i)))), .int .i64 ((i : Int) + 1)]) = Ending.returned (numV (num b)) := by
                rw [num_v b _ (num_end HX.out hi10 H2.out H9.out hs HZ.out), HA.out.1]
                rfl
              have HF := Aside0.mk hfin
              clear hfin
              rcases h9 with h9 | ⟨h9, h9'⟩
              all_goals
                rcases hz' with hz' | ⟨hz', hz''⟩
                all_goals
                  go_wp2_with fail
                  go_ret2
                  exact ⟨HF.out, rfl⟩
          · have hrel : NumRel b 10 (.int .u64 (bits .or .u64 (acc : Int) (IntKind.u64.wrap (IntKind.u64.wrap (bits .and .u8 x 127) * 2 ^ (7 * i))))) (.int .i64 ((i : Int) + 1)) :=
              ⟨_, i + 1, by rw [HA.out.1], by simp, by omega, HA.out.2, num_on HX.out hi10 H2.out H9.out hs⟩
            have HR2 := Aside0.mk hrel
            clear hrel
            rcases h9 with h9 | ⟨h9, h9'⟩
            all_goals
              go_wp2_with fail
              go_round
              case rel => exact HR2.out
              case measure => simp [intOf]; omega
      · have HO := Aside0.mk (num_out (b := b) (i := i) (by have := HL.out; omega) H2.out)
        go_wp2_with fail
        go_ret2
        exact ⟨by rw [num_v b _ HO.out]; rfl, rfl⟩
  · go_enter Try.func74, Try.ntmps74
    go_wp2_with fail
    go_loop [6, 16] (fun v6 v16 => NumRel b n v6 v16) (fun _ v16 => n - (intOf v16).toNat)
    case atStart => exact ⟨0, 0, rfl, rfl, by omega, by simp, by simp [num]⟩
    case round =>
      obtain ⟨acc, i, rfl, rfl, hi, hacc, hnum⟩ := hrel
      have H1 := Aside0.mk hacc
      have H2 := Aside0.mk hnum
      clear hacc hnum
      by_cases hlt : i < n
      · have hin : i < b.length := by have := HL.out; omega
        obtain ⟨ad, eA, hcell⟩ := HR.out (by intro h; have := congrArg List.length h; simp [nums] at this; subst this; simp at hin)
        obtain ⟨x, hx⟩ : ∃ x, b[i]? = some x := ⟨_, List.getElem?_eq_getElem hin⟩
        have hcx := hcell i (.int .u8 x) (by simp [nums, hx])
        subst eA
        clear hcell
        have HX := Aside0.mk hx
        clear hx
        have hb := HB.out x (List.mem_of_getElem? HX.out)
        obtain ⟨hx0, hx1⟩ := hb
        have hi10 : i < 10 := by omega
        have HG := Aside0.mk (grp x hx0 hx1)
        by_cases hbig : i = 9 ∧ 1 < x.toNat % 128
        · have h9b : ((i : Int) == 9) = true := by simp; omega
          have hg : 1 < IntKind.u64.wrap (bits .and .u8 x 127) := by rw [HG.out]; omega
          have HBIG := Aside0.mk hbig
          clear hbig
          go_wp2_with fail
          go_ret2
          exact ⟨by rw [num_v b _ (num_big HX.out hi10 H2.out HBIG.out.1 HBIG.out.2)]; rfl, rfl⟩
        · have H9 := Aside0.mk (show i = 9 → x.toNat % 128 ≤ 1 from fun h => by omega)
          clear hbig
          have HA := Aside0.mk (accu i acc x hx0 hx1 hi10 H1.out H9.out)
          have h9 : (((i : Int) == 9) = false) ∨ (((i : Int) == 9) = true ∧ IntKind.u64.wrap (bits .and .u8 x 127) ≤ 1) := by
            by_cases h : i = 9
            · exact .inr ⟨by simp; omega, by rw [HG.out]; have := H9.out h; omega⟩
            · exact .inl (by simp; omega)
          by_cases hs : x < 128
          · by_cases hz : x = 0 ∧ 0 < i
            · have HZ := Aside0.mk hz
              obtain ⟨hz0, hz1⟩ := hz
              have hzb : (x == 0) = true := by simp [hz0]
              clear hz0
              rcases h9 with h9 | ⟨h9, h9'⟩
              all_goals
                go_wp2_with fail
                go_ret2
                exact ⟨by rw [num_v b _ (num_zero HX.out hi10 H2.out H9.out HZ.out.1 HZ.out.2)]; rfl, rfl⟩
            · have HZ := Aside0.mk hz
              have hz' : ((x == 0) = false) ∨ ((x == 0) = true ∧ ¬ 0 < i) := by
                by_cases h : x = 0
                · exact .inr ⟨by simp [h], fun h' => hz ⟨h, h'⟩⟩
                · exact .inl (by simp [h])
              clear hz
              have hfin : Ending.returned (.tuple #[.int .u64 (bits .or .u64 (acc : Int) (IntKind.u64.wrap (IntKind.u64.wrap (bits .and .u8 x 127) * 2 ^ (7 * i)))), .int .i64 ((i : Int) + 1)]) = Ending.returned (numV (num b)) := by
                rw [num_v b _ (num_end HX.out hi10 H2.out H9.out hs HZ.out), HA.out.1]
                rfl
              have HF := Aside0.mk hfin
              clear hfin
              rcases h9 with h9 | ⟨h9, h9'⟩
              all_goals
                rcases hz' with hz' | ⟨hz', hz''⟩
                all_goals
                  go_wp2_with fail
                  go_ret2
                  exact ⟨HF.out, rfl⟩
          · have hrel : NumRel b n (.int .u64 (bits .or .u64 (acc : Int) (IntKind.u64.wrap (IntKind.u64.wrap (bits .and .u8 x 127) * 2 ^ (7 * i))))) (.int .i64 ((i : Int) + 1)) :=
              ⟨_, i + 1, by rw [HA.out.1], by simp, by omega, HA.out.2, num_on HX.out hi10 H2.out H9.out hs⟩
            have HR2 := Aside0.mk hrel
            clear hrel
            rcases h9 with h9 | ⟨h9, h9'⟩
            all_goals
              go_wp2_with fail
              go_round
              case rel => exact HR2.out
              case measure => simp [intOf]; omega
      · have HO := Aside0.mk (num_out (b := b) (i := i) (by have := HL.out; omega) H2.out)
        go_wp2_with fail
        go_ret2
        exact ⟨by rw [num_v b _ HO.out]; rfl, rfl⟩
end Go.Proofs.Ytchcimkmjoegdaa.C
