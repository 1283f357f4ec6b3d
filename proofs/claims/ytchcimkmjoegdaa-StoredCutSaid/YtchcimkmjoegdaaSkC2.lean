/- The codec's reader: number, take, Uint, Int, Size, Text, Bytes, Left, Err, End: what each call answers and what the reader holds behind it. Conditions: as each theorem states. | The codec's reader, its calls: NewReader, take, Uint, Int, Size, Text, Bytes, Left, Err, End: what each answers and what the reader holds behind it. Conditions: as each theorem states. | The codec's reader, its calls with a bound: Size, Text, Bytes, End. Conditions: as each theorem states. | The codec's reader: Text, Bytes, End. Conditions: as each theorem states. (Several texts of mine laid into one by prune.py.) -/
import Derived.Test.YtchcimkmjoegdaaSkC1
namespace Go.Proofs.Ytchcimkmjoegdaa.C
open Go.RowKit Go.Proofs.YtchcimkmjoegdaaW.PrintWords Go.Proofs.YtchcimkmjoegdaaW.PrintMore Go.Proofs.Ytchcimkmjoegdaa.M
attribute [local go_sem] max2_int min2_int max_two min_two
set_option linter.unusedVariables false
set_option linter.unusedSimpArgs false

/-- What stands at the head of bytes, k groups at the most; none: no number's form. -/
def numK : Nat → List Int → Option (Nat × Nat)
  | 0, _ => none
  | _ + 1, [] => none
  | k + 1, c :: r =>
    if k = 0 ∧ 1 < c.toNat % 128 then none
    else if c < 128 then (if c = 0 ∧ k ≠ 9 then none else some (c.toNat % 128, 1))
    else (numK k r).map fun p => (c.toNat % 128 + 128 * p.1, p.2 + 1)
def num (b : List Int) : Option (Nat × Nat) := numK 10 b
def numV : Option (Nat × Nat) → Value
  | none => .tuple #[.int .u64 0, .int .i64 (-1)]
  | some (u, n) => .tuple #[.int .u64 u, .int .i64 n]
def Byt (b : List Int) : Prop := ∀ x ∈ b, 0 ≤ x ∧ x ≤ 255
/-- The state of number's loop. -/
def NumRel (b : List Int) (m : Nat) (v6 v16 : Value) : Prop :=
  ∃ acc i : Nat, v6 = .int .u64 acc ∧ v16 = .int .i64 i ∧ i ≤ m ∧ acc < 128 ^ i ∧ num b = (numK (10 - i) (b.drop i)).map fun p => (acc + 128 ^ i * p.1, p.2 + i)
theorem grp (x : Int) (h0 : 0 ≤ x) (h1 : x ≤ 255) : IntKind.u64.wrap (bits .and .u8 x 127) = ((x.toNat % 128 : Nat) : Int) := by
  have h := bits_mask .u8 8 (by decide) wraps_u8 7 (by decide) x h0 (by omega)
  have e : bits .and .u8 x 127 = x % 128 := h
  rw [e, IntKind.wrap_u64]
  omega
theorem pow128 (i : Nat) : (2 : Int) ^ (7 * i) = ((128 ^ i : Nat) : Int) := by
  rw [Int.pow_mul]
  norm_cast
theorem accu (i acc : Nat) (x : Int) (h0 : 0 ≤ x) (h1 : x ≤ 255) (hi : i < 10) (ha : acc < 128 ^ i) (h9 : i = 9 → x.toNat % 128 ≤ 1) :
    bits .or .u64 (acc : Int) (IntKind.u64.wrap (IntKind.u64.wrap (bits .and .u8 x 127) * 2 ^ (7 * i))) = ((acc + 128 ^ i * (x.toNat % 128) : Nat) : Int) ∧ acc + 128 ^ i * (x.toNat % 128) < 128 ^ (i + 1) := by
  rw [grp x h0 h1, pow128]
  have hg : x.toNat % 128 < 128 := Nat.mod_lt _ (by decide)
  generalize x.toNat % 128 = g at hg h9
  have hP : 128 ^ (i + 1) = 128 ^ i * 128 := Nat.pow_succ ..
  have hm : g * 128 ^ i + 128 ^ i ≤ 128 ^ i * 128 := by
    have := Nat.mul_le_mul_right (128 ^ i) (show g + 1 ≤ 128 by omega)
    rw [Nat.add_mul, Nat.one_mul, Nat.mul_comm 128] at this
    exact this
  have hbig : 128 ^ i * g + 128 ^ i ≤ 18446744073709551616 := by
    rcases Nat.lt_or_ge i 9 with h | h
    · have : 128 ^ i ≤ 128 ^ 8 := Nat.pow_le_pow_right (by decide) (by omega)
      have : 128 ^ i * 128 ≤ 128 ^ 8 * 128 := Nat.mul_le_mul_right _ this
      rw [Nat.mul_comm]
      omega
    · obtain rfl : i = 9 := by omega
      have := h9 rfl
      have : 128 ^ 9 * g ≤ 128 ^ 9 * 1 := Nat.mul_le_mul_left _ this
      omega
  have e1 : (g : Int) * ((128 ^ i : Nat) : Int) = ((128 ^ i * g : Nat) : Int) := by rw [Nat.mul_comm]; norm_cast
  have hw : IntKind.u64.wrap ((g : Int) * ((128 ^ i : Nat) : Int)) = ((128 ^ i * g : Nat) : Int) := by
    rw [e1, IntKind.wrap_u64]
    omega
  refine ⟨?_, by rw [hP]; have := Nat.mul_comm (128 ^ i) g; omega⟩
  rw [hw, bits_or_u64_nat _ _ (by omega) (by omega)]
  congr 1
  have e2 : 128 ^ i = 2 ^ (7 * i) := by rw [Nat.pow_mul]
  rw [Nat.or_comm, e2, ← Nat.two_pow_add_eq_or_of_lt (by rw [← e2]; exact ha)]
  omega
theorem drop_at {b : List Int} {i : Nat} {x : Int} (hx : b[i]? = some x) : b.drop i = x :: b.drop (i + 1) := by
  have h := (List.getElem?_eq_some_iff.1 hx)
  obtain ⟨h1, h2⟩ := h
  rw [List.drop_eq_getElem_cons h1, h2]
section
variable {b : List Int} {i acc : Nat} {x : Int} (hx : b[i]? = some x) (hi : i < 10) (hn : num b = (numK (10 - i) (b.drop i)).map fun p => (acc + 128 ^ i * p.1, p.2 + i))
include hx hi hn
theorem num_open : num b = (if 9 - i = 0 ∧ 1 < x.toNat % 128 then none else if x < 128 then (if x = 0 ∧ 9 - i ≠ 9 then none else some (x.toNat % 128, 1)) else (numK (9 - i) (b.drop (i + 1))).map fun p => (x.toNat % 128 + 128 * p.1, p.2 + 1) : Option (Nat × Nat)).map fun p => (acc + 128 ^ i * p.1, p.2 + i) := by
  rw [hn, drop_at hx, show 10 - i = (9 - i) + 1 by omega, numK]
theorem num_big (h9 : i = 9) (hg : 1 < x.toNat % 128) : num b = none := by
  rw [num_open hx hi hn, if_pos ⟨by omega, hg⟩]; rfl
theorem num_zero (h9 : i = 9 → x.toNat % 128 ≤ 1) (h0 : x = 0) (hp : 0 < i) : num b = none := by
  rw [num_open hx hi hn, if_neg (by intro h; have := h9 (by omega); omega), if_pos (by omega), if_pos ⟨h0, by omega⟩]; rfl
theorem num_end (h9 : i = 9 → x.toNat % 128 ≤ 1) (h1 : x < 128) (hp : ¬ (x = 0 ∧ 0 < i)) : num b = some (acc + 128 ^ i * (x.toNat % 128), i + 1) := by
  rw [num_open hx hi hn, if_neg (by intro h; have := h9 (by omega); omega), if_pos h1, if_neg (by intro h; exact hp ⟨h.1, by omega⟩)]
  simp [Nat.add_comm]
theorem num_on (h9 : i = 9 → x.toNat % 128 ≤ 1) (h1 : ¬ x < 128) : num b = (numK (10 - (i + 1)) (b.drop (i + 1))).map fun p => (acc + 128 ^ i * (x.toNat % 128) + 128 ^ (i + 1) * p.1, p.2 + (i + 1)) := by
  rw [num_open hx hi hn, if_neg (by intro h; have := h9 (by omega); omega), if_neg h1, show 10 - (i + 1) = 9 - i by omega, Option.map_map]
  congr 1
  funext p
  simp only [Function.comp_apply, Nat.pow_succ, Nat.mul_add, Nat.mul_assoc]
  congr 1 <;> omega
end
theorem num_out {b : List Int} {i acc : Nat} (hi : i = 10 ∨ b.length ≤ i) (hn : num b = (numK (10 - i) (b.drop i)).map fun p => (acc + 128 ^ i * p.1, p.2 + i)) : num b = none := by
  rw [hn]
  rcases hi with rfl | hi
  · rfl
  · rw [List.drop_eq_nil_of_le hi]
    cases 10 - i <;> rfl
theorem num_v (b : List Int) (k : Option (Nat × Nat)) (h : num b = k) : numV (num b) = numV k := by rw [h]
set_option maxRecDepth 100000 in
set_option maxHeartbeats 2000000 in
theorem number_any (w : World) (p : Value) (A : Option Addr) (n c : Nat) (b : List Int) (hr : RdV w A (nums .u8 b)) (hl : b.length = n) (hc : n ≤ c) (hn : n ≤ 9223372036854775807) (hb : Byt b) :
    Calls Try.prog 74 #[p, .slice A n c] w fun e w' => e = .returned (numV (num b)) ∧ w' = w := by
  have HR := Aside0.mk hr
  have HB := Aside0.mk hb
  have HL := Aside0.mk hl
  clear hr hb hl
  by_cases h10 : 10 < n
  · have e10 : max (10 : Int) 0 = 10 := by decide
    go_enter Try.func74, Try.ntmps74
    go_wp2_with fail
    go_loop [6, 16] (fun v6 v16 => NumRel b 10 v6 v16) (fun _ v16 => 10 - (intOf v16).toNat)
    case atStart => exact ⟨0, 0, rfl, rfl, by omega, by simp, by simp [num]⟩
    case round =>
      obtain ⟨acc, i, rfl, rfl, hi, hacc, hnum⟩ := hrel
      have H1 := Aside0.mk hacc
      have H2 := Aside0.mk hnum
      clear hacc hnum
      by_cases hlt : i < 10
      · have hin : i < b.length := by have := HL.out; omega
        obtain ⟨ad, eA, hcell⟩ := HR.out (by intro h; have := congrArg List.length h; simp [nums] at this; subst this; simp at hin)
        obtain ⟨x, hx⟩ : ∃ x, b[i]? = some x := ⟨_, List.getElem?_eq_getElem hin⟩
        have hcx := hcell i (.int .u8 x) (by simp [nums, hx])
        subst eA
        clear hcell
        have HX := Aside0.mk hx
        clear hx
        have hb := HB.out x (List.mem_of_getElem? HX.out)
        obtain ⟨hx0, hx1⟩ := hb
        have hi10 : i < 10 := by omega
        have HG := Aside0.mk (grp x hx0 hx1)
        by_cases hbig : i = 9 ∧ 1 < x.toNat % 128
        · have h9b : ((i : Int) == 9) = true := by simp; omega
          have hg : 1 < IntKind.u64.wrap (bits .and .u8 x 127) := by rw [HG.out]; omega
          have HBIG := Aside0.mk hbig
          clear hbig
          go_wp2_with fail
          go_ret2
          exact ⟨by rw [num_v b _ (num_big HX.out hi10 H2.out HBIG.out.1 HBIG.out.2)]; rfl, rfl⟩
        · have H9 := Aside0.mk (show i = 9 → x.toNat % 128 ≤ 1 from fun h => by omega)
          clear hbig
          have HA := Aside0.mk (accu i acc x hx0 hx1 hi10 H1.out H9.out)
          have h9 : (((i : Int) == 9) = false) ∨ (((i : Int) == 9) = true ∧ IntKind.u64.wrap (bits .and .u8 x 127) ≤ 1) := by
            by_cases h : i = 9
            · exact .inr ⟨by simp; omega, by rw [HG.out]; have := H9.out h; omega⟩
            · exact .inl (by simp; omega)
          by_cases hs : x < 128
          · by_cases hz : x = 0 ∧ 0 < i
            · have HZ := Aside0.mk hz
              obtain ⟨hz0, hz1⟩ := hz
              have hzb : (x == 0) = true := by simp [hz0]
              clear hz0
              rcases h9 with h9 | ⟨h9, h9'⟩
              all_goals
                go_wp2_with fail
                go_ret2
                exact ⟨by rw [num_v b _ (num_zero HX.out hi10 H2.out H9.out HZ.out.1 HZ.out.2)]; rfl, rfl⟩
            · have HZ := Aside0.mk hz
              have hz' : ((x == 0) = false) ∨ ((x == 0) = true ∧ ¬ 0 < i) := by
                by_cases h : x = 0
                · exact .inr ⟨by simp [h], fun h' => hz ⟨h, h'⟩⟩
                · exact .inl (by simp [h])
              clear hz
              have hfin : Ending.returned (.tuple #[.int .u64 (bits .or .u64 (acc : Int) (IntKind.u64.wrap (IntKind.u64.wrap (bits .and .u8 x 127) * 2 ^ (7 * i)))), .int .i64 ((i : Int) + 1)]) = Ending.returned (numV (num b)) := by
                rw [num_v b _ (num_end HX.out hi10 H2.out H9.out hs HZ.out), HA.out.1]
                rfl
              have HF := Aside0.mk hfin
              clear hfin
              rcases h9 with h9 | ⟨h9, h9'⟩
              all_goals
                rcases hz' with hz' | ⟨hz', hz''⟩
                all_goals
                  go_wp2_with fail
                  go_ret2
                  exact ⟨HF.out, rfl⟩
          · have hrel : NumRel b 10 (.int .u64 (bits .or .u64 (acc : Int) (IntKind.u64.wrap (IntKind.u64.wrap (bits .and .u8 x 127) * 2 ^ (7 * i))))) (.int .i64 ((i : Int) + 1)) :=
              ⟨_, i + 1, by rw [HA.out.1], by simp, by omega, HA.out.2, num_on HX.out hi10 H2.out H9.out hs⟩
            have HR2 := Aside0.mk hrel
            clear hrel
            rcases h9 with h9 | ⟨h9, h9'⟩
            all_goals
              go_wp2_with fail
              go_round
              case rel => exact HR2.out
              case measure => simp [intOf]; omega
      · have HO := Aside0.mk (num_out (b := b) (i := i) (by have := HL.out; omega) H2.out)
        go_wp2_with fail
        go_ret2
        exact ⟨by rw [num_v b _ HO.out]; rfl, rfl⟩
  · go_enter Try.func74, Try.ntmps74
    go_wp2_with fail
    go_loop [6, 16] (fun v6 v16 => NumRel b n v6 v16) (fun _ v16 => n - (intOf v16).toNat)
    case atStart => exact ⟨0, 0, rfl, rfl, by omega, by simp, by simp [num]⟩
    case round =>
      obtain ⟨acc, i, rfl, rfl, hi, hacc, hnum⟩ := hrel
      have H1 := Aside0.mk hacc
      have H2 := Aside0.mk hnum
      clear hacc hnum
      by_cases hlt : i < n
      · have hin : i < b.length := by have := HL.out; omega
        obtain ⟨ad, eA, hcell⟩ := HR.out (by intro h; have := congrArg List.length h; simp [nums] at this; subst this; simp at hin)
        obtain ⟨x, hx⟩ : ∃ x, b[i]? = some x := ⟨_, List.getElem?_eq_getElem hin⟩
        have hcx := hcell i (.int .u8 x) (by simp [nums, hx])
        subst eA
        clear hcell
        have HX := Aside0.mk hx
        clear hx
        have hb := HB.out x (List.mem_of_getElem? HX.out)
        obtain ⟨hx0, hx1⟩ := hb
        have hi10 : i < 10 := by omega
        have HG := Aside0.mk (grp x hx0 hx1)
        by_cases hbig : i = 9 ∧ 1 < x.toNat % 128
        · have h9b : ((i : Int) == 9) = true := by simp; omega
          have hg : 1 < IntKind.u64.wrap (bits .and .u8 x 127) := by rw [HG.out]; omega
          have HBIG := Aside0.mk hbig
          clear hbig
          go_wp2_with fail
          go_ret2
          exact ⟨by rw [num_v b _ (num_big HX.out hi10 H2.out HBIG.out.1 HBIG.out.2)]; rfl, rfl⟩
        · have H9 := Aside0.mk (show i = 9 → x.toNat % 128 ≤ 1 from fun h => by omega)
          clear hbig
          have HA := Aside0.mk (accu i acc x hx0 hx1 hi10 H1.out H9.out)
          have h9 : (((i : Int) == 9) = false) ∨ (((i : Int) == 9) = true ∧ IntKind.u64.wrap (bits .and .u8 x 127) ≤ 1) := by
            by_cases h : i = 9
            · exact .inr ⟨by simp; omega, by rw [HG.out]; have := H9.out h; omega⟩
            · exact .inl (by simp; omega)
          by_cases hs : x < 128
          · by_cases hz : x = 0 ∧ 0 < i
            · have HZ := Aside0.mk hz
              obtain ⟨hz0, hz1⟩ := hz
              have hzb : (x == 0) = true := by simp [hz0]
              clear hz0
              rcases h9 with h9 | ⟨h9, h9'⟩
              all_goals
                go_wp2_with fail
                go_ret2
                exact ⟨by rw [num_v b _ (num_zero HX.out hi10 H2.out H9.out HZ.out.1 HZ.out.2)]; rfl, rfl⟩
            · have HZ := Aside0.mk hz
              have hz' : ((x == 0) = false) ∨ ((x == 0) = true ∧ ¬ 0 < i) := by
                by_cases h : x = 0
                · exact .inr ⟨by simp [h], fun h' => hz ⟨h, h'⟩⟩
                · exact .inl (by simp [h])
              clear hz
              have hfin : Ending.returned (.tuple #[.int .u64 (bits .or .u64 (acc : Int) (IntKind.u64.wrap (IntKind.u64.wrap (bits .and .u8 x 127) * 2 ^ (7 * i)))), .int .i64 ((i : Int) + 1)]) = Ending.returned (numV (num b)) := by
                rw [num_v b _ (num_end HX.out hi10 H2.out H9.out hs HZ.out), HA.out.1]
                rfl
              have HF := Aside0.mk hfin
              clear hfin
              rcases h9 with h9 | ⟨h9, h9'⟩
              all_goals
                rcases hz' with hz' | ⟨hz', hz''⟩
                all_goals
                  go_wp2_with fail
                  go_ret2
                  exact ⟨HF.out, rfl⟩
          · have hrel : NumRel b n (.int .u64 (bits .or .u64 (acc : Int) (IntKind.u64.wrap (IntKind.u64.wrap (bits .and .u8 x 127) * 2 ^ (7 * i))))) (.int .i64 ((i : Int) + 1)) :=
              ⟨_, i + 1, by rw [HA.out.1], by simp, by omega, HA.out.2, num_on HX.out hi10 H2.out H9.out hs⟩
            have HR2 := Aside0.mk hrel
            clear hrel
            rcases h9 with h9 | ⟨h9, h9'⟩
            all_goals
              go_wp2_with fail
              go_round
              case rel => exact HR2.out
              case measure => simp [intOf]; omega
      · have HO := Aside0.mk (num_out (b := b) (i := i) (by have := HL.out; omega) H2.out)
        go_wp2_with fail
        go_ret2
        exact ⟨by rw [num_v b _ HO.out]; rfl, rfl⟩
end Go.Proofs.Ytchcimkmjoegdaa.C
namespace Go.Proofs.Ytchcimkmjoegdaa.C
open Go.RowKit Go.Proofs.YtchcimkmjoegdaaW.PrintWords Go.Proofs.YtchcimkmjoegdaaW.PrintMore Go.Proofs.Ytchcimkmjoegdaa.M
set_option linter.unusedVariables false
set_option linter.unusedSimpArgs false

/-- A reader of xs at block g: its place, its error. -/
def Rdr (w : World) (base g : Nat) (xs : List Int) (i : Nat) (e : Int) : Prop :=
  base ≤ g ∧ i ≤ xs.length ∧ ∃ v, w.heap[g]? = some (.cells #[v, .int .i64 i, .int .i64 e] 108 (0, 0)) ∧ Win w base 5 1 v xs.length (nums .u8 xs)
theorem Rdr.below {w w' : World} {base g i : Nat} {xs : List Int} {e : Int} (h : Rdr w base g xs i e) (hb : Below w.heap.size w w') : Rdr w' base g xs i e := by
  obtain ⟨h1, h2, v, h3, h4⟩ := h
  exact ⟨h1, h2, v, (hb.block g (blk_lt h3)).trans h3, h4.below hb⟩
theorem Rdr.lt {w : World} {base g i : Nat} {xs : List Int} {e : Int} (h : Rdr w base g xs i e) : g < w.heap.size := by
  obtain ⟨_, _, v, h3, _⟩ := h
  exact blk_lt h3
/-- Others' blocks turn. -/
theorem Rdr.fr {S : Nat → Prop} {w w' : World} {base g i : Nat} {xs : List Int} {e : Int} (h : Rdr w base g xs i e) (hf : Fr S w w') (hg : ¬ S g) (hS : ∀ k cur, S k → w.heap[k]? ≠ some (.cells cur 5 (0, 0))) : Rdr w' base g xs i e := by
  obtain ⟨h1, h2, v, h3, h4⟩ := h
  exact ⟨h1, h2, v, hf.get h3 hg, h4.fr hf fun k hk hs => by
    obtain ⟨_, _, cur, hc⟩ := h4.at_ hk
    exact hS k cur hs hc⟩
/-- The reader's block written: its place, its error. -/
theorem Rdr.cells {w : World} {g : Nat} {v a b : Value} (h : w.heap[g]? = some (.cells #[v, a, b] 108 (0, 0))) :
    w.cell? ⟨g, 0, none⟩ = some v ∧ w.cell? ⟨g, 1, none⟩ = some a ∧ w.cell? ⟨g, 2, none⟩ = some b ∧ w.frozen? ⟨g, 1, none⟩ = false ∧ w.frozen? ⟨g, 2, none⟩ = false := by
  refine ⟨?_, ?_, ?_, ?_, ?_⟩ <;> simp [World.cell?, World.frozen?, h]
theorem set1 {w : World} {g : Nat} {v a b x : Value} (h : w.heap[g]? = some (.cells #[v, a, b] 108 (0, 0))) : (w.setCell ⟨g, 1, none⟩ x).heap[g]? = some (.cells #[v, x, b] 108 (0, 0)) := by
  simp [World.setCell, Array.getElem?_modify, h]
theorem set2 {w : World} {g : Nat} {v a b x : Value} (h : w.heap[g]? = some (.cells #[v, a, b] 108 (0, 0))) : (w.setCell ⟨g, 2, none⟩ x).heap[g]? = some (.cells #[v, a, x] 108 (0, 0)) := by
  simp [World.setCell, Array.getElem?_modify, h]

set_option maxHeartbeats 400000 in
theorem NewReader_any (w : World) (A : Option Addr) (n c : Nat) (xs : List Int) (hr : RdV w A (nums .u8 xs)) (hl : xs.length = n) (h0 : A = none → c = 0) (hc : n ≤ c) (hn : n ≤ 140737488355328) :
    Calls Try.prog 18 #[.slice A n c] w fun e w' => ∃ g, e = .returned (.pointer (some ⟨g, 0, none⟩)) ∧ Rdr w' w.heap.size g xs 0 0 ∧ Fr No w w' := by
  have CL := Aside0.mk (clone_any w A n c (nums .u8 xs) hr (by simpa [nums] using hl) h0 hc (nums_one _ _) hn)
  clear hr h0 hc hn
  go_enter Try.func18, Try.ntmps18
  go_wp2_with (first | (go_at_call 72; go_must (refine CL.out.mono ?_; rintro e w1 ⟨v, rfl, hw, hf⟩; have HW := Aside0.mk hw; have HF := Aside0.mk hf; clear hw hf; obtain ⟨A1, c1, e1, l1⟩ := HW.out.shape; subst e1)))
  go_ret
  refine ⟨w1.heap.size, rfl, ⟨HF.out.size, by omega, _, heap_alloc_new w1 _, ?_⟩, (HF.out.trans (Fr.alloc (S := No) w1 _) (fun _ _ h => h) (fun _ _ h => h))⟩
  rw [hl]
  exact HW.out.below (below_alloc (Below.refl _ _) _)
set_option maxHeartbeats 400000 in
theorem Err_any (w : World) (base g i : Nat) (xs : List Int) (e : Int) (h : Rdr w base g xs i e) :
    Calls Try.prog 22 #[.pointer (some ⟨g, 0, none⟩)] w fun e' w' => e' = .returned (.int .i64 e) ∧ w' = w := by
  obtain ⟨h1, h2, v, h3, h4⟩ := h
  obtain ⟨c0, c1, c2, f1, f2⟩ := Rdr.cells h3
  clear h4 h3
  go_enter Try.func22, Try.ntmps22
  go_wp2_with fail
  go_ret
  exact ⟨rfl, rfl⟩
set_option maxHeartbeats 400000 in
theorem Left_any (w : World) (base g i : Nat) (xs : List Int) (e : Int) (h : Rdr w base g xs i e) :
    Calls Try.prog 20 #[.pointer (some ⟨g, 0, none⟩)] w fun e' w' => e' = .returned (.int .i64 ((xs.length : Int) - i)) ∧ ∃ m, w' = w.drewN m := by
  obtain ⟨h1, h2, v, h3, h4⟩ := h
  obtain ⟨c0, c1, c2, f1, f2⟩ := Rdr.cells h3
  obtain ⟨A, c, rfl, hc⟩ := h4.shape
  have hm := h4.max
  clear h4 h3
  go_enter Try.func20, Try.ntmps20
  go_wp2_with fail
  go_quiet (fail)
  go_wp2_with fail
  go_ret
  exact ⟨rfl, nq, rfl⟩
set_option maxHeartbeats 400000 in
theorem Err_nil (w : World) : Calls Try.prog 22 #[.pointer none] w fun e' w' => e' = .returned (.int .i64 20) ∧ w' = w := by
  go_enter Try.func22, Try.ntmps22
  go_wp2_with fail
  go_ret
  exact ⟨rfl, rfl⟩
set_option maxHeartbeats 400000 in
theorem Left_nil (w : World) : Calls Try.prog 20 #[.pointer none] w fun e' w' => e' = .returned (.int .i64 0) ∧ w' = w := by
  go_enter Try.func20, Try.ntmps20
  go_wp2_with fail
  go_ret
  exact ⟨rfl, rfl⟩
/-- What Uint answers, and where the reader stands behind it. -/
def rU (xs : List Int) (i : Nat) (e : Int) : Nat × Nat × Int :=
  if e = 0 then (match num (xs.drop i) with | none => (0, i, 20) | some (u, k) => (u, i + k, 0)) else (0, i, e)
theorem Rdr.set1 {w : World} {base g i j : Nat} {xs : List Int} {e : Int} (h : Rdr w base g xs i e) (hj : j ≤ xs.length) : Rdr (w.setCell ⟨g, 1, none⟩ (.int .i64 j)) base g xs j e ∧ Fr (One g) w (w.setCell ⟨g, 1, none⟩ (.int .i64 j)) := by
  obtain ⟨h1, h2, v, h3, h4⟩ := h
  have hF : Fr (One g) w (w.setCell ⟨g, 1, none⟩ (.int .i64 j)) := Fr.setCell w _ _ rfl
  refine ⟨⟨h1, hj, v, C.set1 h3, h4.fr hF fun k hk hs => ?_⟩, hF⟩
  have hs' : k = g := hs
  subst hs'
  exact absurd (h4.ne_type hk h3) (by decide)
theorem Rdr.set2 {w : World} {base g i : Nat} {xs : List Int} {e e' : Int} (h : Rdr w base g xs i e) : Rdr (w.setCell ⟨g, 2, none⟩ (.int .i64 e')) base g xs i e' ∧ Fr (One g) w (w.setCell ⟨g, 2, none⟩ (.int .i64 e')) := by
  obtain ⟨h1, h2, v, h3, h4⟩ := h
  have hF : Fr (One g) w (w.setCell ⟨g, 2, none⟩ (.int .i64 e')) := Fr.setCell w _ _ rfl
  refine ⟨⟨h1, h2, v, C.set2 h3, h4.fr hF fun k hk hs => ?_⟩, hF⟩
  have hs' : k = g := hs
  subst hs'
  exact absurd (h4.ne_type hk h3) (by decide)
theorem Rdr.drewN {w : World} {base g i : Nat} {xs : List Int} {e : Int} (h : Rdr w base g xs i e) (m : Nat) : Rdr (w.drewN m) base g xs i e := h.below (pw_below_drewN (Below.refl _ _) m)
theorem numK_le : ∀ (k : Nat) (b : List Int) (u n : Nat), numK k b = some (u, n) → n ≤ b.length ∧ 0 < n ∧ n ≤ k ∧ u < 128 ^ n
  | 0, b, u, n, h => by cases b <;> cases h
  | k + 1, [], u, n, h => by cases h
  | k + 1, c :: r, u, n, h => by
    rw [numK] at h
    split at h
    · cases h
    · split at h
      · split at h
        · cases h
        · injection h with h
          injection h with h1 h2
          subst h1; subst h2
          exact ⟨by simp, by omega, by omega, by omega⟩
      · obtain ⟨⟨u', n'⟩, hp, he⟩ := Option.map_eq_some_iff.1 h
        injection he with h1 h2
        subst h1; subst h2
        obtain ⟨g1, g2, g3, g4⟩ := numK_le k r u' n' hp
        refine ⟨by simp; omega, by omega, by omega, ?_⟩
        simp only at *
        rw [Nat.pow_succ]
        omega
set_option maxHeartbeats 400000 in
theorem take_u (w : World) (base g i : Nat) (xs : List Int) (e : Int) (p : Value) (h : Rdr w base g xs i e) (hb : Byt xs) :
    Calls Try.prog 73 #[.pointer (some ⟨g, 0, none⟩), .func (.func 74) #[p] #[]] w fun e' w' => e' = .returned (.int .u64 (rU xs i e).1) ∧ Rdr w' base g xs (rU xs i e).2.1 (rU xs i e).2.2 ∧ Fr (One g) w w' := by
  have H := Aside0.mk h
  obtain ⟨h1, h2, v, h3, h4⟩ := h
  obtain ⟨c0, c1, c2, f1, f2⟩ := Rdr.cells h3
  obtain ⟨A, c, rfl, hc⟩ := h4.shape
  have hm := h4.max
  have HB := Aside0.mk hb
  by_cases he : e = 0
  · subst he
    obtain ⟨i0, hi, _, hsz, _⟩ := info_parts info5
    obtain ⟨A', hcut, hrd, _⟩ := cut_rd (P := Try.prog) 22 5 .i64 Try.underlying22 hi hsz A xs.length c i h2
    have HRD := Aside0.mk (nums_drop .u8 xs i ▸ hrd w (nums .u8 xs) hc (by simp [nums]) (RdV.of_win h4))
    have hN := fun (m : Nat) => number_any (w.drewN m) p A' (xs.length - i) (c - i) (xs.drop i) (HRD.out.below (pw_below_drewN (Below.refl _ _) m)) (by simp) (by omega) (by omega) (fun x hx => hb x (List.mem_of_mem_drop hx))
    rcases hq : num (xs.drop i) with _ | ⟨u, k⟩
    · rw [hq] at hN
      simp only [numV] at hN
      have HN := Aside0.mk hN
      have HQ := Aside0.mk hq
      clear h4 h3 hrd hi hsz hb hq hN
      go_enter Try.func73, Try.ntmps73
      go_wp2_with fail
      go_quiet ((go_at_call 74; go_must (exact Calls.quiet_of_same (HN.out _))))
      go_wp2_with fail
      go_ret
      have hr : rU xs i 0 = (0, i, 20) := by simp [rU, HQ.out]
      rw [hr]
      have g := (H.out.drewN nq).set2 (e' := 20)
      exact ⟨rfl, g.1, (Fr.drewN w nq).trans g.2 (fun _ _ h => h) (fun _ _ h => h)⟩
    · rw [hq] at hN
      simp only [numV] at hN
      obtain ⟨hk1, hk2, hk3, hk4⟩ := numK_le 10 _ u k hq
      have hk5 : i + k ≤ xs.length := by simp at hk1; omega
      have HN := Aside0.mk hN
      have HQ := Aside0.mk hq
      clear h4 h3 hrd hi hsz hb hq hN hk1 hk4
      go_enter Try.func73, Try.ntmps73
      go_wp2_with fail
      go_quiet ((go_at_call 74; go_must (exact Calls.quiet_of_same (HN.out _))))
      go_wp2_with fail
      go_ret
      have hr : rU xs i 0 = (u, i + k, 0) := by simp [rU, HQ.out]
      rw [hr]
      have g := (H.out.drewN nq).set1 hk5
      refine ⟨rfl, ?_, ?_⟩
      · simpa using g.1
      · simpa using (Fr.drewN w nq).trans g.2 (fun _ _ h => h) (fun _ _ h => h)
  · have heb : (e != 0) = true := by simp [he]
    clear h4 h3 hb
    go_enter Try.func73, Try.ntmps73
    go_wp2_with fail
    go_ret
    have hr : rU xs i e = (0, i, e) := by simp [rU, he]
    rw [hr]
    exact ⟨rfl, H.out, Fr.refl _ _⟩
set_option maxHeartbeats 400000 in
theorem take_t_bad (w : World) (base g i : Nat) (xs : List Int) (p q : Addr) (X : Value)  (h : Rdr w base g xs i 0)
    (hcl : ∀ (A' : Option Addr) (c' m : Nat), RdV w A' (nums .u8 (xs.drop i)) → xs.length - i ≤ c' → Calls Try.prog 81 #[.slice A' (xs.length - i) c', .pointer (some p), .pointer (some q)] (w.drewN m) fun e w' => e = .returned (.tuple #[X, .int .i64 (-1)]) ∧ w' = w.drewN m)  :
    Calls Try.prog 80 #[.pointer (some ⟨g, 0, none⟩), .func (.func 81) #[] #[.pointer (some p), .pointer (some q)]] w fun e' w' => e' = .returned (.string ByteArray.empty) ∧ Rdr w' base g xs i 20 ∧ Fr (One g) w w' := by
  have H := Aside0.mk h
  obtain ⟨h1, h2, v, h3, h4⟩ := h
  obtain ⟨c0, c1, c2, f1, f2⟩ := Rdr.cells h3
  obtain ⟨A, c, rfl, hc⟩ := h4.shape
  have hm := h4.max
  obtain ⟨i0, hi, _, hsz, _⟩ := info_parts info5
  obtain ⟨A', hcut, hrd, _⟩ := cut_rd (P := Try.prog) 22 5 .i64 Try.underlying22 hi hsz A xs.length c i h2
  have HRD := Aside0.mk (nums_drop .u8 xs i ▸ hrd w (nums .u8 xs) hc (by simp [nums]) (RdV.of_win h4))
  have HN := Aside0.mk (fun m => hcl A' (c - i) m HRD.out (by omega))
  clear h4 h3 hrd hi hsz hcl
  go_enter Try.func80, Try.ntmps80
  go_wp2_with fail
  go_quiet ((go_at_call 81; go_must (exact Calls.quiet_of_same (HN.out _))))
  go_wp2_with fail
  go_ret
  have g := (H.out.drewN nq).set2 (e' := 20)
  exact ⟨rfl, g.1, (Fr.drewN w nq).trans g.2 (fun _ _ h => h) (fun _ _ h => h)⟩
set_option maxHeartbeats 400000 in
theorem take_t_ok (w : World) (base g i : Nat) (xs : List Int) (p q : Addr) (X : Value) (k : Nat) (h : Rdr w base g xs i 0)
    (hcl : ∀ (A' : Option Addr) (c' m : Nat), RdV w A' (nums .u8 (xs.drop i)) → xs.length - i ≤ c' → Calls Try.prog 81 #[.slice A' (xs.length - i) c', .pointer (some p), .pointer (some q)] (w.drewN m) fun e w' => e = .returned (.tuple #[X, .int .i64 (k : Int)]) ∧ w' = w.drewN m) (hk : i + k ≤ xs.length) :
    Calls Try.prog 80 #[.pointer (some ⟨g, 0, none⟩), .func (.func 81) #[] #[.pointer (some p), .pointer (some q)]] w fun e' w' => e' = .returned X ∧ Rdr w' base g xs (i + k) 0 ∧ Fr (One g) w w' := by
  have H := Aside0.mk h
  obtain ⟨h1, h2, v, h3, h4⟩ := h
  obtain ⟨c0, c1, c2, f1, f2⟩ := Rdr.cells h3
  obtain ⟨A, c, rfl, hc⟩ := h4.shape
  have hm := h4.max
  obtain ⟨i0, hi, _, hsz, _⟩ := info_parts info5
  obtain ⟨A', hcut, hrd, _⟩ := cut_rd (P := Try.prog) 22 5 .i64 Try.underlying22 hi hsz A xs.length c i h2
  have HRD := Aside0.mk (nums_drop .u8 xs i ▸ hrd w (nums .u8 xs) hc (by simp [nums]) (RdV.of_win h4))
  have HN := Aside0.mk (fun m => hcl A' (c - i) m HRD.out (by omega))
  clear h4 h3 hrd hi hsz hcl
  go_enter Try.func80, Try.ntmps80
  go_wp2_with fail
  go_quiet ((go_at_call 81; go_must (exact Calls.quiet_of_same (HN.out _))))
  go_wp2_with fail
  go_ret
  have g := (H.out.drewN nq).set1 hk
  refine ⟨rfl, ?_, ?_⟩
  · simpa using g.1
  · simpa using (Fr.drewN w nq).trans g.2 (fun _ _ h => h) (fun _ _ h => h)
set_option maxHeartbeats 400000 in
/-- The reader has an error already. -/
theorem take_t_err (w : World) (base g i : Nat) (xs : List Int) (e : Int) (he : e ≠ 0) (f : Value) (h : Rdr w base g xs i e) :
    Calls Try.prog 80 #[.pointer (some ⟨g, 0, none⟩), f] w fun e' w' => e' = .returned (.string ByteArray.empty) ∧ w' = w := by
  obtain ⟨h1, h2, v, h3, h4⟩ := h
  obtain ⟨c0, c1, c2, f1, f2⟩ := Rdr.cells h3
  have heb : (e != 0) = true := by simp [he]
  clear h4 h3
  go_enter Try.func80, Try.ntmps80
  go_wp2_with fail
  go_ret
  exact ⟨rfl, rfl⟩
set_option maxHeartbeats 400000 in
theorem take_t_nil (w : World) (f : Value) : Calls Try.prog 80 #[.pointer none, f] w fun e' w' => e' = .returned (.string ByteArray.empty) ∧ w' = w := by
  go_enter Try.func80, Try.ntmps80
  go_wp2_with fail
  go_ret
  exact ⟨rfl, rfl⟩
set_option maxHeartbeats 400000 in
theorem take_s_bad (w : World) (base g i : Nat) (xs : List Int) (p q : Addr) (X : Value)  (h : Rdr w base g xs i 0)
    (hcl : ∀ (A' : Option Addr) (c' m : Nat), RdV w A' (nums .u8 (xs.drop i)) → xs.length - i ≤ c' → Calls Try.prog 100 #[.slice A' (xs.length - i) c', .pointer (some p), .pointer (some q)] (w.drewN m) fun e w' => e = .returned (.tuple #[X, .int .i64 (-1)]) ∧ w' = w.drewN m)  :
    Calls Try.prog 99 #[.pointer (some ⟨g, 0, none⟩), .func (.func 100) #[] #[.pointer (some p), .pointer (some q)]] w fun e' w' => e' = .returned (.int .i64 0) ∧ Rdr w' base g xs i 20 ∧ Fr (One g) w w' := by
  have H := Aside0.mk h
  obtain ⟨h1, h2, v, h3, h4⟩ := h
  obtain ⟨c0, c1, c2, f1, f2⟩ := Rdr.cells h3
  obtain ⟨A, c, rfl, hc⟩ := h4.shape
  have hm := h4.max
  obtain ⟨i0, hi, _, hsz, _⟩ := info_parts info5
  obtain ⟨A', hcut, hrd, _⟩ := cut_rd (P := Try.prog) 22 5 .i64 Try.underlying22 hi hsz A xs.length c i h2
  have HRD := Aside0.mk (nums_drop .u8 xs i ▸ hrd w (nums .u8 xs) hc (by simp [nums]) (RdV.of_win h4))
  have HN := Aside0.mk (fun m => hcl A' (c - i) m HRD.out (by omega))
  clear h4 h3 hrd hi hsz hcl
  go_enter Try.func99, Try.ntmps99
  go_wp2_with fail
  go_quiet ((go_at_call 100; go_must (exact Calls.quiet_of_same (HN.out _))))
  go_wp2_with fail
  go_ret
  have g := (H.out.drewN nq).set2 (e' := 20)
  exact ⟨rfl, g.1, (Fr.drewN w nq).trans g.2 (fun _ _ h => h) (fun _ _ h => h)⟩
set_option maxHeartbeats 400000 in
theorem take_s_ok (w : World) (base g i : Nat) (xs : List Int) (p q : Addr) (X : Value) (k : Nat) (h : Rdr w base g xs i 0)
    (hcl : ∀ (A' : Option Addr) (c' m : Nat), RdV w A' (nums .u8 (xs.drop i)) → xs.length - i ≤ c' → Calls Try.prog 100 #[.slice A' (xs.length - i) c', .pointer (some p), .pointer (some q)] (w.drewN m) fun e w' => e = .returned (.tuple #[X, .int .i64 (k : Int)]) ∧ w' = w.drewN m) (hk : i + k ≤ xs.length) :
    Calls Try.prog 99 #[.pointer (some ⟨g, 0, none⟩), .func (.func 100) #[] #[.pointer (some p), .pointer (some q)]] w fun e' w' => e' = .returned X ∧ Rdr w' base g xs (i + k) 0 ∧ Fr (One g) w w' := by
  have H := Aside0.mk h
  obtain ⟨h1, h2, v, h3, h4⟩ := h
  obtain ⟨c0, c1, c2, f1, f2⟩ := Rdr.cells h3
  obtain ⟨A, c, rfl, hc⟩ := h4.shape
  have hm := h4.max
  obtain ⟨i0, hi, _, hsz, _⟩ := info_parts info5
  obtain ⟨A', hcut, hrd, _⟩ := cut_rd (P := Try.prog) 22 5 .i64 Try.underlying22 hi hsz A xs.length c i h2
  have HRD := Aside0.mk (nums_drop .u8 xs i ▸ hrd w (nums .u8 xs) hc (by simp [nums]) (RdV.of_win h4))
  have HN := Aside0.mk (fun m => hcl A' (c - i) m HRD.out (by omega))
  clear h4 h3 hrd hi hsz hcl
  go_enter Try.func99, Try.ntmps99
  go_wp2_with fail
  go_quiet ((go_at_call 100; go_must (exact Calls.quiet_of_same (HN.out _))))
  go_wp2_with fail
  go_ret
  have g := (H.out.drewN nq).set1 hk
  refine ⟨rfl, ?_, ?_⟩
  · simpa using g.1
  · simpa using (Fr.drewN w nq).trans g.2 (fun _ _ h => h) (fun _ _ h => h)
set_option maxHeartbeats 400000 in
/-- The reader has an error already. -/
theorem take_s_err (w : World) (base g i : Nat) (xs : List Int) (e : Int) (he : e ≠ 0) (f : Value) (h : Rdr w base g xs i e) :
    Calls Try.prog 99 #[.pointer (some ⟨g, 0, none⟩), f] w fun e' w' => e' = .returned (.int .i64 0) ∧ w' = w := by
  obtain ⟨h1, h2, v, h3, h4⟩ := h
  obtain ⟨c0, c1, c2, f1, f2⟩ := Rdr.cells h3
  have heb : (e != 0) = true := by simp [he]
  clear h4 h3
  go_enter Try.func99, Try.ntmps99
  go_wp2_with fail
  go_ret
  exact ⟨rfl, rfl⟩
set_option maxHeartbeats 400000 in
theorem take_s_nil (w : World) (f : Value) : Calls Try.prog 99 #[.pointer none, f] w fun e' w' => e' = .returned (.int .i64 0) ∧ w' = w := by
  go_enter Try.func99, Try.ntmps99
  go_wp2_with fail
  go_ret
  exact ⟨rfl, rfl⟩

set_option maxHeartbeats 400000 in
theorem take_u_nil (w : World) (f : Value) : Calls Try.prog 73 #[.pointer none, f] w fun e' w' => e' = .returned (.int .u64 0) ∧ w' = w := by
  go_enter Try.func73, Try.ntmps73
  go_wp2_with fail
  go_ret
  exact ⟨rfl, rfl⟩
set_option maxHeartbeats 400000 in
theorem Uint_any (w : World) (base g i : Nat) (xs : List Int) (e : Int) (h : Rdr w base g xs i e) (hb : Byt xs) :
    Calls Try.prog 19 #[.pointer (some ⟨g, 0, none⟩)] w fun e' w' => e' = .returned (.int .u64 (rU xs i e).1) ∧ Rdr w' base g xs (rU xs i e).2.1 (rU xs i e).2.2 ∧ Fr (One g) w w' := by
  have H := Aside0.mk (take_u w base g i xs e (.pointer (some ⟨g, 0, none⟩)) h hb)
  clear h hb
  go_enter Try.func19, Try.ntmps19
  go_wp2_with (go_at_call 73; go_must (refine H.out.mono ?_; rintro e' w1 ⟨rfl, hq⟩; have Q := Aside0.mk hq; clear hq))
  go_ret
  exact ⟨rfl, Q.out⟩
set_option maxHeartbeats 400000 in
theorem Uint_nil (w : World) : Calls Try.prog 19 #[.pointer none] w fun e' w' => e' = .returned (.int .u64 0) ∧ w' = w := by
  go_enter Try.func19, Try.ntmps19
  go_wp2_with (go_at_call 73; go_must (refine (take_u_nil _ _).mono ?_; rintro e' w1 ⟨rfl, rfl⟩))
  go_ret
  exact ⟨rfl, rfl⟩
/-- The signed number of an unsigned one. -/
def unzig (u : Nat) : Int := if u % 2 = 0 then ((u / 2 : Nat) : Int) else -((u / 2 : Nat) : Int) - 1
theorem numK_64 : ∀ (k : Nat) (b : List Int) (u n : Nat), numK (k + 1) b = some (u, n) → u < 2 * 128 ^ k
  | k, [], u, n, h => by cases h
  | k, c :: r, u, n, h => by
    rw [numK] at h
    split at h
    · cases h
    · rename_i hg
      split at h
      · split at h
        · cases h
        · injection h with h
          injection h with h1 h2
          subst h1
          rcases Nat.eq_zero_or_pos k with hk | hk
          · subst hk
            have : ¬ (1 < c.toNat % 128) := fun h => hg ⟨rfl, h⟩
            simp
            omega
          · have : 128 ^ 1 ≤ 128 ^ k := Nat.pow_le_pow_right (by decide) hk
            omega
      · obtain ⟨⟨u', n'⟩, hp, he⟩ := Option.map_eq_some_iff.1 h
        injection he with h1 h2
        subst h1
        cases k with
        | zero => cases r <;> cases hp
        | succ k =>
          have := numK_64 k r u' n' hp
          simp only
          rw [Nat.pow_succ]
          omega
theorem num_64 {b : List Int} {u n : Nat} (h : num b = some (u, n)) : u < M64 := by
  have := numK_64 9 b u n h
  rw [M64_eq]
  omega
theorem rU_64 (xs : List Int) (i : Nat) (e : Int) : (rU xs i e).1 < M64 := by
  unfold rU
  split
  · split
    · show 0 < M64; decide
    · rename_i h
      exact num_64 h
  · show 0 < M64; decide
theorem xor_m1 (x : Nat) (hx : x < 9223372036854775808) : bits .xor .i64 (x : Int) (-1) = -(x : Int) - 1 := by
  show IntKind.i64.wrap ((BitVec.ofInt 64 (x : Int) ^^^ BitVec.ofInt 64 (-1)).toNat : Int) = _
  have h1 : (BitVec.ofInt 64 (-1)).toNat = 2 ^ 64 - 1 := by decide
  have h2 : (BitVec.ofInt 64 (x : Int)).toNat = x := by
    rw [BitVec.ofInt_natCast, BitVec.toNat_ofNat]; exact Nat.mod_eq_of_lt (by omega)
  rw [BitVec.toNat_xor, h1, h2, Nat.xor_comm, Lib.xor_ones64 x (by omega), IntKind.wrap_i64]
  omega
theorem xor_0 (x : Nat) (hx : x < 9223372036854775808) : bits .xor .i64 (x : Int) 0 = (x : Int) := by
  show IntKind.i64.wrap ((BitVec.ofInt 64 (x : Int) ^^^ BitVec.ofInt 64 0).toNat : Int) = _
  have h1 : (BitVec.ofInt 64 0).toNat = 0 := by decide
  have h2 : (BitVec.ofInt 64 (x : Int)).toNat = x := by
    rw [BitVec.ofInt_natCast, BitVec.toNat_ofNat]; exact Nat.mod_eq_of_lt (by omega)
  rw [BitVec.toNat_xor, h1, h2, Nat.xor_zero, IntKind.wrap_i64]
  omega
theorem unzig_bits (u : Nat) (h : u < M64) : bits BinOp.xor IntKind.i64 (wrap64 ((u : Int) / 2)) (wrap64 (-wrap64 (bits BinOp.and IntKind.u64 (u : Int) 1))) = unzig u := by
  rw [M64_eq] at h
  rw [Lib.u64_and1 _ (by omega) (by omega)]
  have e1 : wrap64 ((u : Int) / 2) = ((u / 2 : Nat) : Int) := by unfold wrap64; omega
  rw [e1]
  unfold unzig
  split
  · have e2 : wrap64 (-wrap64 ((u : Int) % 2)) = 0 := by unfold wrap64; omega
    rw [e2, xor_0 _ (by omega)]
  · have e2 : wrap64 (-wrap64 ((u : Int) % 2)) = -1 := by unfold wrap64; omega
    rw [e2, xor_m1 _ (by omega)]
set_option maxHeartbeats 400000 in
theorem Int_any (w : World) (base g i : Nat) (xs : List Int) (e : Int) (h : Rdr w base g xs i e) (hb : Byt xs) :
    Calls Try.prog 21 #[.pointer (some ⟨g, 0, none⟩)] w fun e' w' => e' = .returned (.int .i64 (unzig (rU xs i e).1)) ∧ Rdr w' base g xs (rU xs i e).2.1 (rU xs i e).2.2 ∧ Fr (One g) w w' := by
  have H := Aside0.mk (take_u w base g i xs e (.pointer (some ⟨g, 0, none⟩)) h hb)
  have HU := Aside0.mk (rU_64 xs i e)
  clear h hb
  generalize (rU xs i e).1 = u at H HU ⊢
  go_enter Try.func21, Try.ntmps21
  go_wp2_with (go_at_call 73; go_must (refine H.out.mono ?_; rintro e' w1 ⟨rfl, hq⟩; have Q := Aside0.mk hq; clear hq))
  go_ret
  exact ⟨ret_int (unzig_bits u HU.out), Q.out⟩
set_option maxHeartbeats 400000 in
theorem Int_nil (w : World) : Calls Try.prog 21 #[.pointer none] w fun e' w' => e' = .returned (.int .i64 0) ∧ w' = w := by
  go_enter Try.func21, Try.ntmps21
  go_wp2_with (go_at_call 73; go_must (refine (take_u_nil _ _).mono ?_; rintro e' w1 ⟨rfl, rfl⟩))
  go_ret
  exact ⟨ret_int (by decide +kernel), rfl⟩
end Go.Proofs.Ytchcimkmjoegdaa.C
namespace Go.Proofs.Ytchcimkmjoegdaa.C
open Go.RowKit Go.Proofs.YtchcimkmjoegdaaW.PrintWords Go.Proofs.YtchcimkmjoegdaaW.PrintMore Go.Proofs.Ytchcimkmjoegdaa.M
set_option linter.unusedVariables false
set_option linter.unusedSimpArgs false

set_option maxHeartbeats 400000 in
/-- Size's inner function where there is no number, or it is too great. -/
theorem size_none (w : World) (A : Option Addr) (n c : Nat) (b : List Int) (p q : Addr) (r : Value) (most : Int) (hr : RdV w A (nums .u8 b)) (hl : b.length = n) (hc : n ≤ c) (hn : n ≤ 9223372036854775807) (hb : Byt b)
    (hp : w.cell? p = some r) (hq : w.cell? q = some (.int .i64 most)) (hnum : num b = none) :
    Calls Try.prog 100 #[.slice A n c, .pointer (some p), .pointer (some q)] w fun e w' => e = .returned (.tuple #[.int .i64 0, .int .i64 (-1)]) ∧ w' = w := by
  have H := fun p => number_any w p A n c b hr hl hc hn hb
  rw [hnum] at H
  simp only [numV] at H
  have HN := Aside0.mk H
  clear H hr hl hb hnum
  go_enter Try.func100, Try.ntmps100
  go_wp2_with (go_at_call 74; go_must (refine (HN.out _).mono ?_; rintro e' w1 ⟨rfl, rfl⟩))
  go_ret2
  exact ⟨rfl, rfl⟩
set_option maxHeartbeats 400000 in
theorem size_big (w : World) (A : Option Addr) (n c : Nat) (b : List Int) (p q : Addr) (r : Value) (most : Int) (u k : Nat) (hr : RdV w A (nums .u8 b)) (hl : b.length = n) (hc : n ≤ c) (hn : n ≤ 9223372036854775807) (hb : Byt b)
    (hp : w.cell? p = some r) (hq : w.cell? q = some (.int .i64 most)) (hm : most ≤ 9223372036854775807) (hnum : num b = some (u, k)) (hbig : most < u) :
    Calls Try.prog 100 #[.slice A n c, .pointer (some p), .pointer (some q)] w fun e w' => e = .returned (.tuple #[.int .i64 0, .int .i64 (-1)]) ∧ w' = w := by
  have H := fun p => number_any w p A n c b hr hl hc hn hb
  rw [hnum] at H
  simp only [numV] at H
  have HN := Aside0.mk H
  clear H hr hl hb hnum
  rcases Int.lt_or_le most 0 with h0 | h0
  · go_enter Try.func100, Try.ntmps100
    go_wp2_with (go_at_call 74; go_must (refine (HN.out _).mono ?_; rintro e' w1 ⟨rfl, rfl⟩))
    go_ret2
    exact ⟨rfl, rfl⟩
  · go_enter Try.func100, Try.ntmps100
    go_wp2_with (go_at_call 74; go_must (refine (HN.out _).mono ?_; rintro e' w1 ⟨rfl, rfl⟩))
    go_ret2
    exact ⟨rfl, rfl⟩
set_option maxHeartbeats 400000 in
theorem size_ok (w : World) (A : Option Addr) (n c : Nat) (b : List Int) (p q : Addr) (r : Value) (most : Int) (u k : Nat) (hr : RdV w A (nums .u8 b)) (hl : b.length = n) (hc : n ≤ c) (hn : n ≤ 9223372036854775807) (hb : Byt b)
    (hp : w.cell? p = some r) (hq : w.cell? q = some (.int .i64 most)) (hm : most ≤ 9223372036854775807) (hnum : num b = some (u, k)) (hle : (u : Int) ≤ most) :
    Calls Try.prog 100 #[.slice A n c, .pointer (some p), .pointer (some q)] w fun e w' => e = .returned (.tuple #[.int .i64 u, .int .i64 k]) ∧ w' = w := by
  have H := fun p => number_any w p A n c b hr hl hc hn hb
  rw [hnum] at H
  simp only [numV] at H
  have HN := Aside0.mk H
  clear H hr hl hb hnum
  go_enter Try.func100, Try.ntmps100
  go_wp2_with (go_at_call 74; go_must (refine (HN.out _).mono ?_; rintro e' w1 ⟨rfl, rfl⟩))
  go_ret2
  exact ⟨rfl, rfl⟩
/-- What Size answers, and where the reader stands behind it. -/
def rS (xs : List Int) (i : Nat) (e : Int) (most : Int) : Nat × Nat × Int :=
  if e = 0 then (match num (xs.drop i) with | none => (0, i, 20) | some (u, k) => if (u : Int) ≤ most then (u, i + k, 0) else (0, i, 20)) else (0, i, e)
/-- Two boxes. -/
theorem boxes (w : World) (a b : Value) (t t' : TypeId) : ((w.alloc (.cells #[a] t)).alloc (.cells #[b] t')).cell? ⟨w.heap.size, 0, none⟩ = some a ∧ ((w.alloc (.cells #[a] t)).alloc (.cells #[b] t')).cell? ⟨w.heap.size + 1, 0, none⟩ = some b := by
  constructor
  · have h : ((w.alloc (.cells #[a] t)).alloc (.cells #[b] t')).heap[w.heap.size]? = some (.cells #[a] t (0, 0)) := by
      rw [Go.heap_alloc_old _ _ (by simp)]
      exact heap_alloc_new w _
    simp [World.cell?, h]
  · have h : ((w.alloc (.cells #[a] t)).alloc (.cells #[b] t')).heap[w.heap.size + 1]? = some (.cells #[b] t' (0, 0)) := by
      have := heap_alloc_new (w.alloc (.cells #[a] t)) (.cells #[b] t')
      simpa using this
    unfold World.cell?
    rw [h]
    rfl
theorem below_two {w w' : World} {S : Nat → Prop} {o o' : Obj} (h : Fr S ((w.alloc o).alloc o') w') : Fr S w w' :=
  ((Fr.alloc (S := No) w o).trans (Fr.alloc (S := No) (w.alloc o) o') (fun _ _ h => h) (fun _ _ h => h)).trans h (fun _ _ h => h.elim) (fun _ _ h => h)
theorem cell_drewN (w : World) (a : Addr) (m : Nat) : (w.drewN m).cell? a = w.cell? a := by simp
set_option maxHeartbeats 400000 in
theorem Size_any (w : World) (base g i : Nat) (xs : List Int) (e most : Int) (h : Rdr w base g xs i e) (hb : Byt xs) (hm : most ≤ 9223372036854775807) :
    Calls Try.prog 53 #[.pointer (some ⟨g, 0, none⟩), .int .i64 most] w fun e' w' => e' = .returned (.int .i64 (rS xs i e most).1) ∧ Rdr w' base g xs (rS xs i e most).2.1 (rS xs i e most).2.2 ∧ Fr (One g) w w' := by
  obtain ⟨bx, by'⟩ := boxes w (.pointer (some ⟨g, 0, none⟩)) (.int .i64 most) 23 3
  have hW := h.below (below_alloc (below_alloc (Below.refl _ _) (.cells #[.pointer (some ⟨g, 0, none⟩)] 23)) (.cells #[.int .i64 most] 3))
  have hx : xs.length ≤ 9223372036854775807 := by obtain ⟨_, _, v, _, h4⟩ := h; exact h4.max
  have BX := Aside0.mk bx
  have BY := Aside0.mk by'
  by_cases he : e = 0
  · subst he
    rcases hq : num (xs.drop i) with _ | ⟨u, k⟩
    · have T := Aside0.mk (take_s_bad _ base g i xs ⟨w.heap.size, 0, none⟩ ⟨w.heap.size + 1, 0, none⟩ (.int .i64 0) hW (fun A' c' m hrd hc => size_none _ A' (xs.length - i) c' (xs.drop i) _ _ _ most (hrd.below (pw_below_drewN (Below.refl _ _) m)) (by simp) hc (by omega) (fun x hx => hb x (List.mem_of_mem_drop hx)) ((cell_drewN _ _ m).trans BX.out) ((cell_drewN _ _ m).trans BY.out) hq))
      have hr : rS xs i 0 most = (0, i, 20) := by simp [rS, hq]
      rw [hr]
      clear hr hq hb hW h bx by'
      go_enter Try.func53, Try.ntmps53
      go_wp2_with (go_at_call 99; go_must (refine T.out.mono ?_; rintro e' w1 ⟨rfl, q1, q2⟩; have Q1 := Aside0.mk q1; have Q2 := Aside0.mk q2; clear q1 q2))
      go_ret
      exact ⟨rfl, Q1.out, below_two Q2.out⟩
    · obtain ⟨hk1, hk2, hk3, hk4⟩ := numK_le 10 _ u k hq
      have hk5 : i + k ≤ xs.length := by simp at hk1; omega
      by_cases hle : (u : Int) ≤ most
      · have T := Aside0.mk (take_s_ok _ base g i xs ⟨w.heap.size, 0, none⟩ ⟨w.heap.size + 1, 0, none⟩ (.int .i64 u) k hW (fun A' c' m hrd hc => size_ok _ A' (xs.length - i) c' (xs.drop i) _ _ _ most u k (hrd.below (pw_below_drewN (Below.refl _ _) m)) (by simp) hc (by omega) (fun x hx => hb x (List.mem_of_mem_drop hx)) ((cell_drewN _ _ m).trans BX.out) ((cell_drewN _ _ m).trans BY.out) hm hq hle) hk5)
        have hr : rS xs i 0 most = (u, i + k, 0) := by simp [rS, hq, hle]
        rw [hr]
        clear hr hq hb hW h bx by' hk1 hk4
        go_enter Try.func53, Try.ntmps53
        go_wp2_with (go_at_call 99; go_must (refine T.out.mono ?_; rintro e' w1 ⟨rfl, q1, q2⟩; have Q1 := Aside0.mk q1; have Q2 := Aside0.mk q2; clear q1 q2))
        go_ret
        exact ⟨rfl, Q1.out, below_two Q2.out⟩
      · have T := Aside0.mk (take_s_bad _ base g i xs ⟨w.heap.size, 0, none⟩ ⟨w.heap.size + 1, 0, none⟩ (.int .i64 0) hW (fun A' c' m hrd hc => size_big _ A' (xs.length - i) c' (xs.drop i) _ _ _ most u k (hrd.below (pw_below_drewN (Below.refl _ _) m)) (by simp) hc (by omega) (fun x hx => hb x (List.mem_of_mem_drop hx)) ((cell_drewN _ _ m).trans BX.out) ((cell_drewN _ _ m).trans BY.out) hm hq (by omega)))
        have hr : rS xs i 0 most = (0, i, 20) := by simp [rS, hq, hle]
        rw [hr]
        clear hr hq hb hW h bx by' hk1 hk4
        go_enter Try.func53, Try.ntmps53
        go_wp2_with (go_at_call 99; go_must (refine T.out.mono ?_; rintro e' w1 ⟨rfl, q1, q2⟩; have Q1 := Aside0.mk q1; have Q2 := Aside0.mk q2; clear q1 q2))
        go_ret
        exact ⟨rfl, Q1.out, below_two Q2.out⟩
  · have T := Aside0.mk (fun f => take_s_err _ base g i xs e he f hW)
    have hr : rS xs i e most = (0, i, e) := by simp [rS, he]
    rw [hr]
    have HW := Aside0.mk hW
    clear hr hb hW h bx by'
    go_enter Try.func53, Try.ntmps53
    go_wp2_with (go_at_call 99; go_must (refine (T.out _).mono ?_; rintro e' w1 ⟨rfl, rfl⟩))
    go_ret
    exact ⟨rfl, HW.out, below_two (Fr.refl _ _)⟩
set_option maxHeartbeats 400000 in
theorem Size_nil (w : World) (most : Int) : Calls Try.prog 53 #[.pointer none, .int .i64 most] w fun e' w' => e' = .returned (.int .i64 0) ∧ Fr No w w' := by
  obtain ⟨bx, by'⟩ := boxes w (.pointer none) (.int .i64 most) 23 3
  go_enter Try.func53, Try.ntmps53
  go_wp2_with (go_at_call 99; go_must (refine (take_s_nil _ _).mono ?_; rintro e' w1 ⟨rfl, rfl⟩))
  go_ret
  exact ⟨rfl, below_two (Fr.refl _ _)⟩
end Go.Proofs.Ytchcimkmjoegdaa.C
namespace Go.Proofs.Ytchcimkmjoegdaa.C
open Go.RowKit Go.Proofs.YtchcimkmjoegdaaW.PrintWords Go.Proofs.YtchcimkmjoegdaaW.PrintMore Go.Proofs.Ytchcimkmjoegdaa.M
set_option linter.unusedVariables false
set_option linter.unusedSimpArgs false

/-- 'xs[l:h]' of what is read (elements of one cell). -/
theorem cutlh_rd {P : Program} (t e : TypeId) (kl kh : IntKind) {i : TypeInfo} (ht : P.underlying t = some (.slice e)) (hi : P.info? e = some i) (hsz : i.size = 1) (A : Option Addr) (n c l h : Nat) (hl : l ≤ h) (hh : h ≤ n) (hc : n ≤ c) :
    ∃ A' : Option Addr, (∀ W : World, (Instr.slice t (.slice A n c) (some (.int kl (l : Int))) (some (.int kh (h : Int))) none).run P W = .ok (.slice A' (h - l) (c - l)) W) ∧
      (∀ (w : World) (xs : List Value), xs.length = n → RdV w A xs → RdV w A' ((xs.drop l).take (h - l))) ∧ (A' = none → A = none) := by
  refine ⟨if c = l then A else A.map (·.add l), fun W => ?_, fun w xs hn hr hne => ?_, fun h => ?_⟩
  · have hel : P.elem t = e := by simp [Program.elem, ht]
    have hu : P.underlying t = some (.slice (P.elem t)) := by rw [hel]; exact ht
    rw [run_slice_lh W t A n c hu kl kh (l : Int) (h : Int) (Int.natCast_nonneg _) (by omega) (by omega), hel]
    simp [sizeOf, typeInfo, hi, hsz, sliced, Result.andThen]
  · have hlen : l < xs.length := by
      rcases Nat.lt_or_ge l xs.length with h1 | h1
      · exact h1
      · exact absurd (by rw [List.drop_eq_nil_of_le h1]; simp) hne
    obtain ⟨ad, rfl, hcell⟩ := hr (by intro h0; subst h0; simp at hlen)
    rw [if_neg (by omega)]
    refine ⟨ad.add l, rfl, fun j u hj => ?_⟩
    have ha : (ad.add l).add j = ad.add (l + j) := by
      unfold Addr.add
      by_cases h1 : l = 0 <;> by_cases h2 : j = 0 <;> simp [h1, h2, Nat.add_assoc]
    rw [ha]
    rw [List.getElem?_take] at hj
    split at hj
    · rw [List.getElem?_drop] at hj
      exact hcell _ _ hj
    · cases hj
  · split at h
    · exact h
    · cases A with
      | none => rfl
      | some a => cases h
/-- 'string(xs)' of bytes that are read. -/
theorem conv_rd {P : Program} (w : World) (src dst e : TypeId) (hs : P.underlying src = some (.slice e)) (he : P.underlying e = some (.int .u8)) (hd : P.underlying dst = some .string) (A : Option Addr) (n c : Nat) (xs : List Int) (hl : xs.length = n) (h : RdV w A (nums .u8 xs)) :
    (convert src dst (.slice A n c)).run P w = .ok (.string (strOfNums xs)) w := by
  cases A with
  | none =>
    have : xs = [] := by
      cases xs with
      | nil => rfl
      | cons x r =>
        obtain ⟨ad, h1, _⟩ := h (by simp [nums])
        cases h1
    subst this
    exact run_convert_bytes_nil w src e hs he n c dst hd
  | some ad =>
    have hlo : (loadCells ad n).run P w = .ok (xs.map (Value.int .u8)).toArray w := by
      have h2 := run_loadCells_list (P := P) w ad (nums .u8 xs) (fun j v hj => by
        obtain ⟨ad', h1, h2⟩ := h (by intro h0; rw [h0] at hj; simp at hj)
        injection h1 with h1
        subst h1
        exact h2 j v hj)
      rw [nums_length, hl] at h2
      exact h2
    rw [run_convert_bytes_string w src dst e _ n c hs he hd, run_bytesToString w _ n c xs hlo, foldl_push_bytes]
    simp [strOfNums, ByteArray.empty, ByteArray.emptyWithCapacity]
    rfl
set_option maxHeartbeats 400000 in
/-- Text's inner function where there is no number. -/
theorem text_none (w : World) (A : Option Addr) (n c : Nat) (b : List Int) (p q : Addr) (r : Value) (most : Int) (hr : RdV w A (nums .u8 b)) (hl : b.length = n) (hc : n ≤ c) (hn : n ≤ 9223372036854775807) (hb : Byt b)
    (hp : w.cell? p = some r) (hq : w.cell? q = some (.int .i64 most)) (hnum : num b = none) :
    Calls Try.prog 81 #[.slice A n c, .pointer (some p), .pointer (some q)] w fun e w' => e = .returned (.tuple #[.string ByteArray.empty, .int .i64 (-1)]) ∧ w' = w := by
  have H := fun p => number_any w p A n c b hr hl hc hn hb
  rw [hnum] at H
  simp only [numV] at H
  have HN := Aside0.mk H
  clear H hr hl hb hnum
  go_enter Try.func81, Try.ntmps81
  go_wp2_with (go_at_call 74; go_must (refine (HN.out _).mono ?_; rintro e' w1 ⟨rfl, rfl⟩))
  go_ret2
  exact ⟨rfl, rfl⟩
set_option maxHeartbeats 400000 in
theorem text_big (w : World) (A : Option Addr) (n c : Nat) (b : List Int) (p q : Addr) (r : Value) (most : Int) (u k : Nat) (hr : RdV w A (nums .u8 b)) (hl : b.length = n) (hc : n ≤ c) (hn : n ≤ 9223372036854775807) (hb : Byt b)
    (hp : w.cell? p = some r) (hq : w.cell? q = some (.int .i64 most)) (hm : most ≤ 9223372036854775807) (hnum : num b = some (u, k)) (hk : k ≤ n) (hbig : most < u ∨ n - k < u) :
    Calls Try.prog 81 #[.slice A n c, .pointer (some p), .pointer (some q)] w fun e w' => e = .returned (.tuple #[.string ByteArray.empty, .int .i64 (-1)]) ∧ w' = w := by
  have H := fun p => number_any w p A n c b hr hl hc hn hb
  rw [hnum] at H
  simp only [numV] at H
  have HN := Aside0.mk H
  clear H hr hl hb hnum
  have hcase : most < 0 ∨ (0 ≤ most ∧ most < (u : Int)) ∨ (0 ≤ most ∧ (u : Int) ≤ most ∧ (n : Int) - k < u) := by omega
  clear hbig
  rcases hcase with h0 | ⟨h0, h1⟩ | ⟨h0, h1, h2⟩
  all_goals
    go_enter Try.func81, Try.ntmps81
    go_wp2_with (go_at_call 74; go_must (refine (HN.out _).mono ?_; rintro e' w1 ⟨rfl, rfl⟩))
    go_ret2
    exact ⟨rfl, rfl⟩
set_option maxRecDepth 100000 in
set_option maxHeartbeats 400000 in
theorem text_ok (w : World) (A : Option Addr) (n c : Nat) (b : List Int) (p q : Addr) (r : Value) (most : Int) (u k : Nat) (hr : RdV w A (nums .u8 b)) (hl : b.length = n) (hc : n ≤ c) (hn : n ≤ 9223372036854775807) (hb : Byt b)
    (hp : w.cell? p = some r) (hq : w.cell? q = some (.int .i64 most)) (hm : most ≤ 9223372036854775807) (hnum : num b = some (u, k)) (hk : k ≤ n) (hle : (u : Int) ≤ most) (hle2 : k + u ≤ n) :
    Calls Try.prog 81 #[.slice A n c, .pointer (some p), .pointer (some q)] w fun e w' => e = .returned (.tuple #[.string (strOfNums ((b.drop k).take u)), .int .i64 ((k + u : Nat) : Int)]) ∧ w' = w := by
  have H := fun p => number_any w p A n c b hr hl hc hn hb
  rw [hnum] at H
  simp only [numV] at H
  obtain ⟨i0, hi, _, hsz, _⟩ := info_parts info5
  obtain ⟨A', hcut, hrd, _⟩ := cutlh_rd (P := Try.prog) 22 5 .i64 .i64 Try.underlying22 hi hsz A n c k (k + u) (by omega) hle2 hc
  have hconv := conv_rd (P := Try.prog) w 22 9 5 Try.underlying22 Try.underlying5 Try.underlying9 A' u (c - k) ((b.drop k).take u) (by simp; omega) (by
    have := hrd w (nums .u8 b) (by simp [nums, hl]) hr
    rw [nums_drop, nums_take, Nat.add_sub_cancel_left] at this
    exact this)
  rw [Nat.add_sub_cancel_left] at hcut
  simp only [Int.natCast_add] at hcut
  have HN := Aside0.mk H
  have h2 : (u : Int) ≤ (n : Int) - k := by omega
  clear H hr hl hb hnum hrd hi hsz
  go_enter Try.func81, Try.ntmps81
  go_wp2_with (go_at_call 74; go_must (refine (HN.out _).mono ?_; rintro e' w1 ⟨rfl, rfl⟩))
  go_ret2
  exact ⟨by rw [Int.natCast_add]; rfl, rfl⟩
/-- What Text answers (its bytes), and where the reader stands behind it. -/
def rT (xs : List Int) (i : Nat) (e : Int) (most : Int) : List Int × Nat × Int :=
  if e = 0 then (match num (xs.drop i) with | none => ([], i, 20) | some (u, k) => if (u : Int) ≤ most ∧ i + k + u ≤ xs.length then ((xs.drop (i + k)).take u, i + k + u, 0) else ([], i, 20)) else ([], i, e)
theorem strOfNums_nil : strOfNums [] = ByteArray.empty := rfl
set_option maxHeartbeats 400000 in
theorem Text_any (w : World) (base g i : Nat) (xs : List Int) (e most : Int) (h : Rdr w base g xs i e) (hb : Byt xs) (hm : most ≤ 9223372036854775807) :
    Calls Try.prog 34 #[.pointer (some ⟨g, 0, none⟩), .int .i64 most] w fun e' w' => e' = .returned (.string (strOfNums (rT xs i e most).1)) ∧ Rdr w' base g xs (rT xs i e most).2.1 (rT xs i e most).2.2 ∧ Fr (One g) w w' := by
  obtain ⟨bx, by'⟩ := boxes w (.pointer (some ⟨g, 0, none⟩)) (.int .i64 most) 23 3
  have hW := h.below (below_alloc (below_alloc (Below.refl _ _) (.cells #[.pointer (some ⟨g, 0, none⟩)] 23)) (.cells #[.int .i64 most] 3))
  have hx : xs.length ≤ 9223372036854775807 := by obtain ⟨_, _, v, _, h4⟩ := h; exact h4.max
  have BX := Aside0.mk bx
  have BY := Aside0.mk by'
  by_cases he : e = 0
  · subst he
    rcases hq : num (xs.drop i) with _ | ⟨u, k⟩
    · have T := Aside0.mk (take_t_bad _ base g i xs ⟨w.heap.size, 0, none⟩ ⟨w.heap.size + 1, 0, none⟩ (.string ByteArray.empty) hW (fun A' c' m hrd hc => text_none _ A' (xs.length - i) c' (xs.drop i) _ _ _ most (hrd.below (pw_below_drewN (Below.refl _ _) m)) (by simp) hc (by omega) (fun x hx => hb x (List.mem_of_mem_drop hx)) ((cell_drewN _ _ m).trans BX.out) ((cell_drewN _ _ m).trans BY.out) hq))
      have hr : rT xs i 0 most = ([], i, 20) := by simp [rT, hq]
      rw [hr]
      clear hr hq hb hW h bx by'
      go_enter Try.func34, Try.ntmps34
      go_wp2_with (go_at_call 80; go_must (refine T.out.mono ?_; rintro e' w1 ⟨rfl, q1, q2⟩; have Q1 := Aside0.mk q1; have Q2 := Aside0.mk q2; clear q1 q2))
      go_ret
      exact ⟨rfl, Q1.out, below_two Q2.out⟩
    · obtain ⟨hk1, hk2, hk3, hk4⟩ := numK_le 10 _ u k hq
      rw [List.length_drop] at hk1
      have hi : i ≤ xs.length := h.2.1
      clear hk4
      by_cases hle : (u : Int) ≤ most ∧ i + k + u ≤ xs.length
      · have T := Aside0.mk (take_t_ok _ base g i xs ⟨w.heap.size, 0, none⟩ ⟨w.heap.size + 1, 0, none⟩ (.string (strOfNums (((xs.drop i).drop k).take u))) (k + u) hW (fun A' c' m hrd hc => text_ok _ A' (xs.length - i) c' (xs.drop i) _ _ _ most u k (hrd.below (pw_below_drewN (Below.refl _ _) m)) (by simp) hc (by omega) (fun x hx => hb x (List.mem_of_mem_drop hx)) ((cell_drewN _ _ m).trans BX.out) ((cell_drewN _ _ m).trans BY.out) hm hq (by omega) hle.1 (by omega)) (by omega))
        rw [List.drop_drop] at T
        have hr : rT xs i 0 most = ((xs.drop (i + k)).take u, i + (k + u), 0) := by simp [rT, hq, hle]; omega
        rw [hr]
        clear hr hq hb hW h bx by'
        go_enter Try.func34, Try.ntmps34
        go_wp2_with (go_at_call 80; go_must (refine T.out.mono ?_; rintro e' w1 ⟨rfl, q1, q2⟩; have Q1 := Aside0.mk q1; have Q2 := Aside0.mk q2; clear q1 q2))
        go_ret
        exact ⟨rfl, Q1.out, below_two Q2.out⟩
      · have T := Aside0.mk (take_t_bad _ base g i xs ⟨w.heap.size, 0, none⟩ ⟨w.heap.size + 1, 0, none⟩ (.string ByteArray.empty) hW (fun A' c' m hrd hc => text_big _ A' (xs.length - i) c' (xs.drop i) _ _ _ most u k (hrd.below (pw_below_drewN (Below.refl _ _) m)) (by simp) hc (by omega) (fun x hx => hb x (List.mem_of_mem_drop hx)) ((cell_drewN _ _ m).trans BX.out) ((cell_drewN _ _ m).trans BY.out) hm hq (by omega) (by omega)))
        have hr : rT xs i 0 most = ([], i, 20) := by simp [rT, hq, hle]
        rw [hr]
        clear hr hq hb hW h bx by'
        go_enter Try.func34, Try.ntmps34
        go_wp2_with (go_at_call 80; go_must (refine T.out.mono ?_; rintro e' w1 ⟨rfl, q1, q2⟩; have Q1 := Aside0.mk q1; have Q2 := Aside0.mk q2; clear q1 q2))
        go_ret
        exact ⟨rfl, Q1.out, below_two Q2.out⟩
  · have T := Aside0.mk (fun f => take_t_err _ base g i xs e he f hW)
    have hr : rT xs i e most = ([], i, e) := by simp [rT, he]
    rw [hr]
    have HW := Aside0.mk hW
    clear hr hb hW h bx by'
    go_enter Try.func34, Try.ntmps34
    go_wp2_with (go_at_call 80; go_must (refine (T.out _).mono ?_; rintro e' w1 ⟨rfl, rfl⟩))
    go_ret
    exact ⟨rfl, HW.out, below_two (Fr.refl _ _)⟩
set_option maxHeartbeats 400000 in
theorem Text_nil (w : World) (most : Int) : Calls Try.prog 34 #[.pointer none, .int .i64 most] w fun e' w' => e' = .returned (.string ByteArray.empty) ∧ Fr No w w' := by
  obtain ⟨bx, by'⟩ := boxes w (.pointer none) (.int .i64 most) 23 3
  go_enter Try.func34, Try.ntmps34
  go_wp2_with (go_at_call 80; go_must (refine (take_t_nil _ _).mono ?_; rintro e' w1 ⟨rfl, rfl⟩))
  go_ret
  exact ⟨rfl, below_two (Fr.refl _ _)⟩
end Go.Proofs.Ytchcimkmjoegdaa.C
