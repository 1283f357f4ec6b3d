/- Plain laws on numbers' forms: what is read is what would be put, and back. No program here. Conditions: as each theorem states. -/
import Derived.Test.YtchcimkmjoegdaaCodC
namespace Go.Proofs.Ytchcimkmjoegdaa.C
set_option linter.unusedVariables false

theorem uenc_small {u : Nat} (h : u < 128) : uenc u = [(u : Int)] := by rw [uenc, if_pos h]
theorem uenc_big {u : Nat} (h : ¬ u < 128) : uenc u = ((u % 128 + 128 : Nat) : Int) :: uenc (u / 128) := by rw [uenc, if_neg h]
/-- What is read is what would be put. -/
theorem numK_enc : ∀ (k : Nat) (b : List Int) (u n : Nat), k ≤ 9 → Byt b → numK (k + 1) b = some (u, n) → uenc u = b.take n ∧ (k = 9 ∨ u ≠ 0)
  | k, [], u, n, _, _, h => by cases h
  | k, c :: r, u, n, hk, hb, h => by
    have hc := hb c (by simp)
    rw [numK] at h
    split at h
    · cases h
    · split at h
      · rename_i hc1
        split at h
        · cases h
        · rename_i hc2
          injection h with h
          injection h with h1 h2
          subst h1; subst h2
          have e : c.toNat % 128 = c.toNat := Nat.mod_eq_of_lt (by omega)
          refine ⟨?_, ?_⟩
          · rw [e, uenc_small (by omega)]
            simp
            omega
          · rw [e]
            by_cases h9 : k = 9
            · exact .inl h9
            · refine .inr fun h0 => hc2 ⟨by omega, h9⟩
      · rename_i hc1
        obtain ⟨⟨u', n'⟩, hp, he⟩ := Option.map_eq_some_iff.1 h
        injection he with h1 h2
        simp only at h1 h2
        subst h1; subst h2
        cases k with
        | zero => cases r <;> cases hp
        | succ k =>
          obtain ⟨g1, g2⟩ := numK_enc k r u' n' (by omega) (fun x hx => hb x (by simp [hx])) hp
          have hu' : u' ≠ 0 := g2.resolve_left (by omega)
          have hm : c.toNat % 128 < 128 := Nat.mod_lt _ (by decide)
          refine ⟨?_, .inr (by omega)⟩
          rw [uenc_big (by omega), show (c.toNat % 128 + 128 * u') / 128 = u' by omega, show (c.toNat % 128 + 128 * u') % 128 = c.toNat % 128 by omega, g1, List.take_succ_cons]
          congr 1
          omega
theorem num_enc {b : List Int} {u n : Nat} (hb : Byt b) (h : num b = some (u, n)) : uenc u = b.take n := (numK_enc 9 b u n (Nat.le_refl _) hb h).1
theorem zig_unzig (u : Nat) : Lib.zigzag (unzig u) = u := by
  unfold unzig Lib.zigzag
  split <;> split <;> omega
theorem unzig_range (u : Nat) (h : u < M64) : -9223372036854775808 ≤ unzig u ∧ unzig u ≤ 9223372036854775807 := by
  rw [M64_eq] at h
  unfold unzig
  split <;> omega
theorem unzig_zig (q : Int) : unzig (Lib.zigzag q) = q := by
  unfold unzig Lib.zigzag
  split <;> split <;> omega
end Go.Proofs.Ytchcimkmjoegdaa.C
