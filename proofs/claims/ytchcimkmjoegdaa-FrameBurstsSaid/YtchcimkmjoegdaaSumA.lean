/- frame's table step (118) and its four bytes (102). Conditions: 32 bits. -/
import Derived.Test.YtchcimkmjoegdaaCrc
import Derived.Test.YtchcimkmjoegdaaLawA
namespace Go.Proofs.Ytchcimkmjoegdaa.C
open Go.RowKit Go.Proofs.YtchcimkmjoegdaaW.PrintWords Go.Proofs.YtchcimkmjoegdaaW.PrintMore Go.Proofs.Ytchcimkmjoegdaa.M
set_option linter.unusedVariables false
set_option linter.unusedSimpArgs false

theorem bits_xor_u32_nat (a b : Nat) (ha : a < 4294967296) (hb : b < 4294967296) : Go.bits .xor .u32 (a : Int) (b : Int) = ((a ^^^ b : Nat) : Int) := by
  have hx : a ^^^ b < 2 ^ 32 := Nat.xor_lt_two_pow (by omega) (by omega)
  have h1 : (BitVec.ofInt 32 (a : Int)).toNat = a := by
    rw [BitVec.ofInt_natCast, BitVec.toNat_ofNat]; exact Nat.mod_eq_of_lt (by omega)
  have h2 : (BitVec.ofInt 32 (b : Int)).toNat = b := by
    rw [BitVec.ofInt_natCast, BitVec.toNat_ofNat]; exact Nat.mod_eq_of_lt (by omega)
  show IntKind.u32.wrap ((BitVec.ofInt 32 (a : Int) ^^^ BitVec.ofInt 32 (b : Int)).toNat : Int) = _
  rw [BitVec.toNat_xor, h1, h2, IntKind.wrap_u32]
  omega
/-- A number's four bytes, low ones first. -/
def four (s : Nat) : List Int := [(s : Int) % 256, (s : Int) / 256 % 256, (s : Int) / 65536 % 256, (s : Int) / 16777216]
theorem lit_win (w : World) (xs : List Int) (hx : xs.length ≤ 1000) : Win (w.alloc (.cells (nums .u8 xs).toArray 5)) w.heap.size 5 1 (.slice (some ⟨w.heap.size, 0, none⟩) xs.length xs.length) xs.length (nums .u8 xs) :=
  ⟨by rw [nums_length, Nat.mul_one], .inr ⟨w.heap.size, 0, xs.length, _, rfl, Nat.le_refl _, heap_alloc_new w _, Nat.le_refl _, by simp only [maxLen]; omega, by simp [nums], by simp only [List.drop_zero, Nat.mul_one]; rw [← nums_length .u8 xs]; exact List.take_length⟩⟩
set_option maxHeartbeats 400000 in
theorem four_any (w : World) (s : Nat) (hs : s < 4294967296) :
    Calls Try.prog 102 #[.int .u32 s] w fun e w' => ∃ v, e = .returned v ∧ Win w' w.heap.size 5 1 v 4 (nums .u8 (four s)) ∧ Fr No w w' := by
  go_enter Try.func102, Try.ntmps102
  go_wp2_with fail
  go_ret
  exact ⟨_, rfl, lit_win w (four s) (by show 4 ≤ 1000; decide), Fr.alloc _ _⟩
theorem and1_u32 (a : Nat) (ha : a < 4294967296) : Go.bits .and .u32 (a : Int) 1 = ((a % 2 : Nat) : Int) := by
  have h := (bits_nat .u32 32 (by decide) (fun n h0 h1 => by rw [IntKind.wrap_u32]; omega) a 1 (by omega) (by decide)).1
  rw [Nat.and_one_is_mod] at h
  exact h
theorem step_val (a : Nat) (ha : a < 4294967296) : Go.bits .xor .u32 ((a : Int) / 2) (3988292384 * Go.bits .and .u32 (a : Int) 1 % 4294967296) = ((Crc.bit a : Nat) : Int) := by
  rw [and1_u32 a ha]
  unfold Crc.bit
  have e : (a : Int) / 2 = ((a / 2 : Nat) : Int) := by omega
  rw [e]
  rcases Nat.mod_two_eq_zero_or_one a with h | h <;> rw [h]
  · rw [if_neg (by decide)]
    have := bits_xor_u32_nat (a / 2) 0 (by omega) (by decide)
    rw [Nat.xor_zero] at this
    exact this
  · rw [if_pos rfl]
    exact bits_xor_u32_nat (a / 2) 3988292384 (by omega) (by decide)
set_option maxHeartbeats 1000000 in
theorem step_any (w : World) (c : Nat) (hc : c < 4294967296) : Calls Try.prog 118 #[.int .u32 c] w fun e w' => e = .returned (.int .u32 (Crc.bits 4 c : Nat)) ∧ w = w' := by
  go_enter Try.func118, Try.ntmps118
  go_wp2_with fail
  go_loop [0, 3] (fun v0 v3 => ∃ (k a : Nat), v0 = .int .u32 a ∧ v3 = .int .i64 k ∧ k ≤ 4 ∧ Aside0 (a < 4294967296) ∧ Aside0 (Crc.bits (4 - k) a = Crc.bits 4 c)) (fun _ v3 => 4 - (intOf v3).toNat)
  case atStart => exact ⟨0, c, rfl, rfl, by omega, ⟨hc⟩, ⟨rfl⟩⟩
  case round =>
    obtain ⟨k, a, rfl, rfl, hk, HA, HC⟩ := hrel
    by_cases hlt : k < 4
    · go_wp2_with fail
      go_round
      case rel => exact ⟨k + 1, Crc.bit a, by rw [step_val a HA.out], by simp, by omega, ⟨Crc.bit_lt HA.out⟩, ⟨by rw [← HC.out, show 4 - k = (4 - (k + 1)) + 1 by omega]; rfl⟩⟩
      case measure => simp [intOf]; omega
    · obtain rfl : k = 4 := by omega
      go_wp2_with fail
      go_ret
      exact ⟨by rw [← HC.out]; rfl, rfl⟩
end Go.Proofs.Ytchcimkmjoegdaa.C
