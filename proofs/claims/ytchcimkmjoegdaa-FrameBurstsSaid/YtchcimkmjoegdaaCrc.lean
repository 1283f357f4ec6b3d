/- The checksum's plain law: bit by bit, four bits at a time, and as the reference reckons it. No program here. Conditions: none. -/
import Derived.Test.YtchcimkmjoegdaaRows
namespace Go.Proofs.Ytchcimkmjoegdaa.Crc
/-- One bit. -/
def bit (c : Nat) : Nat := if c % 2 = 1 then (c / 2) ^^^ 3988292384 else c / 2
def bits (k c : Nat) : Nat := match k with
  | 0 => c
  | k + 1 => bits k (bit c)
theorem xor_mod2 (a b : Nat) : (a ^^^ b) % 2 = (a % 2 + b % 2) % 2 := by
  have h := Nat.xor_mod_two_pow (a := a) (b := b) (n := 1)
  rw [Nat.pow_one] at h
  rw [h]
  rcases Nat.mod_two_eq_zero_or_one a with ha | ha <;> rcases Nat.mod_two_eq_zero_or_one b with hb | hb <;> rw [ha, hb] <;> decide
theorem xor_div2 (a b : Nat) : (a ^^^ b) / 2 = (a / 2) ^^^ (b / 2) := by
  have := Nat.xor_div_two_pow (a := a) (b := b) (n := 1)
  simpa using this
theorem bit_xor (a b : Nat) : bit (a ^^^ b) = bit a ^^^ bit b := by
  unfold bit
  rw [xor_mod2, xor_div2]
  rcases Nat.mod_two_eq_zero_or_one a with ha | ha <;> rcases Nat.mod_two_eq_zero_or_one b with hb | hb <;> rw [ha, hb]
  · simp
  · simp [Nat.xor_assoc]
  · rw [if_pos (by decide), if_pos rfl, if_neg (by decide), Nat.xor_assoc, Nat.xor_assoc, Nat.xor_comm (b / 2)]
  · simp only [Nat.reduceAdd, Nat.reduceMod, if_true]
    rw [if_neg (by decide), Nat.xor_assoc, ← Nat.xor_assoc 3988292384, Nat.xor_comm 3988292384 (b / 2), Nat.xor_assoc (b / 2), Nat.xor_self, Nat.xor_zero]
theorem bits_xor (k : Nat) : ∀ a b : Nat, bits k (a ^^^ b) = bits k a ^^^ bits k b := by
  induction k with
  | zero => intro a b; rfl
  | succ k ih => intro a b; rw [bits, bit_xor, ih]; rfl
/-- Bits that are all clear only move down. -/
theorem bits_low : ∀ (k c : Nat), bits k (c * 2 ^ k) = c
  | 0, c => by simp [bits]
  | k + 1, c => by
    have h : c * 2 ^ (k + 1) = (c * 2 ^ k) * 2 := by rw [Nat.pow_succ, Nat.mul_assoc]
    rw [bits, h, bit, if_neg (by omega), Nat.mul_div_cancel _ (by decide)]
    exact bits_low k c
theorem split_xor (k c : Nat) : c = (c / 2 ^ k * 2 ^ k) ^^^ (c % 2 ^ k) := by
  apply Nat.eq_of_testBit_eq
  intro j
  rw [Nat.testBit_xor, Nat.testBit_mul_two_pow, Nat.testBit_mod_two_pow, Nat.testBit_div_two_pow]
  by_cases h : k ≤ j
  · have h2 : ¬ j < k := by omega
    simp [h, h2, Nat.sub_add_cancel h]
  · have h2 : j < k := by omega
    simp [h, h2]
/-- k bits at a time, by a table of the low ones. -/
theorem bits_table (k c : Nat) : bits k c = (c / 2 ^ k) ^^^ bits k (c % 2 ^ k) := by
  conv => lhs; rw [split_xor k c]
  rw [bits_xor, bits_low]
theorem bits_add : ∀ (j k c : Nat), bits (j + k) c = bits k (bits j c)
  | 0, k, c => by rw [Nat.zero_add]; rfl
  | j + 1, k, c => by rw [Nat.add_right_comm, bits, bits_add j k]; rfl
/-- A byte. -/
def byte (c b : Nat) : Nat := bits 8 (c ^^^ b)
def run (c : Nat) (l : List Nat) : Nat := l.foldl byte c
theorem bit_lt {c : Nat} (h : c < 4294967296) : bit c < 4294967296 := by
  unfold bit
  split
  · exact Nat.xor_lt_two_pow (n := 32) (by omega) (by decide)
  · omega
theorem bits_lt : ∀ (k : Nat) {c : Nat}, c < 4294967296 → bits k c < 4294967296
  | 0, _, h => h
  | k + 1, _, h => bits_lt k (bit_lt h)
theorem byte_lt {c b : Nat} (h : c < 4294967296) (hb : b < 256) : byte c b < 4294967296 := bits_lt 8 (Nat.xor_lt_two_pow (n := 32) h (by omega))
theorem run_lt : ∀ (l : List Nat) {c : Nat}, c < 4294967296 → (∀ b ∈ l, b < 256) → run c l < 4294967296
  | [], _, h, _ => h
  | b :: l, _, h, hl => run_lt l (byte_lt h (hl b (by simp))) (fun x hx => hl x (by simp [hx]))
theorem run_append (c : Nat) (a b : List Nat) : run c (a ++ b) = run (run c a) b := List.foldl_append
/-- By halves of a byte, as the frame reckons it. -/
def half (c : Nat) : Nat := (c / 16) ^^^ bits 4 (c % 16)
theorem half_eq (c : Nat) : half c = bits 4 c := (bits_table 4 c).symm
theorem byte_half (c b : Nat) : byte c b = half (half (c ^^^ b)) := by
  rw [half_eq, half_eq, ← bits_add]
  rfl
/-- As the reference reckons it: bit by bit of the byte. -/
def rstep (c d : Nat) : Nat := if c % 2 ≠ d % 2 then (c / 2) ^^^ 3988292384 else c / 2
theorem rstep_bit (c d : Nat) : rstep c d ^^^ (d / 2) = bit (c ^^^ d) := by
  unfold rstep bit
  rw [xor_mod2, xor_div2]
  rcases Nat.mod_two_eq_zero_or_one c with hc | hc <;> rcases Nat.mod_two_eq_zero_or_one d with hd | hd <;> rw [hc, hd]
  · simp
  · rw [if_pos (by decide), if_pos (by decide), Nat.xor_assoc, Nat.xor_assoc, Nat.xor_comm (d / 2)]
  · rw [if_pos (by decide), if_pos (by decide), Nat.xor_assoc, Nat.xor_assoc, Nat.xor_comm (d / 2)]
  · simp
/-- k of the byte's bits. -/
def rbits : Nat → Nat → Nat → Nat
  | 0, c, _ => c
  | k + 1, c, d => rstep (rbits k c d) (d / 2 ^ k)
theorem rbits_eq : ∀ (k c d : Nat), rbits k c d ^^^ (d / 2 ^ k) = bits k (c ^^^ d)
  | 0, c, d => by simp [rbits, bits]
  | k + 1, c, d => by
    rw [rbits, Nat.pow_succ, ← Nat.div_div_eq_div_mul, rstep_bit, rbits_eq k c d, bits_add k 1]
    rfl
theorem rbyte (c b : Nat) (hb : b < 256) : rbits 8 c b = byte c b := by
  have h := rbits_eq 8 c b
  rw [Nat.div_eq_of_lt (by omega), Nat.xor_zero] at h
  exact h
end Go.Proofs.Ytchcimkmjoegdaa.Crc
