/- frame.Sum (58): the checksum of parts laid one behind another. Conditions: as the theorem states. NOT FINISHED. -/
import Derived.Test.YtchcimkmjoegdaaSumB
namespace Go.Proofs.Ytchcimkmjoegdaa.C
open Go.RowKit Go.Proofs.YtchcimkmjoegdaaW.PrintWords Go.Proofs.YtchcimkmjoegdaaW.PrintMore Go.Proofs.Ytchcimkmjoegdaa.M
set_option linter.unusedVariables false
set_option linter.unusedSimpArgs false

/-- One part: its header's value and its bytes. -/
def Part (w : World) (p : Value × List Int) : Prop := ∃ A c, p.1 = .slice A p.2.length c ∧ p.2.length ≤ c ∧ p.2.length ≤ 140737488355328 ∧ RdV w A (nums .u8 p.2) ∧ Byt p.2
/-- The bytes of parts. -/
def flat (L : List (Value × List Int)) : List Int := L.flatMap Prod.snd
def crc (c : Nat) (l : List Int) : Nat := Crc.run c (l.map Int.toNat)
theorem and15_u32 (a : Nat) (ha : a < 4294967296) : Go.bits .and .u32 (a : Int) 15 = ((a % 16 : Nat) : Int) := by
  have h := (bits_nat .u32 32 (by decide) (fun n h0 h1 => by rw [IntKind.wrap_u32]; omega) a 15 (by omega) (by decide)).1
  have e : a &&& 15 = a % 16 := Nat.and_two_pow_sub_one_eq_mod a 4
  rw [e] at h
  exact h
theorem half_val (a : Nat) (ha : a < 4294967296) : Go.bits .xor .u32 ((a : Int) / 16) ((Crc.bits 4 (a % 16) : Nat) : Int) = ((Crc.half a : Nat) : Int) := by
  have e : (a : Int) / 16 = ((a / 16 : Nat) : Int) := by omega
  rw [e, bits_xor_u32_nat _ _ (by omega) (Crc.bits_lt 4 (by omega))]
  rfl
theorem half_lt {a : Nat} (ha : a < 4294967296) : Crc.half a < 4294967296 := by rw [Crc.half_eq]; exact Crc.bits_lt 4 ha
theorem table_lit (w : World) : Calls Try.prog 104 #[] w fun e w' => e = .returned (.agg #[.int .u32 ((Crc.bits 4 0 : Nat) : Int), .int .u32 ((Crc.bits 4 1 : Nat) : Int), .int .u32 ((Crc.bits 4 2 : Nat) : Int), .int .u32 ((Crc.bits 4 3 : Nat) : Int), .int .u32 ((Crc.bits 4 4 : Nat) : Int), .int .u32 ((Crc.bits 4 5 : Nat) : Int), .int .u32 ((Crc.bits 4 6 : Nat) : Int), .int .u32 ((Crc.bits 4 7 : Nat) : Int), .int .u32 ((Crc.bits 4 8 : Nat) : Int), .int .u32 ((Crc.bits 4 9 : Nat) : Int), .int .u32 ((Crc.bits 4 10 : Nat) : Int), .int .u32 ((Crc.bits 4 11 : Nat) : Int), .int .u32 ((Crc.bits 4 12 : Nat) : Int), .int .u32 ((Crc.bits 4 13 : Nat) : Int), .int .u32 ((Crc.bits 4 14 : Nat) : Int), .int .u32 ((Crc.bits 4 15 : Nat) : Int)]) ∧ Fr No w w' := table_any w
theorem tab_cell {W : World} {g : Nat} (h : W.heap[g]? = some (.cells (nums .u32 (tab 16)).toArray 145 (0, 0))) (j : Nat) (hj : j < 16) : W.cell? ⟨g, j, none⟩ = some (.int .u32 ((Crc.bits 4 j : Nat) : Int)) := by
  unfold World.cell?
  rw [h]
  have := tab_get 16 j hj
  rw [if_pos hj] at this
  simpa using this
end Go.Proofs.Ytchcimkmjoegdaa.C
