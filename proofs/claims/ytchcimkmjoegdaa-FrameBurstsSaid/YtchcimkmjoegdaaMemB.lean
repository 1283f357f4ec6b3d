/- More of the memory words: cuts. Conditions: none beyond the hypotheses stated. -/
import Derived.Test.YtchcimkmjoegdaaMem
namespace Go.Proofs.Ytchcimkmjoegdaa.M
open Go.RowKit Go.Proofs.YtchcimkmjoegdaaW.PrintWords
/-- 'xs[:h]' -/
theorem cuth {P : Program} (t e : TypeId) (kh : IntKind) {i : TypeInfo} (ht : P.underlying t = some (.slice e)) (hi : P.info? e = some i) (A : Option Addr) (n c h : Nat) (hc : h ≤ c) :
    ∀ W : World, (Instr.slice t (.slice A n c) none (some (.int kh (h : Int))) none).run P W = .ok (.slice A h c) W := by
  intro W
  have hel : P.elem t = e := by simp [Program.elem, ht]
  have hu : P.underlying t = some (.slice (P.elem t)) := by rw [hel]; exact ht
  have ha : (A.map fun x => x.add 0) = A := by cases A <;> simp [Addr.add]
  rw [run_slice_h W t A n c hu kh (h : Int) (by omega) (by omega), hel]
  simp [sizeOf, typeInfo, hi, sliced, Result.andThen, ha]
theorem RdV.take {w : World} {A : Option Addr} {xs : List Value} (h : RdV w A xs) (m : Nat) : RdV w A (xs.take m) := fun hn => by
  obtain ⟨ad, e, hc⟩ := h (by intro h0; subst h0; simp at hn)
  refine ⟨ad, e, fun j u hj => ?_⟩
  rw [List.getElem?_take] at hj
  split at hj
  · exact hc j u hj
  · cases hj
/-- One step more of a body that leaves alone what lay below B. -/
theorem acc {B : Nat} {S : Nat → Prop} {w w1 w2 : World} (h : Below B w w1) (hB : B ≤ w.heap.size) (k : Fr S w1 w2) (hS : ∀ i, S i → B ≤ i) : Below B w w2 :=
  ⟨k.os.trans h.os, k.tape.trans h.tape, k.output.trans h.output, Nat.le_trans h.size k.size, fun i hi => (k.block i (Nat.lt_of_lt_of_le hi (Nat.le_trans hB h.size)) (fun hs => by have := hS i hs; omega)).trans (h.block i hi)⟩
theorem accNo {B : Nat} {w w1 w2 : World} (h : Below B w w1) (hB : B ≤ w.heap.size) (k : Fr No w1 w2) : Below B w w2 := acc h hB k (fun _ h => h.elim)
theorem accOne {B g : Nat} {w w1 w2 : World} (h : Below B w w1) (hB : B ≤ w.heap.size) (k : Fr (One g) w1 w2) (hg : B ≤ g) : Below B w w2 := acc h hB k (fun i h => by have h' : i = g := h; omega)
theorem accAlloc {B : Nat} {w w1 : World} (h : Below B w w1) (hB : B ≤ w.heap.size) (o : Obj) : Below B w (w1.alloc o) := accNo h hB (Fr.alloc w1 o)
theorem accDrew {B : Nat} {w w1 : World} (h : Below B w w1) (n : Nat) : Below B w (w1.drewN n) := pw_below_drewN h n
theorem Fr.of_No {w w' : World} (h : Below w.heap.size w w') : Fr No w w' := Fr.of_below h No
end Go.Proofs.Ytchcimkmjoegdaa.M
