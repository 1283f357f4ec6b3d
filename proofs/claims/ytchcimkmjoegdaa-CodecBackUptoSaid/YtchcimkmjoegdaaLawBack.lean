/- CodecBack's walk, in the row's terms: for every numbers, texts and place of the row the call answers true. Conditions: the sizes of the given '..Upto' statement. -/
import Derived.Test.YtchcimkmjoegdaaBackW
import Derived.Test.YtchcimkmjoegdaaLawPuts
import Derived.Test.YtchcimkmjoegdaaBulk
import Derived.Deep.Strs
namespace Go.Proofs.Ytchcimkmjoegdaa.C
open Go.RowKit Go.Proofs.YtchcimkmjoegdaaW.PrintWords Go.Proofs.YtchcimkmjoegdaaW.PrintMore Go.Proofs.Ytchcimkmjoegdaa.M
set_option linter.unusedVariables false

theorem row_ints {w : World} {k : IntKind} {a : Option Addr} {len cap : Nat} {zs : List Int} (h : (a = none ∧ len = 0 ∧ cap = 0 ∧ zs = []) ∨ ∃ x, a = some x ∧ len ≤ cap ∧ cap ≤ maxLen ∧ zs.length = cap ∧ (∀ i, i < zs.length → w.cell? (x.add i) = some (.int k (zs.getD i 0))) ∧ ∀ n ∈ zs, (Lit.int k n).wf = true) :
    ∃ l : List Int, l.length = len ∧ RdV w a (nums k l) ∧ len ≤ cap ∧ ∀ n ∈ l, (Lit.int k n).wf = true := by
  rcases h with ⟨rfl, rfl, rfl, rfl⟩ | ⟨x, rfl, h1, h2, h3, h4, h5⟩
  · exact ⟨[], rfl, fun h => absurd rfl h, by omega, fun n hn => by cases hn⟩
  · refine ⟨zs.take len, by rw [List.length_take]; omega, fun _ => ⟨x, rfl, fun j u hu => ?_⟩, h1, fun n hn => h5 n (List.mem_of_mem_take hn)⟩
    have hu' : ((zs.take len).map (Value.int k))[j]? = some u := hu
    rw [List.getElem?_map] at hu'
    obtain ⟨z, hz, rfl⟩ := Option.map_eq_some_iff.1 hu'
    rw [List.getElem?_take] at hz
    split at hz
    · obtain ⟨hl, e⟩ := List.getElem?_eq_some_iff.1 hz
      rw [h4 j hl, List.getD_eq_getElem?_getD, hz]
      rfl
    · cases hz
open Go.ChangeShapes Go.WideShapes Go.Deep in
theorem row_strs {H : Type} {enc : TypeId × Value → H} {P : Program} {W : World} {base : Nat} {spare : Nat → Bool} {held : Bool} {t e : TypeId} {a : Option Addr} {len cap : Nat} {d : DataW H} {ps : List MemPlace}
    (hu : P.underlying t = some (.slice e)) (he : P.underlying e = some .string) (hc : P.cellsOf e = 1) (h : DataW.Trod enc P W base spare held t (.slice a len cap) d ps) (hb : Rows.uptoBulk d ≤ 1048576) :
    ∃ S : List ByteArray, S.length = len ∧ len ≤ 1048576 ∧ RdV W a (S.map .string) ∧ len ≤ cap ∧ ∀ s ∈ S, s.size ≤ 1048576 := by
  obtain ⟨fuel, hf⟩ := h
  rcases open_strs hu he hc hf with ⟨hcs, hx⟩ | ⟨x, l, c, m, Sx, hcs, _, hl, _, hm, hx, hcell⟩
  · simp [Value.cells] at hcs
    obtain ⟨rfl, rfl, rfl⟩ := hcs
    exact ⟨[], rfl, by omega, fun h => absurd rfl h, by omega, fun n hn => by cases hn⟩
  · simp [Value.cells] at hcs
    obtain ⟨rfl, rfl, rfl⟩ := hcs
    obtain ⟨hx, _⟩ := Prod.mk.inj hx
    have hlm : len ≤ m := by rw [hm]; split <;> omega
    subst hx
    have h1 := bulks.slice_le ((List.range len).map fun i => (.lit (.string (Sx i).data.toList) : DataW H)) ((List.range (m - len)).map fun j => .lit (.string (Sx (len + j)).data.toList))
    have h2 := bulks.slice_elems ((List.range len).map fun i => (.lit (.string (Sx i).data.toList) : DataW H)) ((List.range (m - len)).map fun j => .lit (.string (Sx (len + j)).data.toList))
    refine ⟨(List.range len).map Sx, by simp, ?_, fun _ => ⟨x, rfl, fun j u hj => ?_⟩, hl, fun s hs => ?_⟩
    · simp only [List.length_map, List.length_range] at h1
      omega
    · rw [List.map_map, List.getElem?_map] at hj
      obtain ⟨z, hz, rfl⟩ := Option.map_eq_some_iff.1 hj
      obtain ⟨hlt, e⟩ := List.getElem?_eq_some_iff.1 hz
      simp at hlt e
      subst e
      exact (hcell j (by omega)).1
    · obtain ⟨i, hi, rfl⟩ := List.mem_map.1 hs
      have h3 := bulks.part_le (H := H) (List.mem_map.2 ⟨i, hi, rfl⟩ : (.lit (.string (Sx i).data.toList) : DataW H) ∈ (List.range len).map fun i => .lit (.string (Sx i).data.toList))
      exact bulks.str_le (H := H) (by omega)
theorem CodecBack_row (w : World) {a1 a2 a3 : Option Addr} {l1 l2 l3 p1 p2 p3 : Nat} {z1 z2 : List Int} {z3 : List ByteArray} {at_ : Int}
    (h1 : (a1 = none ∧ l1 = 0 ∧ p1 = 0 ∧ z1 = []) ∨ ∃ x, a1 = some x ∧ l1 ≤ p1 ∧ p1 ≤ maxLen ∧ z1.length = p1 ∧ (∀ i, i < z1.length → w.cell? (x.add i) = some (.int .u64 (z1.getD i 0))) ∧ ∀ n ∈ z1, (Lit.int .u64 n).wf = true) (y1 : l1 ≤ 1048576)
    (h2 : (a2 = none ∧ l2 = 0 ∧ p2 = 0 ∧ z2 = []) ∨ ∃ x, a2 = some x ∧ l2 ≤ p2 ∧ p2 ≤ maxLen ∧ z2.length = p2 ∧ (∀ i, i < z2.length → w.cell? (x.add i) = some (.int .i64 (z2.getD i 0))) ∧ ∀ n ∈ z2, (Lit.int .i64 n).wf = true) (y2 : l2 ≤ 1048576)
    (h3 : z3.length = l3 ∧ l3 ≤ 1048576 ∧ RdV w a3 (z3.map .string) ∧ l3 ≤ p3 ∧ ∀ s ∈ z3, s.size ≤ 1048576) (hq : (Lit.int .i64 at_).wf = true) :
    Calls Try.prog 5 #[.slice a1 l1 p1, .slice a2 l2 p2, .slice a3 l3 p3, .int .i64 at_] w fun e w' => e = .returned (.bool true) ∧ Below w.heap.size w w' := by
  by_cases hl : 200 < l1 + l2 + l3
  · exact CodecBack_long w a1 a2 a3 l1 l2 l3 p1 p2 p3 at_ y1 y2 h3.2.1 hl
  · obtain ⟨us, e1, r1, k1, b1⟩ := row_ints h1
    obtain ⟨is, e2, r2, k2, b2⟩ := row_ints h2
    exact CodecBack_short w a1 a2 a3 l1 l2 l3 p1 p2 p3 us is z3 at_ r1 r2 h3.2.2.1 e1 e2 h3.1 k1 k2 h3.2.2.2.1 (fun u hu => u64_wf (b1 u hu)) (fun u hu => i64_wf (b2 u hu)) h3.2.2.2.2 (i64_wf hq).1 (i64_wf hq).2 (by omega)
end Go.Proofs.Ytchcimkmjoegdaa.C
