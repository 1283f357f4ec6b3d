/- CodecReads' walk, in the row's terms. Conditions: those of the given statement. -/
import Derived.Test.YtchcimkmjoegdaaReads
import Derived.Deep.Strs
import Derived.OpenShut
namespace Go.Proofs.Ytchcimkmjoegdaa.C
open Go.RowKit Go.Proofs.YtchcimkmjoegdaaW.PrintWords Go.Proofs.YtchcimkmjoegdaaW.PrintMore Go.Proofs.Ytchcimkmjoegdaa.M
set_option linter.unusedVariables false

theorem add_add (a : Addr) (i j : Nat) : (a.add i).add j = a.add (i + j) := by
  unfold Addr.add
  by_cases hi : i = 0
  · subst hi; simp
  · by_cases hj : j = 0
    · subst hj; simp [hi]
    · rw [if_neg hi, if_neg hj, if_neg (by omega)]
      simp [Nat.add_assoc]
theorem i64_fits {u : Int} (h : (Lit.int .i64 u).wf = true) : -9223372036854775808 ≤ u ∧ u ≤ 9223372036854775807 := by
  have h' : decide (IntKind.i64.min ≤ u) && decide (u ≤ IntKind.i64.max) := h
  have h0 : IntKind.i64.min = -9223372036854775808 := by decide +kernel
  have h1 : IntKind.i64.max = 9223372036854775807 := by decide +kernel
  rw [h0, h1] at h'
  simp at h'
  omega
open Go.ChangeShapes Go.WideShapes Go.Deep in
theorem row_calls {H : Type} {enc : TypeId × Value → H} {W : World} {base : Nat} {spare : Nat → Bool} {held : Bool} {a : Option Addr} {len cap : Nat} {d : DataW H} {ps : List MemPlace}
    (h : DataW.Trod enc Try.prog W base spare held 64 (.slice a len cap) d ps) :
    ∃ S : List (Int × Int), S.length = len ∧ RdV W a (opCells S) ∧ len ≤ cap ∧ len ≤ 9223372036854775807 ∧ ∀ p ∈ S, -9223372036854775808 ≤ p.2 ∧ p.2 ≤ 9223372036854775807 := by
  have hc70 : Try.prog.cellsOf 70 = 2 := by kernel_rfl
  have hc3 : Try.prog.cellsOf 3 = 1 := by kernel_rfl
  obtain ⟨fuel, hf⟩ := h
  rcases open_slice Try.underlying64 hf with ⟨hcs, hx⟩ | ⟨x, l, c, m, n, D, Pl, hcs, _, hl, hmax, hm, hx, hcell⟩
  · simp [Value.cells] at hcs
    obtain ⟨rfl, rfl, rfl⟩ := hcs
    exact ⟨[], rfl, fun h => absurd rfl h, by omega, by omega, fun n hn => by cases hn⟩
  · simp [Value.cells] at hcs
    obtain ⟨rfl, rfl, rfl⟩ := hcs
    have hlm : len ≤ m := by rw [hm]; split <;> omega
    rw [hc70] at hcell
    have each : ∀ i, i < m → ∃ p : Int × Int, W.cell? (x.add (i * 2)) = some (.int .i64 p.1) ∧ W.cell? (x.add (i * 2 + 1)) = some (.int .i64 p.2) ∧ (-9223372036854775808 ≤ p.2 ∧ p.2 ≤ 9223372036854775807) := fun i hi => by
      obtain ⟨cs', h1, h2⟩ := hcell i hi
      obtain ⟨_, h3, h4⟩ := World.cells?_some h1
      obtain ⟨y0, y1, n', _, _, t0, t1⟩ := trod_struct2 Try.underlying70 h2
      obtain ⟨p, e0, _, _⟩ := DataW.trod_int Try.underlying3 t0
      obtain ⟨q, e1, _, hwf⟩ := DataW.trod_int Try.underlying3 t1
      simp only [hc3] at e0 e1
      have k0 := h4 0 (by omega)
      have k1 := h4 1 (by omega)
      rw [add_add] at k0 k1
      refine ⟨(p, q), ?_, ?_, i64_fits hwf⟩
      · rw [show i * 2 + 0 = i * 2 by omega] at k0
        rw [k0]
        have := congrArg (fun l => l[0]?) e0
        simpa using this
      · rw [k1]
        have := congrArg (fun l => l[0]?) e1
        simpa using this
    obtain ⟨Sx, hS⟩ := choose_lt each
    refine ⟨(List.range len).map Sx, by simp, fun _ => ⟨x, rfl, fun j u hj => ?_⟩, hl, by simp only [maxLen] at hmax; omega, fun s hs => ?_⟩
    · have hidx : ∀ (n : Nat) (f : Nat → Int × Int) (j : Nat) (u : Value), (opCells ((List.range n).map f))[j]? = some u → ∃ i, i < n ∧ ((j = i * 2 ∧ u = .int .i64 (f i).1) ∨ (j = i * 2 + 1 ∧ u = .int .i64 (f i).2)) := fun n => by
        induction n with
        | zero => intro f j u h; simp [opCells] at h
        | succ n ih =>
          intro f j u h
          rw [List.range_succ_eq_map] at h
          simp only [List.map_cons, List.map_map, opCells, List.flatMap_cons] at h
          match j, h with
          | 0, h => simp at h; exact ⟨0, by omega, .inl ⟨rfl, h.symm⟩⟩
          | 1, h => simp at h; exact ⟨0, by omega, .inr ⟨rfl, h.symm⟩⟩
          | j + 2, h =>
            obtain ⟨i, hi, hc⟩ := ih (f ∘ Nat.succ) j u (by simpa [opCells] using h)
            exact ⟨i + 1, by omega, by simp only [Function.comp] at hc; rcases hc with ⟨e, hu⟩ | ⟨e, hu⟩; exact .inl ⟨by omega, hu⟩; exact .inr ⟨by omega, hu⟩⟩
      obtain ⟨i, hi, hc⟩ := hidx len Sx j u hj
      rcases hc with ⟨rfl, rfl⟩ | ⟨rfl, rfl⟩
      · exact (hS i (by omega)).1
      · exact (hS i (by omega)).2.1
    · obtain ⟨i, hi, rfl⟩ := List.mem_map.1 hs
      exact (hS i (by have := List.mem_range.1 hi; omega)).2.2
theorem CodecReads_row (w : World) {a : Option Addr} {len cap : Nat} {zs : List Int} (h : (a = none ∧ len = 0 ∧ cap = 0 ∧ zs = []) ∨ ∃ x, a = some x ∧ len ≤ cap ∧ cap ≤ maxLen ∧ zs.length = cap ∧ (∀ i, i < zs.length → w.cell? (x.add i) = some (.int .u8 (zs.getD i 0))) ∧ ∀ n ∈ zs, (Lit.int .u8 n).wf = true) (y : len * 1 ≤ 140737488351232)
    {a2 : Option Addr} {l2 c2 : Nat} {S : List (Int × Int)} (h2 : S.length = l2 ∧ RdV w a2 (opCells S) ∧ l2 ≤ c2 ∧ l2 ≤ 9223372036854775807 ∧ ∀ p ∈ S, -9223372036854775808 ≤ p.2 ∧ p.2 ≤ 9223372036854775807) :
    Calls Try.prog 8 #[.slice a len cap, .slice a2 l2 c2] w fun e w' => e = .returned (.bool true) ∧ Below w.heap.size w w' := by
  obtain ⟨l, hl, hr, h0, hc, _, hw⟩ := row_read h
  exact CodecReads_walk w a a2 len cap l2 c2 l S ⟨hr, hl, hc, by omega, byt_wf hw⟩ h2.2.1 h2.1 h2.2.2.1 h2.2.2.2.1 h2.2.2.2.2 (by omega)
end Go.Proofs.Ytchcimkmjoegdaa.C
