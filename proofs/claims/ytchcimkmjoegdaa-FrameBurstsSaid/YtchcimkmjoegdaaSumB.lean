/- frame's table (104). Not finished. -/
import Derived.Test.YtchcimkmjoegdaaSumA
import Derived.Deep.MidRow
namespace Go.Proofs.Ytchcimkmjoegdaa.C
open Go.RowKit Go.Proofs.YtchcimkmjoegdaaW.PrintWords Go.Proofs.YtchcimkmjoegdaaW.PrintMore Go.Proofs.Ytchcimkmjoegdaa.M
set_option linter.unusedVariables false
set_option linter.unusedSimpArgs false

/-- The table's first k entries reckoned. -/
def tab (k : Nat) : List Int := (List.range 16).map fun j => if j < k then ((Crc.bits 4 j : Nat) : Int) else 0
theorem setCell_same {w : World} {b o : Nat} {v : Value} (h : w.cell? ⟨b, o, none⟩ = some v) : w.setCell ⟨b, o, none⟩ v = w := by
  have hb : ∃ c e fr, w.heap[b]? = some (.cells c e fr) ∧ c[o]? = some v := by
    unfold World.cell? at h
    split at h
    · rename_i c e fr hq
      exact ⟨c, e, fr, hq, by simpa using h⟩
    · cases h
  obtain ⟨c, e, fr, hq, hv⟩ := hb
  have h2 : (w.setCell ⟨b, o, none⟩ v).heap = w.heap := by
    apply Array.ext_getElem?
    intro i
    simp only [World.setCell, Array.getElem?_modify]
    split
    · rename_i hi
      subst hi
      rw [hq]
      have : c.setIfInBounds o v = c := by
        apply Array.ext_getElem?
        intro j
        rw [Array.getElem?_setIfInBounds]
        split
        · rename_i hj; subst hj; rw [hv]; split <;> simp_all
        · rfl
      simp [this]
    · rfl
  show { w with heap := (w.setCell ⟨b, o, none⟩ v).heap } = w
  rw [h2]
theorem tab_len (k : Nat) : (tab k).length = 16 := by simp [tab]
theorem tab_get (k j : Nat) (hj : j < 16) : (nums .u32 (tab k))[j]? = some (.int .u32 (if j < k then ((Crc.bits 4 j : Nat) : Int) else 0)) := by
  simp [nums, tab, hj]
theorem tab_set (k : Nat) (hk : k < 16) : (nums .u32 (tab k)).set k (.int .u32 ((Crc.bits 4 k : Nat) : Int)) = nums .u32 (tab (k + 1)) := by
  apply List.ext_getElem?
  intro j
  rw [List.getElem?_set]
  by_cases hj : j < 16
  · rw [tab_get _ j hj, tab_get _ j hj]
    by_cases e : k = j
    · subst e
      rw [if_pos rfl, if_pos (by simp [nums, tab, hk]), if_pos (by omega)]
    · rw [if_neg e]
      by_cases h : j < k
      · rw [if_pos h, if_pos (by omega)]
      · rw [if_neg h, if_neg (by omega)]
  · rw [if_neg (by omega), List.getElem?_eq_none (by simp [nums, tab]; omega), List.getElem?_eq_none (by simp [nums, tab]; omega)]
set_option maxRecDepth 100000 in
set_option maxHeartbeats 1000000 in
theorem table_any (w : World) : Calls Try.prog 104 #[] w fun e w' => e = .returned (.agg (nums .u32 (tab 16)).toArray) ∧ Fr No w w' := by
  go_enter Try.func104, Try.ntmps104
  go_wp2_with fail
  go_loopw [3] (fun v3 wr => ∃ k : Nat, v3 = .int .i64 k ∧ k ≤ 16 ∧ Aside0 (wr.heap[w.heap.size]? = some (.cells (nums .u32 (tab k)).toArray 145 (0, 0)) ∧ Below w.heap.size w wr)) (fun v3 _ => 16 - (intOf v3).toNat)
  case atStart => exact ⟨0, rfl, by omega, ⟨by rw [heap_alloc_new]; rfl, below_alloc (Below.refl _ _) _⟩⟩
  case round =>
    obtain ⟨k, rfl, hk, HR⟩ := hrel
    by_cases hlt : k < 16
    · have hc : wr.cell? ⟨w.heap.size, k, none⟩ = some (.int .u32 0) := by
        unfold World.cell?
        rw [HR.out.1]
        have := tab_get k k hlt
        rw [if_neg (by omega)] at this
        simpa using this
      have hf : wr.frozen? ⟨w.heap.size, k, none⟩ = false := by
        unfold World.frozen?
        rw [HR.out.1]
        rfl
      have HS := Aside0.mk (step_any wr k (by omega))
      go_wp2_with (go_at_call 118; go_must (refine HS.out.mono ?_; rintro e' w' ⟨rfl, rfl⟩))
      go_roundw
      case rel => exact ⟨k + 1, by simp, by omega, ⟨by
        have h := HR.out.1
        simp only [World.setCell, Array.getElem?_modify, h, if_true, Option.map_some]
        rw [← tab_set k hlt]
        simp, HR.out.2.setCell (Nat.le_refl _) _⟩⟩
      case measure => simp [intOf]; omega
    · obtain rfl : k = 16 := by omega
      have hr : wr.rangeAt w.heap.size 0 (nums .u32 (tab 16)) := fun j u hj => by
        rw [Nat.zero_add]
        unfold World.cell?
        rw [HR.out.1]
        simpa using hj
      have hl : ∀ j : Nat, j < 16 → wr.cell? ⟨w.heap.size, j, none⟩ = some (.int .u32 ((Crc.bits 4 j : Nat) : Int)) ∧ wr.frozen? ⟨w.heap.size, j, none⟩ = false := fun j hj => by
        have h1 := hr j _ (tab_get 16 j hj)
        rw [Nat.zero_add, if_pos hj] at h1
        refine ⟨h1, ?_⟩
        unfold World.frozen?
        rw [HR.out.1]
        rfl
      obtain ⟨c0, f0⟩ := hl 0 (by decide)
      obtain ⟨c1, f1⟩ := hl 1 (by decide)
      obtain ⟨c2, f2⟩ := hl 2 (by decide)
      obtain ⟨c3, f3⟩ := hl 3 (by decide)
      obtain ⟨c4, f4⟩ := hl 4 (by decide)
      obtain ⟨c5, f5⟩ := hl 5 (by decide)
      obtain ⟨c6, f6⟩ := hl 6 (by decide)
      obtain ⟨c7, f7⟩ := hl 7 (by decide)
      obtain ⟨c8, f8⟩ := hl 8 (by decide)
      obtain ⟨c9, f9⟩ := hl 9 (by decide)
      obtain ⟨c10, f10⟩ := hl 10 (by decide)
      obtain ⟨c11, f11⟩ := hl 11 (by decide)
      obtain ⟨c12, f12⟩ := hl 12 (by decide)
      obtain ⟨c13, f13⟩ := hl 13 (by decide)
      obtain ⟨c14, f14⟩ := hl 14 (by decide)
      obtain ⟨c15, f15⟩ := hl 15 (by decide)
      have HRG := Aside0.mk hr
      clear hl hr
      go_wp2_with fail
      simp only [setCell_same c0, setCell_same c1, setCell_same c2, setCell_same c3, setCell_same c4, setCell_same c5, setCell_same c6, setCell_same c7, setCell_same c8, setCell_same c9, setCell_same c10, setCell_same c11, setCell_same c12, setCell_same c13, setCell_same c14, setCell_same c15]
      refine bodyPost_ret (v := .agg (nums .u32 (tab 16)).toArray) ?_ rfl ⟨rfl, Fr.of_No HR.out.2⟩
      have h145 := run_loadVar_mid (P := Try.prog) wr w.heap.size 0 145 (nums .u32 (tab 16)) _ HRG.out Try.underlying145 rfl (by rw [nums_length, tab_len]; kernel_rfl)
      have hres : Try.f104.results = #[.cell 0 145] := by kernel_rfl
      have ha : (asAddr (Value.pointer (some ⟨w.heap.size, 0, none⟩))).run Try.prog wr = .ok ⟨w.heap.size, 0, none⟩ wr := rfl
      simp [results, hres, Sem.run_bind, ha, h145, Result.andThen]
end Go.Proofs.Ytchcimkmjoegdaa.C
