/- A row's documents, as the walks take them. Conditions: those of the row. | StoredCut under its row's names. Conditions: those of the row. (Several texts of mine laid into one by prune.py.) -/
import Derived.Test.YtchcimkmjoegdaaSkC11
namespace Go.Proofs.Ytchcimkmjoegdaa.C
open Go.RowKit Go.Proofs.YtchcimkmjoegdaaW.PrintWords Go.Proofs.YtchcimkmjoegdaaW.PrintMore Go.Proofs.Ytchcimkmjoegdaa.M
set_option linter.unusedVariables false
set_option linter.unusedSimpArgs false

theorem weightsS_mem {H : Type} {P : Program} {e : TypeId} : ∀ {l : List (DataW H)} {d : DataW H}, d ∈ l → ∀ n ∈ d.weights P e, n ∈ DataW.weightsAll P e l
  | x :: l, d, h, n, hn => by
    simp only [DataW.weightsAll, List.mem_append]
    rcases List.mem_cons.1 h with rfl | h
    · exact .inl hn
    · exact .inr (weightsS_mem h n hn)
  | [], _, h, _, _ => nomatch h
theorem i64S {u : Int} (h : (Lit.int .i64 u).wf = true) : -9223372036854775808 ≤ u ∧ u ≤ 9223372036854775807 := by
  have h' : decide (IntKind.i64.min ≤ u) && decide (u ≤ IntKind.i64.max) := h
  have h0 : IntKind.i64.min = -9223372036854775808 := by decide +kernel
  have h1 : IntKind.i64.max = 9223372036854775807 := by decide +kernel
  rw [h0, h1] at h'
  simpa using h'
theorem addS (a : Addr) (i j : Nat) : (a.add i).add j = a.add (i + j) := by
  unfold Addr.add
  by_cases hi : i = 0
  · subst hi; simp
  · by_cases hj : j = 0
    · subst hj; simp [hi]
    · simp [hi, hj, Nat.add_assoc]
instance : Inhabited Ent := ⟨⟨.empty, .empty, []⟩⟩
noncomputable instance : Inhabited (Value × Ent) := ⟨(.slice none 0 0, default)⟩
noncomputable instance : Inhabited (Value × List (Value × Ent)) := ⟨(.slice none 0 0, [])⟩
theorem fields134 : ∃ f0 f1 f2 : Field, Try.prog.underlying 134 = some (.struct #[f0, f1, f2]) ∧ (f0.type, f0.offset) = (9, 0) ∧ (f1.type, f1.offset) = (9, 1) ∧ (f2.type, f2.offset) = (45, 2) := ⟨_, _, _, Try.underlying134, rfl, rfl, rfl⟩
abbrev Rch : Nat := 140737488351232
open Go.ChangeShapes Go.WideShapes Go.Deep
section
variable {H : Type} {enc : TypeId × Value → H} {W : World} {base : Nat} {sp : Nat → Bool} {held : Bool}
theorem ints_read {fuel : Nat} {cs : List Value} {x : DataW H × List MemPlace} (h : DataW.trod enc Try.prog W base sp held fuel 45 cs = some x) (hw : ∀ k ∈ x.1.weights Try.prog 45, k ≤ Rch) :
    ∃ (A : Option Addr) (c : Nat) (zs : List Int), cs = [.slice A zs.length c] ∧ zs.length ≤ c ∧ RdV W A (nums .i64 zs) ∧ I64 zs ∧ zs.length ≤ 17592186043904 := by
  rcases open_ints Try.underlying45 Try.underlying2 (by kernel_rfl) h with ⟨hcs, _⟩ | ⟨a, len, cap, zs, hcs, _, hl, hm, hz, hx, hcell, hwf⟩
  · exact ⟨none, 0, [], hcs, Nat.le_refl _, fun h => absurd rfl h, (fun q hq => nomatch hq), by decide⟩
  · have hlz : len ≤ zs.length := by rw [hz]; split <;> omega
    have hlen : (zs.take len).length = len := by rw [List.length_take]; omega
    have hw1 := hw (((lits (H := H) .i64 (zs.take len)).length + (lits (H := H) .i64 (zs.drop len)).length) * Try.prog.bytesOf 2) (by rw [hx]; simp [DataW.weights, Try.underlying45])
    rw [show Try.prog.bytesOf 2 = 8 from by kernel_rfl] at hw1
    simp only [lits, List.length_map, hlen] at hw1
    refine ⟨some a, cap, zs.take len, by rw [hlen]; exact hcs, by rw [hlen]; exact hl, fun _ => ⟨a, rfl, fun i u hi => ?_⟩, fun q hq => i64S (hwf q (List.mem_of_mem_take hq)), by rw [hlen]; simp only [Rch] at hw1; omega⟩
    simp only [nums, List.getElem?_map] at hi
    obtain ⟨z, hz', rfl⟩ := Option.map_eq_some_iff.1 hi
    rw [List.getElem?_take] at hz'
    split at hz'
    · rename_i hil
      rw [hcell i (by omega), List.getD_eq_getElem?_getD, hz']
      rfl
    · cases hz'
theorem doc_read {fuel : Nat} {cs : List Value} {x : DataW H × List MemPlace} (h : DataW.trod enc Try.prog W base sp held fuel 52 cs = some x) (hw : ∀ k ∈ x.1.weights Try.prog 52, k ≤ Rch) :
    ∃ (A : Option Addr) (c : Nat) (D : List (Value × Ent)), cs = [.slice A D.length c] ∧ DocR W A D.length c D := by
  have hc134 : Try.prog.cellsOf 134 = 3 := by kernel_rfl
  have hc9 : Try.prog.cellsOf 9 = 1 := by kernel_rfl
  have hc45 : Try.prog.cellsOf 45 = 1 := by kernel_rfl
  rcases open_slice Try.underlying52 h with ⟨hcs, _⟩ | ⟨a, len, cap, m, n, Dd, Pl, hcs, _, hl, hmax, hm, hx, hcell⟩
  · exact ⟨none, 0, [], hcs, ⟨fun h => absurd rfl h, rfl, Nat.le_refl _, by decide, fun p hp => nomatch hp⟩⟩
  · have hlm : len ≤ m := by rw [hm]; split <;> omega
    rw [hc134] at hcell
    have hlen56 : len ≤ 2513169434845 := by
      have hw1 := hw ((((List.range len).map Dd).length + ((List.range (m - len)).map fun j => Dd (len + j)).length) * Try.prog.bytesOf 134) (by rw [hx]; simp only [DataW.weights, Try.underlying52]; exact List.mem_cons_self)
      rw [show Try.prog.bytesOf 134 = 56 from by kernel_rfl] at hw1
      simp only [List.length_map, List.length_range, Rch] at hw1
      omega
    have each : ∀ i, i < len → ∃ p : Value × Ent, W.cell? (a.add (i * 3)) = some (.string p.2.f) ∧ W.cell? (a.add (i * 3 + 1)) = some (.string p.2.t) ∧ W.cell? (a.add (i * 3 + 2)) = some p.1 ∧ EntR W p := fun i hi => by
      obtain ⟨cs', h1, h2⟩ := hcell i (by omega)
      have hwi : ∀ k ∈ (Dd i).weights Try.prog 134, k ≤ Rch := fun k hk => hw k (by
        rw [hx]
        simp only [DataW.weights, Try.underlying52]
        exact List.mem_cons_of_mem _ (List.mem_append_left _ (weightsS_mem (List.mem_map.2 ⟨i, List.mem_range.2 hi, rfl⟩) k hk)))
      obtain ⟨f0, f1, f2, hu, e0, e1, e2⟩ := fields134
      obtain ⟨t0, o0⟩ := Prod.mk.inj e0
      obtain ⟨t1, o1⟩ := Prod.mk.inj e1
      obtain ⟨t2, o2⟩ := Prod.mk.inj e2
      obtain ⟨_, h3, h4⟩ := World.cells?_some h1
      obtain ⟨y0, y1, y2, n', hxx, hl3, k0, k1, k2⟩ := trod_struct3 hu h2
      rw [t0, o0, hc9] at k0
      rw [t1, o1, hc9] at k1
      rw [t2, o2, hc45] at k2
      have hxe : Dd i = .agg [y0.1, y1.1, y2.1] := (Prod.mk.inj hxx).1
      rw [hxe] at hwi
      simp only [DataW.weights, hu, DataW.weightsEach, List.map_cons, List.map_nil, Array.toList, t0, t1, t2, List.append_nil, List.mem_append] at hwi
      obtain ⟨s0, q0, z0, _⟩ := DataW.trod_string Try.underlying9 k0
      obtain ⟨s1, q1, z1, _⟩ := DataW.trod_string Try.underlying9 k1
      obtain ⟨A2, c2, zs, q2, r1, r2, r3, r4⟩ := ints_read k2 (fun k hk => hwi k (.inr (.inr hk)))
      have w0 := hwi s0.data.toList.length (.inl (by rw [z0]; simp [DataW.weights]))
      have w1 := hwi s1.data.toList.length (.inr (.inl (by rw [z1]; simp [DataW.weights])))
      have g0 := h4 0 (by omega)
      have g1 := h4 1 (by omega)
      have g2 := h4 2 (by omega)
      rw [addS] at g0 g1 g2
      have j0 : cs'[0]? = some (.string s0) := by have := congrArg (fun l => l[0]?) q0; simpa using this
      have j1 : cs'[1]? = some (.string s1) := by have := congrArg (fun l => l[0]?) q1; simpa using this
      have j2 : cs'[2]? = some (.slice A2 zs.length c2) := by have := congrArg (fun l => l[0]?) q2; simpa using this
      refine ⟨(.slice A2 zs.length c2, ⟨s0, s1, zs⟩), by rw [show i * 3 = i * 3 + 0 by omega, g0, j0], by rw [g1, j1], by rw [g2, j2], A2, c2, rfl, r1, r2, r3, r4, ?_, ?_⟩
      · show s0.data.size ≤ _
        rw [← Array.length_toList]
        exact w0
      · show s1.data.size ≤ _
        rw [← Array.length_toList]
        exact w1
    obtain ⟨Dx, hD⟩ := choose_lt each
    have hlen3 : ((List.range len).map Dx).length = len := by simp
    refine ⟨some a, cap, (List.range len).map Dx, by rw [hlen3]; exact hcs, ⟨fun _ => ⟨a, rfl, fun j u hj => ?_⟩, rfl, by rw [hlen3]; exact hl, by rw [hlen3]; exact hlen56, fun p hp => ?_⟩⟩
    · have hjl := (List.getElem?_eq_some_iff.1 hj).1
      rw [flat3_len (f := entCells) (fun _ => rfl), hlen3] at hjl
      have hdi : j / 3 < len := by omega
      have hget : ((List.range len).map Dx)[j / 3]? = some (Dx (j / 3)) := by rw [List.getElem?_map, List.getElem?_range hdi]; rfl
      have hmod : j % 3 < 3 := Nat.mod_lt _ (by decide)
      have hjj : j / 3 * 3 + j % 3 = j := by omega
      have hk := flat3_get (f := entCells) (fun _ => rfl) hget hmod
      rw [hjj, hj] at hk
      obtain ⟨d0, d1, d2, _⟩ := hD (j / 3) hdi
      rw [← hjj]
      rcases (show j % 3 = 0 ∨ j % 3 = 1 ∨ j % 3 = 2 by omega) with e | e | e <;> rw [e] at hk ⊢ <;> simp [entCells] at hk
      · rw [Nat.add_zero, d0, hk]
      · rw [d1, hk]
      · rw [d2, hk]
    · obtain ⟨i, hi, rfl⟩ := List.mem_map.1 hp
      exact (hD i (List.mem_range.1 hi)).2.2.2
theorem docs_read {fuel : Nat} {cs : List Value} {x : DataW H × List MemPlace} (h : DataW.trod enc Try.prog W base sp held fuel 56 cs = some x) (hw : ∀ k ∈ x.1.weights Try.prog 56, k ≤ Rch) :
    ∃ (A : Option Addr) (n c : Nat) (L : List (Value × List (Value × Ent))), cs = [.slice A n c] ∧ DocsR W A n c L ∧ n ≤ 5864062014634 := by
  rcases open_slice1 Try.underlying56 (by kernel_rfl) h with ⟨hcs, _⟩ | ⟨a, len, cap, m, n, V, Dd, Pl, hcs, _, hl, hmax, hm, hx, hcell⟩
  · exact ⟨none, 0, 0, [], hcs, ⟨fun h => absurd rfl h, rfl, Nat.le_refl _, by decide, fun p hp => nomatch hp⟩, by decide⟩
  · have hlm : len ≤ m := by rw [hm]; split <;> omega
    have hlen24 : len ≤ 5864062014634 := by
      have hw1 := hw ((((List.range len).map Dd).length + ((List.range (m - len)).map fun j => Dd (len + j)).length) * Try.prog.bytesOf 52) (by rw [hx]; simp only [DataW.weights, Try.underlying56]; exact List.mem_cons_self)
      rw [show Try.prog.bytesOf 52 = 24 from by kernel_rfl] at hw1
      simp only [List.length_map, List.length_range, Rch] at hw1
      omega
    have each : ∀ i, i < len → ∃ p : Value × List (Value × Ent), W.cell? (a.add i) = some p.1 ∧ ∃ A' c', p.1 = .slice A' p.2.length c' ∧ DocR W A' p.2.length c' p.2 := fun i hi => by
      obtain ⟨h1, h2⟩ := hcell i (by omega)
      obtain ⟨A', c', D, e, hd⟩ := doc_read h2 (fun k hk => hw k (by
        rw [hx]
        simp only [DataW.weights, Try.underlying56]
        exact List.mem_cons_of_mem _ (List.mem_append_left _ (weightsS_mem (List.mem_map.2 ⟨i, List.mem_range.2 hi, rfl⟩) k hk))))
      have e' : V i = .slice A' D.length c' := by injection e
      exact ⟨(V i, D), h1, A', c', e', hd⟩
    obtain ⟨Lx, hL⟩ := choose_lt each
    refine ⟨some a, len, cap, (List.range len).map Lx, hcs, ⟨fun _ => ⟨a, rfl, fun j u hj => ?_⟩, by simp, hl, by omega, fun p hp => ?_⟩, hlen24⟩
    · rw [List.map_map, List.getElem?_map] at hj
      obtain ⟨z, hz, rfl⟩ := Option.map_eq_some_iff.1 hj
      obtain ⟨hlt, e⟩ := List.getElem?_eq_some_iff.1 hz
      simp at hlt e
      subst e
      exact (hL j hlt).1
    · obtain ⟨i, hi, rfl⟩ := List.mem_map.1 hp
      exact (hL i (List.mem_range.1 hi)).2
theorem row_docs {a : Option Addr} {len cap : Nat} {d : DataW H} {ps : List MemPlace} {ts : List TypeId} {ds : List (DataW H)} {j : Nat}
    (hsz : (DataW.weightsEach Try.prog ts ds).all (· ≤ reachBytes) = true) (ht : ts[j]? = some 56) (hd : ds[j]? = some d) (h : DataW.Trod enc Try.prog W base sp held 56 (.slice a len cap) d ps) :
    ∃ L, DocsR W a len cap L ∧ len ≤ 5864062014634 := by
  obtain ⟨fuel, hf⟩ := h
  obtain ⟨A, n, c, L, e, h1, h2⟩ := docs_read hf (fun k hk => of_decide_eq_true (List.all_eq_true.1 hsz _ (DataW.weights_mem_each ht hd k hk)))
  simp [Value.cells] at e
  obtain ⟨rfl, rfl, rfl⟩ := e
  exact ⟨L, h1, h2⟩
end
end Go.Proofs.Ytchcimkmjoegdaa.C
namespace Go.Proofs.Ytchcimkmjoegdaa.C
open Go.RowKit Go.Proofs.YtchcimkmjoegdaaW.PrintWords Go.Proofs.YtchcimkmjoegdaaW.PrintMore Go.Proofs.Ytchcimkmjoegdaa.M
theorem u8S {u : Int} (h : (Lit.int .u8 u).wf = true) : 0 ≤ u ∧ u ≤ 255 := by
  have h' : decide (IntKind.u8.min ≤ u) && decide (u ≤ IntKind.u8.max) := h
  have h0 : IntKind.u8.min = 0 := by decide +kernel
  have h1 : IntKind.u8.max = 255 := by decide +kernel
  rw [h0, h1] at h'
  simpa using h'
theorem StoredCut_row (w : World) {a : Option Addr} {n c : Nat} {L : List (Value × List (Value × Ent))} {at_ x : Int} (h : DocsR w a n c L ∧ n ≤ 5864062014634) (h1 : (Lit.int .i64 at_).wf = true) (h2 : (Lit.int .u8 x).wf = true) :
    Calls Try.prog 16 #[.slice a n c, .int .i64 at_, .int .u8 x] w fun e w' => e = .returned (.bool true) ∧ Below w.heap.size w w' :=
  (StoredCut_any w a n c L at_ x h.1 h.2 (i64S h1).1 (i64S h1).2 (u8S h2)).mono fun _ _ h => ⟨h.1, h.2.no⟩
end Go.Proofs.Ytchcimkmjoegdaa.C
