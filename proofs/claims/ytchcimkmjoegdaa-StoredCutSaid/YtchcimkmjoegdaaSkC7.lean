/- Open's state: what is read (pure), what lies in memory, how Open is left. Conditions: as each theorem states. | The states of stored.Open's loops (40). Conditions: as each theorem states. | The states of stored.Open's later loops (40). Conditions: as each theorem states. (Several texts of mine laid into one by prune.py.) -/
import Derived.Test.YtchcimkmjoegdaaSkC6
namespace Go.Proofs.Ytchcimkmjoegdaa.C
open Go.RowKit Go.Proofs.YtchcimkmjoegdaaW.PrintWords Go.Proofs.YtchcimkmjoegdaaW.PrintMore Go.Proofs.Ytchcimkmjoegdaa.M
set_option linter.unusedVariables false
set_option linter.unusedSimpArgs false

/-! ### heads and bodies, one behind the other -/
/-- One head. -/
def hd1 (xs : List Int) (n a i : Nat) : Option ((Nat × Nat × Nat) × Nat × Nat) :=
  let r := rS xs i 0 16384; let s := rS xs r.2.1 r.2.2 xs.length; if s.2.2 = 0 ∧ a < a + r.1 ∧ a + r.1 ≤ n then some ((a, a + r.1, s.1), a + r.1, s.2.1) else none
theorem headsO_cons (xs : List Int) (n k a i : Nat) : headsO xs n (k + 1) a i = (hd1 xs n a i).bind fun q => (headsO xs n k q.2.1 q.2.2).map fun p => (q.1 :: p.1, p.2) := by
  rw [headsO]
  unfold hd1
  simp only
  split
  · rfl
  · rfl
theorem headsO_snoc (xs : List Int) (n : Nat) : ∀ (k a i : Nat), headsO xs n (k + 1) a i = (headsO xs n k a i).bind fun p => (hd1 xs n p.2.1 p.2.2).map fun q => (p.1 ++ [q.1], q.2)
  | 0, a, i => by
    rw [headsO_cons, headsO, Option.bind_some]
    cases hd1 xs n a i with
    | none => rfl
    | some q => rfl
  | k + 1, a, i => by
    rw [headsO_cons]
    conv => rhs; rw [headsO_cons]
    cases hd1 xs n a i with
    | none => rfl
    | some q =>
      simp only [Option.bind_some]
      rw [headsO_snoc xs n k q.2.1 q.2.2]
      cases headsO xs n k q.2.1 q.2.2 with
      | none => rfl
      | some p =>
        simp only [Option.bind_some, Option.map_some]
        cases hd1 xs n p.2.1 p.2.2 with
        | none => rfl
        | some s => rfl
theorem headsO_none {xs : List Int} {n j a i : Nat} (h : headsO xs n j a i = none) : ∀ k, j ≤ k → headsO xs n k a i = none := by
  intro k hk
  obtain ⟨d, rfl⟩ : ∃ d, k = j + d := ⟨k - j, by omega⟩
  clear hk
  induction d with
  | zero => exact h
  | succ d ih => rw [← Nat.add_assoc, headsO_snoc, ih]; rfl
theorem hd1_fine {xs : List Int} {n a i : Nat} {q : (Nat × Nat × Nat) × Nat × Nat} (h : hd1 xs n a i = some q) : q.1.1 = a ∧ q.1.2.1 = q.2.1 ∧ a < q.2.1 ∧ q.2.1 ≤ n ∧ q.1.2.2 ≤ xs.length := by
  unfold hd1 at h
  simp only at h
  split at h
  · rename_i hc
    injection h with h
    subst h
    refine ⟨rfl, rfl, hc.2.1, hc.2.2, ?_⟩
    have := rS_max (ys := xs) (i := (rS xs i 0 16384).2.1) (e := (rS xs i 0 16384).2.2) (m := xs.length) (by omega)
    show (rS xs _ _ _).1 ≤ _
    omega
  · cases h
theorem headsO_fine {xs : List Int} {n : Nat} : ∀ {k a i : Nat} {H : List (Nat × Nat × Nat)} {b j : Nat}, headsO xs n k a i = some (H, b, j) → H.length = k ∧ ∀ h ∈ H, h.1 < h.2.1 ∧ h.2.1 ≤ n ∧ h.2.2 ≤ xs.length
  | 0, a, i, H, b, j, h => by
    rw [headsO] at h
    injection h with h
    injection h with h1 h2
    subst h1
    exact ⟨rfl, fun e he => nomatch he⟩
  | k + 1, a, i, H, b, j, h => by
    rw [headsO_cons, Option.bind_eq_some_iff] at h
    obtain ⟨q, h1, h2⟩ := h
    rw [Option.map_eq_some_iff] at h2
    obtain ⟨⟨H', b', j'⟩, h3, h4⟩ := h2
    injection h4 with h4 h5
    subst h4
    obtain ⟨k1, k2⟩ := headsO_fine h3
    obtain ⟨f1, f2, f3, f4, f5⟩ := hd1_fine h1
    refine ⟨by rw [List.length_cons, k1], fun e he => ?_⟩
    rcases List.mem_cons.1 he with rfl | he
    · exact ⟨by omega, by omega, f5⟩
    · exact k2 e he
/-- One body. -/
def bd1 (xs : List Int) (h : Nat × Nat × Nat) (i : Nat) : Option ((Chk × List (List Ent)) × Nat) :=
  let r := rB xs i 0 (h.2.2 : Nat); if r.2.2 = 0 then (chunkO r.1 (h.2.1 - h.1)).map fun D => ((⟨h.1, h.2.1, r.1⟩, D), r.2.1) else none
theorem bodiesO_cons (xs : List Int) (h : Nat × Nat × Nat) (H : List (Nat × Nat × Nat)) (i : Nat) : bodiesO xs (h :: H) i = (bd1 xs h i).bind fun q => (bodiesO xs H q.2).map fun p => (q.1.1 :: p.1, q.1.2 ++ p.2.1, p.2.2) := by
  rw [bodiesO]
  unfold bd1
  simp only
  split
  · cases chunkO (rB xs i 0 (h.2.2 : Nat)).1 (h.2.1 - h.1) with
    | none => rfl
    | some D => rfl
  · rfl
theorem bodiesO_snoc (xs : List Int) (h : Nat × Nat × Nat) : ∀ (H : List (Nat × Nat × Nat)) (i : Nat), bodiesO xs (H ++ [h]) i = (bodiesO xs H i).bind fun p => (bd1 xs h p.2.2).map fun q => (p.1 ++ [q.1.1], p.2.1 ++ q.1.2, q.2)
  | [], i => by
    rw [List.nil_append, bodiesO_cons, bodiesO, Option.bind_some]
    cases bd1 xs h i with
    | none => rfl
    | some q => simp [bodiesO]
  | h0 :: H, i => by
    rw [List.cons_append, bodiesO_cons]
    conv => rhs; rw [bodiesO_cons]
    cases bd1 xs h0 i with
    | none => rfl
    | some q =>
      simp only [Option.bind_some]
      rw [bodiesO_snoc xs h H q.2]
      cases bodiesO xs H q.2 with
      | none => rfl
      | some p =>
        simp only [Option.bind_some, Option.map_some]
        cases bd1 xs h p.2.2 with
        | none => rfl
        | some s => simp
theorem bodiesO_none {xs : List Int} : ∀ {H T : List (Nat × Nat × Nat)} {i : Nat}, bodiesO xs H i = none → bodiesO xs (H ++ T) i = none
  | [], T, i, h => by rw [bodiesO] at h; cases h
  | h0 :: H, T, i, h => by
    rw [List.cons_append, bodiesO_cons]
    rw [bodiesO_cons] at h
    cases hb : bd1 xs h0 i with
    | none => rfl
    | some q =>
      rw [hb, Option.bind_some, Option.map_eq_none_iff] at h
      rw [Option.bind_some, bodiesO_none h]
      rfl
/-! ### frames by the type of what turned -/
/-- What turned are rows of type t. -/
def Ty (W : World) (S : Nat → Prop) (t : Nat) : Prop := ∀ j, S j → ∃ cs, W.heap[j]? = some (.cells cs t (0, 0))
theorem Ty.none (W : World) (t : Nat) : Ty W No t := fun j h => h.elim
theorem Ty.one {W : World} {k t : Nat} {cs : Array Value} (h : W.heap[k]? = some (.cells cs t (0, 0))) : Ty W (One k) t := fun j hj => by
  have hj' : j = k := hj
  subst hj'
  exact ⟨cs, h⟩
theorem Ty.win {W : World} {B e size n : Nat} {v : Value} {xs : List Value} (h : Win W B e size v n xs) : Ty W (At v) e := fun j hj => by
  obtain ⟨_, _, cur, hc⟩ := h.at_ hj
  exact ⟨cur, hc⟩
section
variable {W W' : World} {S : Nat → Prop} {t : Nat}
theorem Ty.blk (f : Fr S W W') (hT : Ty W S t) {k t' : Nat} {cs : Array Value} (h : W.heap[k]? = some (.cells cs t' (0, 0))) (hne : t' ≠ t) : W'.heap[k]? = some (.cells cs t' (0, 0)) :=
  f.get h (fun hs => by
    obtain ⟨cs', hc⟩ := hT k hs
    rw [h] at hc
    injection hc with hc
    injection hc with _ hc
    exact hne hc)
theorem Ty.row (f : Fr S W W') (hT : Ty W S t) {B e size n : Nat} {v : Value} {xs : List Value} (h : Win W B e size v n xs) (hne : e ≠ t) : Win W' B e size v n xs :=
  h.fr f (fun k hk hs => by
    obtain ⟨cs', hc⟩ := hT k hs
    exact hne (h.ne_type hk hc))
theorem Ty.rdr (f : Fr S W W') (hT : Ty W S t) {B g i : Nat} {xs : List Int} {e : Int} (h : Rdr W B g xs i e) (h1 : t ≠ 5) (h2 : t ≠ 108) : Rdr W' B g xs i e :=
  h.stay f (fun k hk => by obtain ⟨cs, hc⟩ := hT k hk; exact ⟨cs, t, hc, h1, h2⟩)
end
/-- Open's state: the two results' boxes, the store, the reader. -/
structure OpS (w W : World) (p2 p3 gr gs : Nat) (xs : List Int) (i : Nat) (e : Int) (vs : Value) (n : Nat) : Prop where
  bel : Below w.heap.size w W
  b2 : W.heap[p2]? = some (.cells #[.pointer (some ⟨gs, 0, none⟩)] 49 (0, 0))
  b3 : W.heap[p3]? = some (.cells #[.int .i64 0] 29 (0, 0))
  st : W.heap[gs]? = some (.cells #[vs, .int .i64 (n : Int)] 121 (0, 0))
  rd : Rdr W w.heap.size gr xs i e
  h2 : w.heap.size ≤ p2
  h3 : w.heap.size ≤ p3
  hs : w.heap.size ≤ gs
section
variable {w W W' : World} {p2 p3 gr gs i n t : Nat} {xs : List Int} {e : Int} {vs : Value} {S : Nat → Prop}
theorem OpS.step (h : OpS w W p2 p3 gr gs xs i e vs n) (f : Fr S W W') (hT : Ty W S t) (ht : t ≠ 49 ∧ t ≠ 29 ∧ t ≠ 121 ∧ t ≠ 108 ∧ t ≠ 5) (hB : ∀ j, S j → w.heap.size ≤ j) : OpS w W' p2 p3 gr gs xs i e vs n :=
  ⟨acc h.bel (Nat.le_refl _) f hB, Ty.blk f hT h.b2 (Ne.symm ht.1), Ty.blk f hT h.b3 (Ne.symm ht.2.1), Ty.blk f hT h.st (Ne.symm ht.2.2.1), Ty.rdr f hT h.rd ht.2.2.2.2 ht.2.2.2.1, h.h2, h.h3, h.hs⟩
theorem OpS.no (h : OpS w W p2 p3 gr gs xs i e vs n) (f : Fr No W W') : OpS w W' p2 p3 gr gs xs i e vs n := h.step (t := 0) f (Ty.none _ _) (by decide) (fun _ h => h.elim)
theorem OpS.read {i' : Nat} {e' : Int} (h : OpS w W p2 p3 gr gs xs i e vs n) (f : Fr (One gr) W W') (hr : Rdr W' w.heap.size gr xs i' e') : OpS w W' p2 p3 gr gs xs i' e' vs n := by
  obtain ⟨cs, hc⟩ := h.rd.ty
  have hT := Ty.one hc
  exact ⟨acc h.bel (Nat.le_refl _) f (fun j hj => by have hj' : j = gr := hj; subst hj'; exact h.rd.1), Ty.blk f hT h.b2 (by decide), Ty.blk f hT h.b3 (by decide), Ty.blk f hT h.st (by decide), hr, h.h2, h.h3, h.hs⟩
theorem OpS.put {vs' : Value} (h : OpS w W p2 p3 gr gs xs i e vs n) : OpS w (W.setCell ⟨gs, 0, none⟩ vs') p2 p3 gr gs xs i e vs' n := by
  have f : Fr (One gs) W (W.setCell ⟨gs, 0, none⟩ vs') := Fr.setCell W _ _ rfl
  have hT := Ty.one h.st
  refine ⟨acc h.bel (Nat.le_refl _) f (fun j hj => by have hj' : j = gs := hj; subst hj'; exact h.hs), Ty.blk f hT h.b2 (by decide), Ty.blk f hT h.b3 (by decide), ?_, Ty.rdr f hT h.rd (by decide) (by decide), h.h2, h.h3, h.hs⟩
  have := h.st
  simp [World.setCell, Array.getElem?_modify, this]
theorem OpS.cells (h : OpS w W p2 p3 gr gs xs i e vs n) : W.cell? ⟨p2, 0, none⟩ = some (.pointer (some ⟨gs, 0, none⟩)) ∧ W.cell? ⟨gs, 0, none⟩ = some vs ∧ W.cell? ⟨gs, 1, none⟩ = some (.int .i64 (n : Int)) ∧ W.frozen? ⟨gs, 0, none⟩ = false ∧ W.frozen? ⟨p2, 0, none⟩ = false ∧ W.cell? ⟨p3, 0, none⟩ = some (.int .i64 0) ∧ W.frozen? ⟨p3, 0, none⟩ = false := by
  have h1 := h.b2
  have h2 := h.b3
  have h3 := h.st
  simp [World.cell?, World.frozen?, h1, h2, h3]
end
/-! ### the way out -/
/-- The marks of the loops that were entered. -/
structure Marks (w W : World) (ms : List Nat) : Prop where
  at_ : ∀ D ∈ ms, W.heap[D]? = some (.deferred (some []))
  ge : ∀ D ∈ ms, w.heap.size ≤ D
  nd : ms.Nodup
theorem Marks.nil (w W : World) : Marks w W [] := ⟨fun _ h => (nomatch h), fun _ h => (nomatch h), List.nodup_nil⟩
theorem Marks.fr {w W W' : World} {ms : List Nat} {S : Nat → Prop} {t : Nat} (h : Marks w W ms) (f : Fr S W W') (hT : Ty W S t) : Marks w W' ms :=
  ⟨fun D hD => f.get (h.at_ D hD) (fun hs => by
    obtain ⟨cs, hc⟩ := hT D hs
    have := h.at_ D hD
    rw [hc] at this
    cases this), h.ge, h.nd⟩
theorem Marks.push {w W : World} {ms : List Nat} {D : Nat} (h : Marks w W ms) (hD : W.heap[D]? = some (.deferred (some []))) (hge : w.heap.size ≤ D) (hn : ∀ D' ∈ ms, D' ≠ D) : Marks w W (D :: ms) :=
  ⟨fun x hx => by
    rcases List.mem_cons.1 hx with rfl | hx
    · exact hD
    · exact h.at_ x hx, fun x hx => by
    rcases List.mem_cons.1 hx with rfl | hx
    · exact hge
    · exact h.ge x hx, List.nodup_cons.2 ⟨fun hm => hn D hm rfl, h.nd⟩⟩
theorem leave_marks {n : Nat} {fn : Func} {tmps : Array Value} {R : Ending → World → Prop} {ds : List Deferred} {u : FrameMode} (hu : u ≠ .run) : ∀ (ms : List Nat) (w W : World), Marks w W ms → (∀ W', Fr (fun k => k ∈ ms) W W' → LeavesInM Fence.wide n Try.prog fn tmps R ds u W') → LeavesInM Fence.wide n Try.prog fn tmps R (ms.map mkD ++ ds) u W
  | [], w, W, _, h => h W (Fr.refl _ _)
  | D :: ms, w, W, hm, h => by
    obtain ⟨h1, h2, h3⟩ := hm
    have hD := h1 D (by simp)
    obtain ⟨hnd, hnd2⟩ := List.nodup_cons.1 h3
    refine ⟨hu, .inl ⟨D, _, rfl, run_takeDeferred hD, ?_⟩⟩
    have f : Fr (One D) W (W.putObj D (.deferred none)) := ⟨rfl, rfl, rfl, by simp, fun k _ hk => World.putObj_heap_other hk⟩
    refine leave_marks hu ms w _ ⟨fun x hx => f.get (h1 x (List.mem_cons_of_mem _ hx)) (fun e => by
      have e' : x = D := e
      subst e'
      exact hnd hx), fun x hx => h2 x (List.mem_cons_of_mem _ hx), hnd2⟩ (fun W' f' => h W' (f.trans f' (fun i _ hi => by
      have hi' : i = D := hi
      subst hi'
      simp) (fun i _ hi => List.mem_cons_of_mem _ hi)))
theorem results40 {tmps : Array Value} {W : World} {p2 p3 : Nat} {x : Option Addr} {y : Int} (h2 : tmps.getD 2 undef = .pointer (some ⟨p2, 0, none⟩)) (h3 : tmps.getD 3 undef = .pointer (some ⟨p3, 0, none⟩)) (b2 : W.heap[p2]? = some (.cells #[.pointer x] 49 (0, 0))) (b3 : W.heap[p3]? = some (.cells #[.int .i64 y] 29 (0, 0))) :
    (results Try.f40 tmps).run Try.prog W = .ok (.tuple #[.pointer x, .int .i64 y]) W := by
  have h2' : tmps[2]?.getD undef = .pointer (some ⟨p2, 0, none⟩) := by simpa using h2
  have h3' : tmps[3]?.getD undef = .pointer (some ⟨p3, 0, none⟩) := by simpa using h3
  have c2 : W.cell? ⟨p2, 0, none⟩ = some (.pointer x) := by simp [World.cell?, b2]
  have c3 : W.cell? ⟨p3, 0, none⟩ = some (.int .i64 y) := by simp [World.cell?, b3]
  simp [results, Try.results40, h2', h3', asAddr, go_sem, c2, c3]
theorem inv85 (p2 p3 : Nat) (W : World) : (invoke (.fn (.func 85) #[.pointer (some ⟨p2, 0, none⟩), .pointer (some ⟨p3, 0, none⟩)]) #[]).run Try.prog W = .ok (.enter 85 #[.pointer (some ⟨p2, 0, none⟩), .pointer (some ⟨p3, 0, none⟩)]) W := by
  have eg := enters_of Try.func85 (by kernel_rfl) rfl
  simp [invoke, go_sem, eg]
abbrev dfr (p2 p3 : Nat) : Deferred := { target := .fn (.func 85) #[.pointer (some ⟨p2, 0, none⟩), .pointer (some ⟨p3, 0, none⟩)], args := #[] }
/-- Corrupt is taken back. -/
theorem open_fall {w W : World} {ms : List Nat} {p2 p3 : Nat} {x y : Value} {tmps : Array Value} {R : Ending → World → Prop} (h2 : tmps.getD 2 undef = .pointer (some ⟨p2, 0, none⟩)) (h3 : tmps.getD 3 undef = .pointer (some ⟨p3, 0, none⟩))
    (b2 : W.heap[p2]? = some (.cells #[x] 49 (0, 0))) (b3 : W.heap[p3]? = some (.cells #[y] 29 (0, 0))) (hb : Below w.heap.size w W) (k2 : w.heap.size ≤ p2) (k3 : w.heap.size ≤ p3) (hm : Marks w W ms)
    (hR : ∀ W', Fr No w W' → R (.returned (.tuple #[.pointer none, .int .i64 20])) W') :
    LeavesInM Fence.wide 0 Try.prog Try.f40 tmps R (ms.map mkD ++ [dfr p2 p3]) (.panicking [corruptP]) W := by
  refine leave_marks (by simp) ms w W hm fun W1 f1 => ?_
  have hT : ∀ {k : Nat} {cs : Array Value} {t : Nat}, W.heap[k]? = some (.cells cs t (0, 0)) → W1.heap[k]? = some (.cells cs t (0, 0)) := fun hk => f1.get hk (fun hs => by
    have := hm.at_ _ hs
    rw [hk] at this
    cases this)
  have c2 := hT b2
  have c3 := hT b3
  have hne : p2 ≠ p3 := fun e => by
    rw [e, b3] at b2
    injection b2 with b2
    injection b2 with _ b2
    exact absurd b2 (by decide)
  have hb1 : Below w.heap.size w W1 := acc hb (Nat.le_refl _) f1 hm.ge
  refine ⟨by simp, .inr ⟨fun h => by simp [Fence.wide] at h, .func 85, _, 85, _, rfl, inv85 p2 p3 W1, fun g _ => trivial, (catch_panic 0 p2 p3 x y W1 c2 c3 hne).mono ?_⟩⟩
  rintro e u' W' ⟨rfl, rfl, rfl⟩
  have d2 := (Fr.alloc (S := No) W1 (.cells #[] 129)).get c2 (fun h => h)
  have d3 := (Fr.alloc (S := No) W1 (.cells #[] 129)).get c3 (fun h => h)
  have f2 : Fr (One p2) (W1.alloc (.cells #[] 129)) ((W1.alloc (.cells #[] 129)).setCell ⟨p2, 0, none⟩ (.pointer none)) := Fr.setCell _ _ _ rfl
  have e2 : ((W1.alloc (.cells #[] 129)).setCell ⟨p2, 0, none⟩ (.pointer none)).heap[p2]? = some (.cells #[.pointer none] 49 (0, 0)) := by simp [World.setCell, Array.getElem?_modify, d2]
  have e3 := f2.get d3 (fun h => hne h.symm)
  have f3 : Fr (One p3) ((W1.alloc (.cells #[] 129)).setCell ⟨p2, 0, none⟩ (.pointer none)) (((W1.alloc (.cells #[] 129)).setCell ⟨p2, 0, none⟩ (.pointer none)).setCell ⟨p3, 0, none⟩ (.int .i64 20)) := Fr.setCell _ _ _ rfl
  have g2 := f3.get e2 (fun h => hne h)
  have g3 : (((W1.alloc (.cells #[] 129)).setCell ⟨p2, 0, none⟩ (.pointer none)).setCell ⟨p3, 0, none⟩ (.int .i64 20)).heap[p3]? = some (.cells #[.int .i64 20] 29 (0, 0)) := by
    have := e3
    generalize (W1.alloc (.cells #[] 129)).setCell ⟨p2, 0, none⟩ (.pointer none) = X at this
    simp [World.setCell, Array.getElem?_modify, this]
  refine ⟨_, results40 h2 h3 g2 g3, hR _ (Fr.of_No ?_)⟩
  exact accOne (accOne (accAlloc hb1 (Nat.le_refl _) _) (Nat.le_refl _) f2 k2) (Nat.le_refl _) f3 k3
/-- No panic: the results as they stand. -/
theorem open_ret {w W : World} {ms : List Nat} {p2 p3 : Nat} {x : Option Addr} {y : Int} {tmps : Array Value} {R : Ending → World → Prop} (h2 : tmps.getD 2 undef = .pointer (some ⟨p2, 0, none⟩)) (h3 : tmps.getD 3 undef = .pointer (some ⟨p3, 0, none⟩))
    (b2 : W.heap[p2]? = some (.cells #[.pointer x] 49 (0, 0))) (b3 : W.heap[p3]? = some (.cells #[.int .i64 y] 29 (0, 0))) (hm : Marks w W ms)
    (hR : ∀ W', Fr (fun k => k ∈ ms) W W' → R (.returned (.tuple #[.pointer x, .int .i64 y])) W') :
    LeavesInM Fence.wide 0 Try.prog Try.f40 tmps R (ms.map mkD ++ [dfr p2 p3]) .returning W := by
  refine leave_marks (by simp) ms w W hm fun W1 f1 => ?_
  have hT : ∀ {k : Nat} {cs : Array Value} {t : Nat}, W.heap[k]? = some (.cells cs t (0, 0)) → W1.heap[k]? = some (.cells cs t (0, 0)) := fun hk => f1.get hk (fun hs => by
    have := hm.at_ _ hs
    rw [hk] at this
    cases this)
  have c2 := hT b2
  have c3 := hT b3
  refine ⟨by simp, .inr ⟨fun h => by simp [Fence.wide] at h, .func 85, _, 85, _, rfl, inv85 p2 p3 W1, fun g _ => trivial, (catch_idle 0 p2 p3 W1).mono ?_⟩⟩
  rintro e u' W' ⟨rfl, rfl, rfl⟩
  have d2 := (Fr.alloc (S := No) W1 (.cells #[] 129)).get c2 (fun h => h)
  have d3 := (Fr.alloc (S := No) W1 (.cells #[] 129)).get c3 (fun h => h)
  exact ⟨_, results40 h2 h3 d2 d3, hR _ (f1.trans (Fr.alloc (S := No) W1 _) (fun _ _ h => h) (fun _ _ h => h.elim))⟩
end Go.Proofs.Ytchcimkmjoegdaa.C
namespace Go.Proofs.Ytchcimkmjoegdaa.C
open Go.RowKit Go.Proofs.YtchcimkmjoegdaaW.PrintWords Go.Proofs.YtchcimkmjoegdaaW.PrintMore Go.Proofs.Ytchcimkmjoegdaa.M
set_option linter.unusedVariables false
set_option linter.unusedSimpArgs false

/-- Chunks in memory: their row, and each one's bytes. -/
structure ChS (W : World) (B : Nat) (v : Value) (C : List (Value × Chk)) : Prop where
  hdr : Win W B 118 3 v C.length (C.flatMap chkCells)
  part : ∀ p ∈ C, Acc W B p.1 p.2.b
section
variable {W W1 W' : World} {B t : Nat} {v v1 : Value} {C : List (Value × Chk)} {S : Nat → Prop}
theorem ChS.nil (W : World) (B : Nat) : ChS W B (.slice none 0 0) [] := ⟨Win.nil _ _ _ _, fun p hp => (nomatch hp)⟩
theorem ChS.step (h : ChS W B v C) (f : Fr S W W') (hT : Ty W S t) (h1 : 118 ≠ t) (h2 : 5 ≠ t) : ChS W' B v C := ⟨Ty.row f hT h.hdr h1, fun p hp => Ty.row f hT (h.part p hp) h2⟩
theorem ChS.no (h : ChS W B v C) (f : Fr No W W') : ChS W' B v C := h.step (t := 0) f (Ty.none _ _) (by decide) (by decide)
theorem ChS.push {f' t' : Nat} (h : ChS W B v C) (g1 : Win W1 B 118 3 v1 (C.length + 1) (C.flatMap chkCells ++ [.int .i64 (f' : Int), .int .i64 (t' : Int), .slice none 0 0])) (g3 : Fr (At v) W W1) : ChS W1 B v1 (C ++ [(.slice none 0 0, ⟨f', t', []⟩)]) := by
  refine ⟨by rw [List.length_append, List.flatMap_append]; exact g1, fun q hq => ?_⟩
  rcases List.mem_append.1 hq with hq | hq
  · exact Ty.row g3 (Ty.win h.hdr) (h.part q hq) (by decide)
  · simp only [List.mem_cons, List.mem_nil_iff, or_false] at hq
    subst hq
    exact Win.nil _ _ _ _
/-- A chunk's bytes are laid. -/
theorem ChS.put {g off n c f' t' : Nat} {P T : List (Value × Chk)} {u0 u : Value} {b0 b : List Int} (h : ChS W B (.slice (some ⟨g, off, none⟩) n c) (P ++ (u0, Chk.mk f' t' b0) :: T)) (hn : P.length + (T.length + 1) = n) (hu : Acc W B u b) :
    ChS (W.setCell ⟨g, off + (P.length * 3 + 2), none⟩ u) B (.slice (some ⟨g, off, none⟩) n c) (P ++ (u, Chk.mk f' t' b) :: T) ∧ Fr (At (.slice (some ⟨g, off, none⟩) n c)) W (W.setCell ⟨g, off + (P.length * 3 + 2), none⟩ u) := by
  subst hn
  have hd := h.hdr
  rw [List.length_append, List.length_cons] at hd
  obtain ⟨s1, f1⟩ := Win.storeN hd (by omega) (P.length * 3 + 2) (by omega) u
  have hl : (P.flatMap chkCells).length = P.length * 3 := flat3_len chk3 P
  have e : ((P ++ (u0, Chk.mk f' t' b0) :: T).flatMap chkCells).set (P.length * 3 + 2) u = (P ++ (u, Chk.mk f' t' b) :: T).flatMap chkCells := by
    rw [List.flatMap_append, List.flatMap_append, List.set_append_right _ _ (by omega), hl, List.flatMap_cons, List.flatMap_cons]
    rw [show P.length * 3 + 2 - P.length * 3 = 2 from by omega]
    rfl
  rw [e] at s1
  refine ⟨⟨by rw [List.length_append, List.length_cons]; exact s1, fun q hq => ?_⟩, f1⟩
  rcases List.mem_append.1 hq with hq | hq
  · exact Ty.row f1 (Ty.win hd) (h.part q (List.mem_append_left _ hq)) (by decide)
  · rcases List.mem_cons.1 hq with rfl | hq
    · exact Ty.row f1 (Ty.win hd) hu (by decide)
    · exact Ty.row f1 (Ty.win hd) (h.part q (List.mem_append_right _ (List.mem_cons_of_mem _ hq))) (by decide)
theorem ChS.cells {g off n c j : Nat} {u : Value} {f' t' : Nat} {b : List Int} (h : ChS W B (.slice (some ⟨g, off, none⟩) n c) C) (hn : C.length = n) (hp : C[j]? = some (u, Chk.mk f' t' b)) :
    (W.cell? ⟨g, off + j * 3, none⟩ = some (.int .i64 f') ∧ W.frozen? ⟨g, off + j * 3, none⟩ = false) ∧ (W.cell? ⟨g, off + j * 3 + 1, none⟩ = some (.int .i64 t') ∧ W.frozen? ⟨g, off + j * 3 + 1, none⟩ = false) ∧ W.cell? ⟨g, off + j * 3 + 2, none⟩ = some u ∧ W.frozen? ⟨g, off + j * 3 + 2, none⟩ = false := by
  have hd := h.hdr
  rw [hn] at hd
  exact ⟨Win.cellN hd (flat3_get (k := 0) chk3 hp (by decide)), Win.cellN hd (flat3_get (k := 1) chk3 hp (by decide)), Win.cellN hd (flat3_get (k := 2) chk3 hp (by decide))⟩
end
def mk0 (h : Nat × Nat × Nat) : Value × Chk := (.slice none 0 0, ⟨h.1, h.2.1, []⟩)
def szs (H : List (Nat × Nat × Nat)) : List Int := H.map fun h => (h.2.2 : Int)
/-- Behind j heads. -/
structure HeadS (w W : World) (p2 p3 gr gs gz : Nat) (xs : List Int) (n K i0 j : Nat) (H : List (Nat × Nat × Nat)) (a i : Nat) (v : Value) : Prop where
  op : OpS w W p2 p3 gr gs xs i 0 v n
  got : headsO xs n j 0 i0 = some (H, a, i)
  ch : ChS W w.heap.size v (H.map mk0)
  sz : Win W w.heap.size 3 1 (.slice (some ⟨gz, 0, none⟩) K K) K (nums .i64 (szs H ++ List.replicate (K - j) 0))
section
variable {w W W1 W2 : World} {p2 p3 gr gs gz n K i0 j a i : Nat} {xs : List Int} {H : List (Nat × Nat × Nat)} {v : Value}
theorem HeadS.len (h : HeadS w W p2 p3 gr gs gz xs n K i0 j H a i v) : H.length = j := (headsO_fine h.got).1
/-- Behind both sizes of a head: what was read, the box of the chunk, the size laid. -/
structure HeadT (w W : World) (p2 p3 gr gs gz : Nat) (xs : List Int) (n K i0 j : Nat) (H : List (Nat × Nat × Nat)) (a i : Nat) (v : Value) (cnt z i2 : Nat) (e2 : Int) (bx : Nat) : Prop where
  op : OpS w W p2 p3 gr gs xs i2 e2 v n
  got : headsO xs n j 0 i0 = some (H, a, i)
  ch : ChS W w.heap.size v (H.map mk0)
  sz : Win W w.heap.size 3 1 (.slice (some ⟨gz, 0, none⟩) K K) K (nums .i64 (szs H ++ (z : Int) :: List.replicate (K - (j + 1)) 0))
  box : W.heap[bx]? = some (.cells #[.int .i64 (a : Int), .int .i64 ((a : Int) + cnt), .slice none 0 0] 118 (0, 0))
  nb : ¬ At v bx
theorem storeF_bad2 {xs : List Int} {n i1 K i2 : Nat} {e1 e2 : Int} (h1 : rS xs 0 0 16384 = (n, i1, e1)) (h2 : rS xs i1 e1 (n : Nat) = (K, i2, e2)) (he : e2 ≠ 0) : storeF xs = none := by
  unfold storeF
  simp only [h1, h2]
  rw [if_neg he]
theorem storeF_eq {xs : List Int} {n i1 K i2 : Nat} {e1 : Int} (h1 : rS xs 0 0 16384 = (n, i1, e1)) (h2 : rS xs i1 e1 (n : Nat) = (K, i2, 0)) :
    storeF xs = (headsO xs n K 0 i2).bind fun q => if q.2.1 = n then (bodiesO xs q.1 q.2.2).bind fun r => if r.2.2 = xs.length ∧ okDs r.2.1 = true ∧ buildB r.2.1 = xs then some (r.1, r.2.1) else none else none := by
  unfold storeF
  simp only [h1, h2, if_true]
section
variable {w W W2 : World} {p2 p3 gr gs gz n K i0 j a i cnt z j1 j2 bx nx : Nat} {f1 f2 : Int} {xs : List Int} {H : List (Nat × Nat × Nat)} {v v1 : Value}
theorem HeadT.no (h : HeadT w W p2 p3 gr gs gz xs n K i0 j H a i v cnt z j2 f2 bx) (f : Fr No W W2) : HeadT w W2 p2 p3 gr gs gz xs n K i0 j H a i v cnt z j2 f2 bx :=
  ⟨h.op.no f, h.got, h.ch.no f, h.sz.below f.no, f.get h.box (fun h => h), h.nb⟩
theorem HeadT.cells (h : HeadT w W p2 p3 gr gs gz xs n K i0 j H a i v cnt z j2 f2 bx) : W.cell? ⟨p2, 0, none⟩ = some (.pointer (some ⟨gs, 0, none⟩)) ∧ W.cell? ⟨gs, 0, none⟩ = some v ∧ W.cell? ⟨bx, 0, none⟩ = some (.int .i64 (a : Int)) ∧ W.cell? ⟨bx, 1, none⟩ = some (.int .i64 ((a : Int) + cnt)) ∧ W.cell? ⟨bx, 2, none⟩ = some (.slice none 0 0) := by
  obtain ⟨m2, m3, _⟩ := h.op.cells
  have := h.box
  exact ⟨m2, m3, by simp [World.cell?, this], by simp [World.cell?, this], by simp [World.cell?, this]⟩
theorem HeadT.app (h : HeadT w W p2 p3 gr gs gz xs n K i0 j H a i v cnt z j2 0 bx) (hg1 : 0 < cnt) (hg2 : a + cnt ≤ n) (he : rS xs i 0 16384 = (cnt, j1, f1) ∧ rS xs j1 f1 (nx : Nat) = (z, j2, 0)) (hl : xs.length = nx)
    (g1 : Win W2 w.heap.size 118 3 v1 (j + 1) ((H.map mk0).flatMap chkCells ++ [.int .i64 (a : Int), .int .i64 ((a : Int) + cnt), .slice none 0 0])) (g3 : Fr (At v) W W2) :
    (W2.cell? ⟨p2, 0, none⟩ = some (.pointer (some ⟨gs, 0, none⟩)) ∧ W2.cell? ⟨gs, 0, none⟩ = some v ∧ W2.cell? ⟨bx, 0, none⟩ = some (.int .i64 (a : Int)) ∧ W2.cell? ⟨bx, 1, none⟩ = some (.int .i64 ((a : Int) + cnt)) ∧ W2.cell? ⟨bx, 2, none⟩ = some (.slice none 0 0)) ∧ W2.frozen? ⟨gs, 0, none⟩ = false ∧ (W2.setCell ⟨gs, 0, none⟩ v1).cell? ⟨bx, 1, none⟩ = some (.int .i64 ((a : Int) + cnt)) ∧ HeadS w (W2.setCell ⟨gs, 0, none⟩ v1) p2 p3 gr gs gz xs n K i0 (j + 1) (H ++ [(a, a + cnt, z)]) (a + cnt) j2 v1 := by
  have hT := Ty.win h.ch.hdr
  have hlen : H.length = j := (headsO_fine h.got).1
  have o2 := h.op.step g3 hT (by decide) (fun k hk => (h.ch.hdr.at_ hk).1)
  have b2 := g3.get h.box h.nb
  have s2 := Ty.row g3 hT h.sz (by decide)
  have f3 : Fr (One gs) W2 (W2.setCell ⟨gs, 0, none⟩ v1) := Fr.setCell W2 _ _ rfl
  have hT3 := Ty.one o2.st
  have c2 : ChS W2 w.heap.size v1 ((H ++ [(a, a + cnt, z)]).map mk0) := by
    rw [List.map_append]
    exact ChS.push (f' := a) (t' := a + cnt) h.ch (by rw [List.length_map, hlen]; simpa using g1) g3
  have b3 := Ty.blk f3 hT3 b2 (by decide)
  have hd : hd1 xs n a i = some ((a, a + cnt, z), a + cnt, j2) := by
    unfold hd1
    rw [hl]
    simp only [he.1, he.2]
    rw [if_pos ⟨trivial, by omega, by omega⟩]
  refine ⟨⟨o2.cells.1, o2.cells.2.1, by simp [World.cell?, b2], by simp [World.cell?, b2], by simp [World.cell?, b2]⟩, o2.cells.2.2.2.1, by simp [World.cell?, b3], ⟨o2.put, by rw [headsO_snoc, h.got, Option.bind_some, hd]; rfl, c2.step f3 hT3 (by decide) (by decide), ?_⟩⟩
  · have e : szs (H ++ [(a, a + cnt, z)]) ++ List.replicate (K - (j + 1)) 0 = szs H ++ (z : Int) :: List.replicate (K - (j + 1)) 0 := by
      unfold szs
      simp
    rw [e]
    exact Ty.row f3 hT3 s2 (by decide)
end
theorem HeadT.bad {w W : World} {p2 p3 gr gs gz n K i0 j a i cnt z j1 j2 bx nx i1 : Nat} {e1 f1 f2 : Int} {xs : List Int} {H : List (Nat × Nat × Nat)} {v : Value} (h1 : rS xs 0 0 16384 = (n, i1, e1)) (h2 : rS xs i1 e1 (n : Nat) = (K, i0, 0)) (hlt : j < K)
    (h : HeadT w W p2 p3 gr gs gz xs n K i0 j H a i v cnt z j2 f2 bx) (he : rS xs i 0 16384 = (cnt, j1, f1) ∧ rS xs j1 f1 (nx : Nat) = (z, j2, f2)) (hl : xs.length = nx) (hbad : ¬ (0 < cnt ∧ a + cnt ≤ n ∧ f2 = 0)) : storeF xs = none := by
  have hd : hd1 xs n a i = none := by
    unfold hd1
    rw [hl]
    simp only [he.1, he.2]
    rw [if_neg (fun hc => hbad ⟨by omega, by omega, hc.1⟩)]
  have hh : headsO xs n (j + 1) 0 i0 = none := by rw [headsO_snoc, h.got, Option.bind_some, hd]; rfl
  rw [storeF_eq h1 h2, headsO_none hh K (by omega)]
  rfl
theorem HeadS.two {cnt z i1 i2 bx : Nat} {e1 e2 : Int} (h : HeadS w W p2 p3 gr gs gz xs n K i0 j H a i v) (hj : j < K) (f1 : Fr (One gr) W W1) (r1 : Rdr W1 w.heap.size gr xs i1 e1) (hbx : bx = W1.heap.size)
    (f2 : Fr (One gr) (W1.alloc (.cells #[.int .i64 (a : Int), .int .i64 ((a : Int) + cnt), .slice none 0 0] 118)) W2) (r2 : Rdr W2 w.heap.size gr xs i2 e2) :
    W2.cell? ⟨gz, j, none⟩ = some (.int .i64 0) ∧ W2.frozen? ⟨gz, j, none⟩ = false ∧ HeadT w (W2.setCell ⟨gz, j, none⟩ (.int .i64 (z : Int))) p2 p3 gr gs gz xs n K i0 j H a i v cnt z i2 e2 bx := by
  subst hbx
  have hl := h.len
  obtain ⟨c0, t0⟩ := h.op.rd.ty
  have o1 := (h.op.read f1 r1).no (Fr.alloc (S := No) W1 (.cells #[.int .i64 (a : Int), .int .i64 ((a : Int) + cnt), .slice none 0 0] 118))
  have o2 := o1.read f2 r2
  have ch1 := (h.ch.step f1 (Ty.one t0) (by decide) (by decide)).no (Fr.alloc (S := No) W1 (.cells #[.int .i64 (a : Int), .int .i64 ((a : Int) + cnt), .slice none 0 0] 118))
  obtain ⟨c1, t1⟩ := o1.rd.ty
  have ch2 := ch1.step f2 (Ty.one t1) (by decide) (by decide)
  have s1 := (Ty.row f1 (Ty.one t0) h.sz (by decide)).below (below_alloc (Below.refl _ _) (.cells #[.int .i64 (a : Int), .int .i64 ((a : Int) + cnt), .slice none 0 0] 118))
  have s2 := Ty.row f2 (Ty.one t1) s1 (by decide)
  have bx2 := Ty.blk f2 (Ty.one t1) (heap_alloc_new W1 (.cells #[.int .i64 (a : Int), .int .i64 ((a : Int) + cnt), .slice none 0 0] 118)) (by decide)
  have hx : (nums .i64 (szs H ++ List.replicate (K - j) 0))[j]? = some (.int .i64 0) := by
    unfold nums
    rw [List.getElem?_map, List.getElem?_append_right (by unfold szs; rw [List.length_map]; omega)]
    unfold szs
    rw [List.length_map, hl, Nat.sub_self]
    have : 0 < K - j := by omega
    simp [List.getElem?_replicate, this]
  obtain ⟨k1, k2⟩ := s2.cell hx
  rw [Nat.zero_add] at k1 k2
  obtain ⟨s3, f3⟩ := s2.store j hj (.int .i64 (z : Int))
  rw [Nat.zero_add] at s3 f3
  have hT3 := Ty.win s2
  refine ⟨k1, k2, o2.step f3 hT3 (by decide) (fun i hi => (s2.at_ hi).1), h.got, ch2.step f3 hT3 (by decide) (by decide), ?_, Ty.blk f3 hT3 bx2 (by decide), fun hk => by have h9 := (h.ch.hdr.at_ hk).2.1; have h8 := f1.size; omega⟩
  have e : (nums .i64 (szs H ++ List.replicate (K - j) 0)).set j (.int .i64 (z : Int)) = nums .i64 (szs H ++ (z : Int) :: List.replicate (K - (j + 1)) 0) := by
    unfold nums
    rw [← List.map_set, List.set_append_right _ _ (by unfold szs; rw [List.length_map]; omega)]
    have : K - j = (K - (j + 1)) + 1 := by omega
    rw [this, List.replicate_succ]
    have h0 : j - (szs H).length = 0 := by unfold szs; rw [List.length_map]; omega
    rw [h0]
    rfl
  rw [e] at s3
  exact s3
end
/-- A region's post, where a panic is told by the world and three slots alone. -/
def Q40 (Q : Exit → Act → World → Prop) (p2 p3 : Nat) (ds : List Deferred) (PW : World → Prop) : Exit → Act → World → Prop
  | .panic c, a, w => c = [corruptP] ∧ a.tmps.getD 2 undef = .pointer (some ⟨p2, 0, none⟩) ∧ a.tmps.getD 3 undef = .pointer (some ⟨p3, 0, none⟩) ∧ a.defers = ds ∧ PW w
  | .normal, a, w => Q .normal a w
  | .exit i, a, w => Q (.exit i) a w
  | .goto t, a, w => Q (.goto t) a w
  | .ret, a, w => Q .ret a w
  | .outgrown, a, w => Q .outgrown a w
theorem Q40.back {Q : Exit → Act → World → Prop} {p2 p3 d : Nat} {ds : List Deferred} {PW : World → Prop} {c : List PanicEntry} {a : Act} {v : Value} {w : World} (h2 : d ≠ 2) (h3 : d ≠ 3) (h : Q40 Q p2 p3 ds PW (.panic c) (a.put (some d) v) w) : Q40 Q p2 p3 ds PW (.panic c) a w := by
  obtain ⟨k1, k2, k3, k4, k5⟩ := h
  refine ⟨k1, ?_, ?_, k4, k5⟩
  · rw [← k2]
    simp [Act.put, Array.getElem?_setIfInBounds, h2]
  · rw [← k3]
    simp [Act.put, Array.getElem?_setIfInBounds, h3]
theorem q40_mono {Q : Exit → Act → World → Prop} {p2 p3 : Nat} {ds : List Deferred} {PW : World → Prop} (h : ∀ a w, a.tmps.getD 2 undef = .pointer (some ⟨p2, 0, none⟩) → a.tmps.getD 3 undef = .pointer (some ⟨p3, 0, none⟩) → a.defers = ds → PW w → Q (.panic [corruptP]) a w) : ∀ e a w, Q40 Q p2 p3 ds PW e a w → Q e a w := fun e a w hq => by
  cases e with
  | panic c =>
    obtain ⟨rfl, k2, k3, k4, k5⟩ := hq
    exact h a w k2 k3 k4 k5
  | normal => exact hq
  | exit i => exact hq
  | goto t => exact hq
  | ret => exact hq
  | outgrown => exact hq
theorem good_pan (w : World) (base g i : Nat) (xs : List Int) (e : Int) (b : Bool) (hbad : ¬ (e = 0 ∧ b = true)) (h : Rdr w base g xs i e) : Calls Try.prog 86 #[.pointer (some ⟨g, 0, none⟩), .bool b] w fun e' w' => e' = .panicked [corruptP] ∧ w' = w :=
  (good_any w base g i xs e b h).mono fun e' w' h => by rwa [if_neg hbad] at h
theorem src_chunk (W : World) (x y : Int) (z : Value) (hz : z.oneCell' = true := by rfl) : Src Try.prog (W.alloc (.cells #[.int .i64 x, .int .i64 y, z] 118)) 3 (.slice (some ⟨W.heap.size, 0, none⟩) 1 1) 1 [.int .i64 x, .int .i64 y, z] :=
  Src.of_rd (rdv_lit_at W 118 [.int .i64 x, .int .i64 y, z] rfl) rfl (by
    intro u hu
    simp only [List.mem_cons, List.mem_nil_iff, or_false] at hu
    rcases hu with rfl | rfl | rfl
    · rfl
    · rfl
    · exact hz)
theorem HeadS.start {w W : World} {p2 p3 gr gs gz n K i0 : Nat} {xs : List Int} (h : OpS w W p2 p3 gr gs xs i0 0 (.slice none 0 0) n) (hgz : gz = W.heap.size) (hK : K ≤ 1048576 := by omega) : HeadS w (W.alloc (.cells (nums .i64 (List.replicate K 0)).toArray 3)).drew p2 p3 gr gs gz xs n K i0 0 [] 0 i0 (.slice none 0 0) := by
  have f : Fr No W (W.alloc (.cells (nums .i64 (List.replicate K 0)).toArray 3)).drew := Fr.of_No (below_drew (below_alloc (Below.refl _ _) _))
  refine ⟨h.no f, rfl, ChS.nil _ _, ?_⟩
  have h1 := lit_winT W 3 (nums .i64 (List.replicate K 0)) (by rw [nums_length, List.length_replicate]; omega)
  rw [nums_length, List.length_replicate] at h1
  rw [hgz]
  exact (h1.lower h.bel.size).below (below_drew (Below.refl _ _))
/-- The store is laid. -/
theorem OpS.start {w w1 w2 : World} {p2 p3 gr gs i1 n B : Nat} {e1 : Int} {xs : List Int} (hp2 : p2 = w.heap.size) (hp3 : p3 = w.heap.size + 1)
    (f1 : Fr No ((w.alloc (.cells #[.pointer none] 49)).alloc (.cells #[.int .i64 0] 29)) w1) (r1 : Rdr w1 B gr xs 0 0) (hB : w.heap.size ≤ B) (f2 : Fr (One gr) w1 w2) (r2 : Rdr w2 B gr xs i1 e1) (hgs : gs = w2.heap.size) :
    (w2.alloc (.cells #[.slice none 0 0, .int .i64 (n : Int)] 121)).cell? ⟨p2, 0, none⟩ = some (.pointer none) ∧ (w2.alloc (.cells #[.slice none 0 0, .int .i64 (n : Int)] 121)).frozen? ⟨p2, 0, none⟩ = false ∧
    OpS w ((w2.alloc (.cells #[.slice none 0 0, .int .i64 (n : Int)] 121)).setCell ⟨p2, 0, none⟩ (.pointer (some ⟨gs, 0, none⟩))) p2 p3 gr gs xs i1 e1 (.slice none 0 0) n := by
  subst hgs
  have b0 : Below w.heap.size w w1 := accNo (accAlloc (accAlloc (Below.refl _ _) (Nat.le_refl _) _) (Nat.le_refl _) _) (Nat.le_refl _) f1
  obtain ⟨c0, t0⟩ := r1.ty
  have x2 : ((w.alloc (.cells #[.pointer none] 49)).alloc (.cells #[.int .i64 0] 29)).heap[p2]? = some (.cells #[.pointer none] 49 (0, 0)) := by
    rw [hp2]
    exact blk_alloc (heap_alloc_new w _) _
  have x3 : ((w.alloc (.cells #[.pointer none] 49)).alloc (.cells #[.int .i64 0] 29)).heap[p3]? = some (.cells #[.int .i64 0] 29 (0, 0)) := by
    rw [hp3]
    have := heap_alloc_new (w.alloc (.cells #[.pointer none] 49)) (.cells #[.int .i64 0] 29)
    rwa [World.size_alloc] at this
  have y2 := blk_alloc (Ty.blk f2 (Ty.one t0) (f1.get x2 (fun h => h)) (by decide)) (.cells #[.slice none 0 0, .int .i64 (n : Int)] 121)
  have y3 := blk_alloc (Ty.blk f2 (Ty.one t0) (f1.get x3 (fun h => h)) (by decide)) (.cells #[.slice none 0 0, .int .i64 (n : Int)] 121)
  have ys := heap_alloc_new w2 (.cells #[.slice none 0 0, .int .i64 (n : Int)] 121)
  have yr := r2.below (below_alloc (Below.refl _ _) (.cells #[.slice none 0 0, .int .i64 (n : Int)] 121))
  have b1 : Below w.heap.size w (w2.alloc (.cells #[.slice none 0 0, .int .i64 (n : Int)] 121)) := accAlloc (acc b0 (Nat.le_refl _) f2 (fun j hj => by have hj' : j = gr := hj; have := r1.1; omega)) (Nat.le_refl _) _
  have hsz : w.heap.size ≤ w2.heap.size := Nat.le_trans b0.size f2.size
  generalize hX : w2.alloc (.cells #[.slice none 0 0, .int .i64 (n : Int)] 121) = X at *
  have f3 : Fr (One p2) X (X.setCell ⟨p2, 0, none⟩ (.pointer (some ⟨w2.heap.size, 0, none⟩))) := Fr.setCell _ _ _ rfl
  refine ⟨by simp [World.cell?, y2], by simp [World.frozen?, y2], acc b1 (Nat.le_refl _) f3 (fun j hj => by have hj' : j = p2 := hj; omega), by simp [World.setCell, Array.getElem?_modify, y2], Ty.blk f3 (Ty.one y2) y3 (by decide), Ty.blk f3 (Ty.one y2) ys (by decide), (Ty.rdr f3 (Ty.one y2) yr (by decide) (by decide)).lower hB, by omega, by omega, hsz⟩
end Go.Proofs.Ytchcimkmjoegdaa.C
namespace Go.Proofs.Ytchcimkmjoegdaa.C
open Go.RowKit Go.Proofs.YtchcimkmjoegdaaW.PrintWords Go.Proofs.YtchcimkmjoegdaaW.PrintMore Go.Proofs.Ytchcimkmjoegdaa.M
set_option linter.unusedVariables false
set_option linter.unusedSimpArgs false

/-- A range over the documents that does nothing. -/
theorem wp_rangeNone {g : Operand} {p0 p1 : Tmp} {id : Nat} {Q : Exit → Act → World → Prop} {a : Act} {w : World} {gb f t nb c : Nat} {A : Option Addr} {b : List Int}
    (hg : a.eval g = .func (.func 112) #[] #[.pointer (some ⟨gb, 0, none⟩)])
    (hbox : w.heap[gb]? = some (.cells #[.int .i64 (f : Int), .int .i64 (t : Int), .slice A nb c] 118 (0, 0)))
    (hr : RdV w A (nums .u8 b)) (hl : b.length = nb) (hb : Byt b) (h0 : A = none → c = 0) (hc : nb ≤ c) (hn : nb ≤ 140737488355328) (hft : f ≤ t) (ht : t ≤ 16384)
    (hdone : ∀ (D : Nat) (dl : List (List Ent)) (W : World), w.heap.size ≤ D → W.heap[D]? = some (.deferred (some [])) → chunkO b (t - f) = some dl → Fr No w W → Q .normal { a with defers := mkD D :: a.defers } W)
    (hpanic : ∀ (D : Nat) (W : World), w.heap.size ≤ D → W.heap[D]? = some (.deferred (some [])) → chunkO b (t - f) = none → Fr No w W → Q (.panic [corruptP]) { a with defers := mkD D :: a.defers } W) :
    (Code.rangeFunc g #[p0, p1] .skip (.block id .skip)).wp Try.prog Q a w := by
  refine wp_rangeDocs hg hbox hr hl hb h0 hc hn hft ht (fun _ W => Fr No w W) (fun _ _ => False) (fun _ X Y x hi hB _ hf => ?_) (fun _ X Y x hi _ _ _ => hi) (Fr.refl _ _) (fun x y => { tmps := (a.tmps.setIfInBounds p0 x).setIfInBounds p1 y, defers := [] }) (fun l x y W K hK => wpIn_skip hK)
    (fun l pre x W _ _ hi _ _ _ => wpIn_block (wpIn_skip ⟨KeepsOthers.refl _, Kp.refl _, hi⟩)) (fun D dl W hD hm hS hi => hdone D _ W hD hm hS hi) (fun D pre j W _ _ _ hx => hx.elim) (fun D pre W hD hm hS hi => hpanic D W hD hm hS hi)
  exact hi.trans hf (fun _ _ h => h) (fun i hlt h => by have h' : i = x := h; omega)
theorem Byt.drop {a : List Int} (ha : Byt a) (n : Nat) : Byt (a.drop n) := fun x hx => ha x (List.mem_of_mem_drop hx)
theorem rB_byt {xs : List Int} {i : Nat} {e m : Int} (hb : Byt xs) : Byt (rB xs i e m).1 ∧ (rB xs i e m).1.length ≤ xs.length := by
  unfold rB
  split
  · split
    · refine ⟨(hb.drop i).take _, ?_⟩
      simp only [List.length_take, List.length_drop]
      omega
    · exact ⟨fun x hx => (nomatch hx), Nat.zero_le _⟩
  · exact ⟨fun x hx => (nomatch hx), Nat.zero_le _⟩
theorem bodiesO_fine {xs : List Int} : ∀ {H : List (Nat × Nat × Nat)} {i : Nat} {C : List Chk} {D : List (List Ent)} {j : Nat}, bodiesO xs H i = some (C, D, j) → D = C.flatMap (fun c => (chunkO c.b (c.t - c.f)).getD []) ∧ ∀ c ∈ C, ∃ d, chunkO c.b (c.t - c.f) = some d
  | [], i, C, D, j, h => by
    rw [bodiesO] at h
    injection h with h
    injection h with h1 h2
    injection h2 with h2 _
    subst h1
    subst h2
    exact ⟨rfl, fun c hc => (nomatch hc)⟩
  | h0 :: H, i, C, D, j, h => by
    rw [bodiesO_cons, Option.bind_eq_some_iff] at h
    obtain ⟨q, h1, h2⟩ := h
    rw [Option.map_eq_some_iff] at h2
    obtain ⟨⟨C', D', j'⟩, h3, h4⟩ := h2
    injection h4 with h4 h5
    injection h5 with h5 _
    subst h4
    subst h5
    obtain ⟨k1, k2⟩ := bodiesO_fine h3
    have hq : chunkO q.1.1.b (q.1.1.t - q.1.1.f) = some q.1.2 := by
      unfold bd1 at h1
      simp only at h1
      split at h1
      · rw [Option.map_eq_some_iff] at h1
        obtain ⟨d, h6, h7⟩ := h1
        subst h7
        exact h6
      · cases h1
    refine ⟨by rw [List.flatMap_cons, hq, k1]; rfl, fun c hc => ?_⟩
    rcases List.mem_cons.1 hc with rfl | hc
    · exact ⟨_, hq⟩
    · exact k2 c hc
theorem storeF_heads {xs : List Int} {n i1 K i2 a i : Nat} {e1 : Int} {H : List (Nat × Nat × Nat)} (h1 : rS xs 0 0 16384 = (n, i1, e1)) (h2 : rS xs i1 e1 (n : Nat) = (K, i2, 0)) (h3 : headsO xs n K 0 i2 = some (H, a, i)) :
    storeF xs = if a = n then (bodiesO xs H i).bind fun r => if r.2.2 = xs.length ∧ okDs r.2.1 = true ∧ buildB r.2.1 = xs then some (r.1, r.2.1) else none else none := by
  rw [storeF_eq h1 h2, h3]
  rfl
/-- Behind j bodies. -/
structure BodS (w W : World) (p2 p3 gr gs gz : Nat) (xs : List Int) (n K : Nat) (H : List (Nat × Nat × Nat)) (i0 j : Nat) (P : List (Value × Chk)) (D : List (List Ent)) (i : Nat) (v : Value) (ms : List Nat) : Prop where
  op : OpS w W p2 p3 gr gs xs i 0 v n
  got : bodiesO xs (H.take j) i0 = some (P.map Prod.snd, D, i)
  ch : ChS W w.heap.size v (P ++ (H.drop j).map mk0)
  sz : Win W w.heap.size 3 1 (.slice (some ⟨gz, 0, none⟩) K K) K (nums .i64 (szs H))
  mks : Marks w W ms
  plen : P.length = j
  hlen : H.length = K
/-- A body was read and laid. -/
structure BodT (w W : World) (p2 p3 gr gs gz : Nat) (xs : List Int) (n K : Nat) (H : List (Nat × Nat × Nat)) (i0 j : Nat) (P : List (Value × Chk)) (D : List (List Ent)) (i : Nat) (v : Value) (ms : List Nat) (u : Value) (b : List Int) (f t i' : Nat) (e' : Int) : Prop where
  op : OpS w W p2 p3 gr gs xs i' e' v n
  got : bodiesO xs (H.take j) i0 = some (P.map Prod.snd, D, i)
  ch : ChS W w.heap.size v (P ++ (u, ⟨f, t, b⟩) :: (H.drop (j + 1)).map mk0)
  sz : Win W w.heap.size 3 1 (.slice (some ⟨gz, 0, none⟩) K K) K (nums .i64 (szs H))
  mks : Marks w W ms
  plen : P.length = j
  hlen : H.length = K
section
variable {w W W1 W2 : World} {p2 p3 gr gs gz n K i0 j i i' f t z gv off cv : Nat} {xs : List Int} {H : List (Nat × Nat × Nat)} {P : List (Value × Chk)} {D : List (List Ent)} {v u : Value} {ms : List Nat} {b : List Int} {e' : Int}
theorem BodS.no (h : BodS w W p2 p3 gr gs gz xs n K H i0 j P D i v ms) (fr : Fr No W W1) : BodS w W1 p2 p3 gr gs gz xs n K H i0 j P D i v ms :=
  ⟨h.op.no fr, h.got, h.ch.no fr, h.sz.below fr.no, h.mks.fr fr (Ty.none _ 0), h.plen, h.hlen⟩
theorem BodT.no (h : BodT w W p2 p3 gr gs gz xs n K H i0 j P D i v ms u b f t i' e') (fr : Fr No W W1) : BodT w W1 p2 p3 gr gs gz xs n K H i0 j P D i v ms u b f t i' e' :=
  ⟨h.op.no fr, h.got, h.ch.no fr, h.sz.below fr.no, h.mks.fr fr (Ty.none _ 0), h.plen, h.hlen⟩
theorem BodS.drop (h : BodS w W p2 p3 gr gs gz xs n K H i0 j P D i v ms) (hh : H[j]? = some (f, t, z)) : H.drop j = (f, t, z) :: H.drop (j + 1) := by
  obtain ⟨h1, h2⟩ := List.getElem?_eq_some_iff.1 hh
  rw [List.drop_eq_getElem_cons h1, h2]
theorem BodS.size (h : BodS w W p2 p3 gr gs gz xs n K H i0 j P D i v ms) (hh : H[j]? = some (f, t, z)) : W.cell? ⟨gz, j, none⟩ = some (.int .i64 (z : Int)) := by
  have hx : (nums .i64 (szs H))[j]? = some (.int .i64 (z : Int)) := by
    unfold nums szs
    rw [List.getElem?_map, List.getElem?_map, hh]
    rfl
  have := (h.sz.cell hx).1
  rwa [Nat.zero_add] at this
theorem BodS.lay (h : BodS w W p2 p3 gr gs gz xs n K H i0 j P D i (.slice (some ⟨gv, off, none⟩) K cv) ms) (hh : H[j]? = some (f, t, z)) (fr : Fr (One gr) W W1) (hr : Rdr W1 w.heap.size gr xs i' e') (hu : Acc W1 W.heap.size u b) :
    W1.cell? ⟨gv, off + j * 3 + 2, none⟩ = some (.slice none 0 0) ∧ W1.frozen? ⟨gv, off + j * 3 + 2, none⟩ = false ∧
    (W1.setCell ⟨gv, off + j * 3 + 2, none⟩ u).cell? ⟨gv, off + j * 3, none⟩ = some (.int .i64 (f : Int)) ∧ (W1.setCell ⟨gv, off + j * 3 + 2, none⟩ u).cell? ⟨gv, off + j * 3 + 1, none⟩ = some (.int .i64 (t : Int)) ∧ (W1.setCell ⟨gv, off + j * 3 + 2, none⟩ u).cell? ⟨gv, off + j * 3 + 2, none⟩ = some u ∧
    BodT w (W1.setCell ⟨gv, off + j * 3 + 2, none⟩ u) p2 p3 gr gs gz xs n K H i0 j P D i (.slice (some ⟨gv, off, none⟩) K cv) ms u b f t i' e' := by
  rw [Nat.add_assoc off (j * 3) 2, Nat.add_assoc off (j * 3) 1]
  obtain ⟨cs, hc⟩ := h.op.rd.ty
  have hT := Ty.one hc
  have o1 := h.op.read fr hr
  have c1 := h.ch.step fr hT (by decide) (by decide)
  rw [h.drop hh, List.map_cons] at c1
  have hjl : j < H.length := (List.getElem?_eq_some_iff.1 hh).1
  have hlen : P.length + (((H.drop (j + 1)).map mk0).length + 1) = K := by
    rw [List.length_map, List.length_drop, h.plen]
    have := h.hlen
    omega
  obtain ⟨c2, f2⟩ := ChS.put (u0 := .slice none 0 0) (b0 := []) c1 hlen (Win.lower hu h.op.bel.size)
  have hp := h.plen
  rw [hp] at c2 f2
  have hT2 := Ty.win c1.hdr
  have hcl : (P ++ mk0 (f, t, z) :: (H.drop (j + 1)).map mk0).length = K := by rw [List.length_append, List.length_cons]; exact hlen
  obtain ⟨_, _, k5, k6⟩ := c1.cells (j := j) hcl (by rw [List.getElem?_append_right (by omega), hp, Nat.sub_self]; rfl)
  obtain ⟨⟨m1, _⟩, ⟨m2, _⟩, m3, _⟩ := c2.cells (j := j) (by rw [List.length_append, List.length_cons]; exact hlen) (by rw [List.getElem?_append_right (by omega), hp, Nat.sub_self]; rfl)
  rw [Nat.add_assoc] at k5 k6 m2 m3
  refine ⟨k5, k6, m1, m2, m3, ⟨o1.step f2 hT2 (by decide) (fun k hk => ?_), h.got, c2, Ty.row f2 hT2 (Ty.row fr hT h.sz (by decide)) (by decide), (h.mks.fr fr hT).fr f2 hT2, h.plen, h.hlen⟩⟩
  have hd := c1.hdr
  rw [hcl] at hd
  exact (hd.at_ hk).1
/-- The mark of this round's loop. -/
theorem BodT.mark {Dm : Nat} (h : BodT w W p2 p3 gr gs gz xs n K H i0 j P D i v ms u b f t i' e') (fr : Fr No W W1) (hD : W.heap.size ≤ Dm) (hm : W1.heap[Dm]? = some (.deferred (some []))) : Marks w W1 (Dm :: ms) :=
  (h.mks.fr fr (Ty.none _ 0)).push hm (Nat.le_trans h.op.bel.size hD) (fun x hx e => by
    subst e
    have := blk_lt (h.mks.at_ x hx)
    omega)
theorem BodT.next {Dm : Nat} {dl : List (List Ent)} (h : BodT w W p2 p3 gr gs gz xs n K H i0 j P D i v ms u b f t i' 0) (hh : H[j]? = some (f, t, z)) (hB : rB xs i 0 (z : Nat) = (b, i', 0)) (hch : chunkO b (t - f) = some dl) (fr : Fr No W W1) (hD : W.heap.size ≤ Dm) (hm : W1.heap[Dm]? = some (.deferred (some []))) :
    BodS w W1 p2 p3 gr gs gz xs n K H i0 (j + 1) (P ++ [(u, ⟨f, t, b⟩)]) (D ++ dl) i' v (Dm :: ms) := by
  refine ⟨h.op.no fr, ?_, ?_, h.sz.below fr.no, h.mark fr hD hm, by rw [List.length_append, h.plen]; rfl, h.hlen⟩
  · rw [List.take_add_one, hh]
    show bodiesO xs (H.take j ++ [(f, t, z)]) i0 = _
    rw [bodiesO_snoc, h.got, Option.bind_some]
    unfold bd1
    simp only [hB, if_true, hch, Option.map_some]
    simp
  · have := h.ch.no fr
    rw [List.append_assoc]
    exact this
theorem BodT.bad {e1 : Int} {a i1 i2 : Nat} (h : BodT w W p2 p3 gr gs gz xs n K H i0 j P D i v ms u b f t i' e') (h1 : rS xs 0 0 16384 = (n, i1, e1)) (h2 : rS xs i1 e1 (n : Nat) = (K, i2, 0)) (h3 : headsO xs n K 0 i2 = some (H, a, i0)) (hh : H[j]? = some (f, t, z)) (hB : rB xs i 0 (z : Nat) = (b, i', e')) (hbad : e' ≠ 0 ∨ chunkO b (t - f) = none) : storeF xs = none := by
  have hn : bodiesO xs (H.take (j + 1)) i0 = none := by
    rw [List.take_add_one, hh]
    show bodiesO xs (H.take j ++ [(f, t, z)]) i0 = _
    rw [bodiesO_snoc, h.got, Option.bind_some]
    have : bd1 xs (f, t, z) i = none := by
      unfold bd1
      simp only [hB]
      rcases hbad with hb | hb
      · rw [if_neg hb]
      · split
        · rw [hb]; rfl
        · rfl
    rw [this]
    rfl
  have hn2 : bodiesO xs H i0 = none := by
    have := bodiesO_none (T := H.drop (j + 1)) hn
    rwa [List.take_append_drop] at this
  rw [storeF_heads h1 h2 h3, hn2]
  split <;> rfl
end
end Go.Proofs.Ytchcimkmjoegdaa.C
