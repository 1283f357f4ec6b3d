/- A document of its own memory; what an iterator does between two rounds, what a round keeps. Conditions: as each theorem states. | The states of the iterator over a chunk's documents (112): between numbers, between entries, between documents. Conditions: as each theorem states. | The iterator over a chunk's documents (112). Conditions: as the theorem states. | The law of a range over a chunk's documents. Conditions: as the theorem states. | Open's deferred closure (85): it takes back corrupt, and nothing else. Conditions: as each theorem states. (Several texts of mine laid into one by prune.py.) -/
import Derived.Test.YtchcimkmjoegdaaSkC5
namespace Go.Proofs.Ytchcimkmjoegdaa.C
open Go.RowKit Go.Proofs.YtchcimkmjoegdaaW.PrintWords Go.Proofs.YtchcimkmjoegdaaW.PrintMore Go.Proofs.Ytchcimkmjoegdaa.M
set_option linter.unusedVariables false
set_option linter.unusedSimpArgs false

theorem info2 : (Try.prog.info? 2).map (fun i => (i.zero, i.size, i.bytes)) = some (some (.int .i64 0), 1, 8) := by kernel_rfl
theorem info134 : (Try.prog.info? 134).map (fun i => (i.zero, i.size, i.bytes)) = some (some (.agg #[.string ByteArray.empty, .string ByteArray.empty, .slice none 0 0]), 3, 56) := by kernel_rfl
theorem ent3 (p : Value × Ent) : (entCells p).length = 3 := rfl
/-- A document of its own memory. -/
structure DocW (W : World) (B : Nat) (v : Value) (D : List (Value × Ent)) : Prop where
  hdr : Win W B 134 3 v D.length (D.flatMap entCells)
  part : ∀ p ∈ D, Win W B 2 1 p.1 p.2.ns.length (nums .i64 p.2.ns)
  sep : ∀ (i j : Nat) (p q : Value × Ent) (k : Nat), i ≠ j → D[i]? = some p → D[j]? = some q → At p.1 k → ¬ At q.1 k
section
variable {W W1 : World} {B B' g : Nat} {v v1 : Value} {D : List (Value × Ent)}
theorem DocW.nil (W : World) (B : Nat) : DocW W B (.slice none 0 0) [] := ⟨Win.nil _ _ _ _, fun p hp => (nomatch hp), fun i j p q k _ h => (by simp at h)⟩
theorem DocW.lower (h : DocW W B v D) (hb : B' ≤ B) : DocW W B' v D := ⟨h.hdr.lower hb, fun p hp => (h.part p hp).lower hb, h.sep⟩
theorem DocW.below (h : DocW W B v D) (hb : Below W.heap.size W W1) : DocW W1 B v D := ⟨h.hdr.below hb, fun p hp => (h.part p hp).below hb, h.sep⟩
/-- A block of another type turned. -/
theorem DocW.one {cs : Array Value} {t : Nat} (h : DocW W B v D) (f : Fr (One g) W W1) (hg : W.heap[g]? = some (.cells cs t (0, 0))) (h1 : t ≠ 134) (h2 : t ≠ 2) : DocW W1 B v D :=
  ⟨h.hdr.fr f (fun k hk hs => by have hs' : k = g := hs; subst hs'; exact h1 (h.hdr.ne_type hk hg).symm), fun p hp => (h.part p hp).fr f (fun k hk hs => by have hs' : k = g := hs; subst hs'; exact h2 ((h.part p hp).ne_type hk hg).symm), h.sep⟩
theorem DocW.push {u : Value} {e : Ent} (h : DocW W B v D) (hu : Win W B 2 1 u e.ns.length (nums .i64 e.ns)) (hs : ∀ p ∈ D, ∀ k, At p.1 k → ¬ At u k)
    (g1 : Win W1 B 134 3 v1 (D.length + 1) (D.flatMap entCells ++ entCells (u, e))) (g3 : Fr (At v) W W1) : DocW W1 B v1 (D ++ [(u, e)]) := by
  have hmv : ∀ {x : Value} {n : Nat} {xs : List Value}, Win W B 2 1 x n xs → Win W1 B 2 1 x n xs := fun hx => hx.fr g3 (fun k hk hv => win_apart hx h.hdr (by decide) hk hv)
  refine ⟨by rw [List.length_append, List.flatMap_append]; simpa using g1, fun p hp => ?_, fun i j p q k hij hi hj hk => ?_⟩
  · rcases List.mem_append.1 hp with hp | hp
    · exact hmv (h.part p hp)
    · simp only [List.mem_cons, List.mem_nil_iff, or_false] at hp
      subst hp
      exact hmv hu
  · rcases snoc_get hi with ⟨hi1, hi2⟩ | ⟨hi1, rfl⟩
    · rcases snoc_get hj with ⟨hj1, hj2⟩ | ⟨hj1, rfl⟩
      · exact h.sep i j p q k hij hi2 hj2 hk
      · exact hs p (List.mem_of_getElem? hi2) k hk
    · rcases snoc_get hj with ⟨hj1, hj2⟩ | ⟨hj1, rfl⟩
      · exact fun hq => hs q (List.mem_of_getElem? hj2) k hq hk
      · omega
theorem DocW.docR {A : Option Addr} {n c : Nat} (h : DocW W B (.slice A n c) D) (ho : okD (D.map Prod.snd) = true) (hi : ∀ e ∈ D.map Prod.snd, I64 e.ns) : DocR W A n c D ∧ n ≤ 64 := by
  unfold okD at ho
  rw [Bool.and_eq_true, decide_eq_true_eq, List.all_eq_true, List.length_map] at ho
  obtain ⟨A', c', e, hc⟩ := h.hdr.shape
  injection e with e1 e2 e3
  subst e1; subst e2; subst e3
  refine ⟨⟨RdV.of_win h.hdr, rfl, hc, by omega, fun p hp => ?_⟩, ho.1⟩
  have hm : p.2 ∈ D.map Prod.snd := List.mem_map.2 ⟨p, hp, rfl⟩
  obtain ⟨k1, k2, k3⟩ := okE_iff.1 (ho.2 _ hm)
  obtain ⟨A2, c2, e2, hc2⟩ := (h.part p hp).shape
  have hw := h.part p hp
  rw [e2] at hw
  exact ⟨A2, c2, e2, hc2, RdV.of_win hw, hi _ hm, by omega, by omega, by omega⟩
end
/-- What an iterator does between two rounds: new blocks; its reader turns. -/
def Abd (B : Nat) (I : World → Prop) : Prop := ∀ (W W' : World) (g : Nat), I W → B ≤ g → (∀ o, W.heap[g]? = some o → o.isCells = false ∨ ∃ cs m, o = .cells cs 108 m) → Fr (One g) W W' → I W'
theorem Abd.no {B : Nat} {I : World → Prop} (h : Abd B I) {W W' : World} (hi : I W) (hB : B ≤ W.heap.size) (f : Fr No W W') : I W' :=
  h W W' W.heap.size hi hB (fun o ho => by rw [Array.getElem?_eq_none (Nat.le_refl _)] at ho; cases ho) (f.mono (fun _ _ h => h.elim))
theorem Abd.put {B : Nat} {I : World → Prop} (h : Abd B I) {W : World} {l : Nat} {o : Obj} (o' : Obj) (hi : I W) (hB : B ≤ l) (hl : W.heap[l]? = some o) (ho : o.isCells = false) : I (W.putObj l o') :=
  h W _ l hi hB (fun x hx => by rw [hl] at hx; cases hx; exact .inl ho) ⟨rfl, rfl, rfl, by simp, fun k _ hk => World.putObj_heap_other hk⟩
/-- What a round keeps for the iterator. -/
def Kp (W W' : World) : Prop := W.heap.size ≤ W'.heap.size ∧ ∀ (k : Nat) (cs : Array Value) (t : Nat) (m : Nat × Nat), (t = 5 ∨ t = 108 ∨ t = 118) → W.heap[k]? = some (.cells cs t m) → W'.heap[k]? = some (.cells cs t m)
theorem Kp.refl (W : World) : Kp W W := ⟨Nat.le_refl _, fun _ _ _ _ _ h => h⟩
theorem Kp.trans {a b c : World} (h : Kp a b) (k : Kp b c) : Kp a c := ⟨Nat.le_trans h.1 k.1, fun i cs t m ht hi => k.2 i cs t m ht (h.2 i cs t m ht hi)⟩
theorem Kp.put {W : World} {l : Nat} {o : Obj} (o' : Obj) (hl : W.heap[l]? = some o) (ho : o.isCells = false) : Kp W (W.putObj l o') :=
  ⟨by simp, fun k cs t m _ hk => by
    by_cases e : k = l
    · subst e; rw [hl] at hk; cases hk; cases ho
    · exact (World.putObj_heap_other e).trans hk⟩
theorem Kp.fr {S : Nat → Prop} {W W' : World} (f : Fr S W W') (hS : ∀ k cs t m, S k → W.heap[k]? = some (.cells cs t m) → t ≠ 5 ∧ t ≠ 108 ∧ t ≠ 118) : Kp W W' :=
  ⟨f.size, fun k cs t m ht hk => f.get hk (fun hs => by have := hS k cs t m hs hk; rcases ht with h | h | h <;> simp [h] at this)⟩
theorem Rdr.kp {W W' : World} {base g i : Nat} {xs : List Int} {e : Int} (h : Rdr W base g xs i e) (k : Kp W W') : Rdr W' base g xs i e := by
  obtain ⟨h1, h2, v, h3, h4⟩ := h
  refine ⟨h1, h2, v, k.2 g _ _ _ (.inr (.inl rfl)) h3, h4.move fun j hj _ => ?_⟩
  obtain ⟨_, _, cur, hc⟩ := h4.at_ hj
  rw [hc]
  exact k.2 j _ _ _ (.inl rfl) hc
theorem Rdr.ty {W : World} {base g i : Nat} {xs : List Int} {e : Int} (h : Rdr W base g xs i e) : ∃ cs, W.heap[g]? = some (.cells cs 108 (0, 0)) := by
  obtain ⟨h1, h2, v, h3, h4⟩ := h
  exact ⟨_, h3⟩
/-- The reader moves on: the iterator's step. -/
theorem Abd.rd {B base g i : Nat} {I : World → Prop} {W W' : World} {xs : List Int} {e : Int} (h : Abd B I) (hi : I W) (hr : Rdr W base g xs i e) (hB : B ≤ base) (f : Fr (One g) W W') : I W' :=
  h W W' g hi (Nat.le_trans hB hr.1) (fun o ho => by obtain ⟨cs, hc⟩ := hr.ty; rw [hc] at ho; cases ho; exact .inr ⟨cs, _, rfl⟩) f
/-- A row of numbers, a row of entries, a box of an entry turned: the reader stays. -/
theorem Rdr.stay {S : Nat → Prop} {W W' : World} {base g i : Nat} {xs : List Int} {e : Int} (h : Rdr W base g xs i e) (f : Fr S W W') (hS : ∀ k, S k → ∃ cs t, W.heap[k]? = some (.cells cs t (0, 0)) ∧ t ≠ 5 ∧ t ≠ 108) : Rdr W' base g xs i e := by
  refine h.fr f (fun hs => ?_) (fun k cur hs hc => ?_)
  · obtain ⟨cs, t, h1, _, h2⟩ := hS g hs
    obtain ⟨cs', h3⟩ := h.ty
    rw [h1] at h3
    injection h3 with h3
    injection h3 with _ h3
    exact h2 h3
  · obtain ⟨cs, t, h1, h2, _⟩ := hS k hs
    rw [h1] at hc
    injection hc with hc
    injection hc with _ hc
    exact h2 hc
/-! ### pure facts on what is read -/
theorem rT_len {xs : List Int} {i : Nat} {e m : Int} (hm : 0 ≤ m) : ((rT xs i e m).1.length : Int) ≤ m := by
  unfold rT
  split
  · split
    · simpa using hm
    · split
      · rename_i h
        simp only [List.length_take]
        omega
      · simpa using hm
  · simpa using hm
theorem strOfNums_size (l : List Int) : (strOfNums l).size = l.length := by
  unfold strOfNums
  simp [ByteArray.size]
theorem entR_fine (xs : List Int) (p : Nat × Int) : okE (entR xs p).1 = true ∧ I64 (entR xs p).1.ns := by
  constructor
  · refine okE_iff.2 ⟨?_, ?_, ?_⟩
    · show (strOfNums _).size ≤ 24
      rw [strOfNums_size]
      have := rT_len (xs := xs) (i := p.1) (e := p.2) (m := 24) (by decide)
      omega
    · show (strOfNums _).size ≤ 4096
      rw [strOfNums_size]
      have := rT_len (xs := xs) (i := (rT xs p.1 p.2 24).2.1) (e := (rT xs p.1 p.2 24).2.2) (m := 4096) (by decide)
      omega
    · show (numsR xs _ _).1.length ≤ 4
      rw [numsR_len]
      have := rS_max (ys := xs) (i := (rT xs (rT xs p.1 p.2 24).2.1 (rT xs p.1 p.2 24).2.2 4096).2.1) (e := (rT xs (rT xs p.1 p.2 24).2.1 (rT xs p.1 p.2 24).2.2 4096).2.2) (m := 4) (by decide)
      omega
  · exact numsR_64 xs _ _
theorem entsO_fine {xs : List Int} : ∀ {n i : Nat} {d : List Ent} {j : Nat}, entsO xs n i = some (d, j) → d.length = n ∧ ∀ e ∈ d, okE e = true ∧ I64 e.ns
  | 0, i, d, j, h => by
    rw [entsO] at h
    injection h with h
    injection h with h1 h2
    subst h1
    exact ⟨rfl, fun e he => nomatch he⟩
  | n + 1, i, d, j, h => by
    rw [entsO] at h
    skip
    split at h
    · rw [Option.map_eq_some_iff] at h
      obtain ⟨⟨d', j'⟩, h1, h2⟩ := h
      injection h2 with h2 h3
      subst h2
      obtain ⟨k1, k2⟩ := entsO_fine h1
      refine ⟨by rw [List.length_cons, k1], fun e he => ?_⟩
      rcases List.mem_cons.1 he with rfl | he
      · exact entR_fine xs (i, 0)
      · exact k2 e he
    · cases h
theorem docO_fine {xs : List Int} {i : Nat} {d : List Ent} {j : Nat} (h : docO xs i = some (d, j)) : okD d = true ∧ ∀ e ∈ d, I64 e.ns := by
  unfold docO at h
  simp only at h
  split at h
  · obtain ⟨h1, h2⟩ := entsO_fine h
    refine ⟨?_, fun e he => (h2 e he).2⟩
    unfold okD
    rw [Bool.and_eq_true, decide_eq_true_eq, List.all_eq_true]
    have := rS_max (ys := xs) (i := i) (e := 0) (m := 64) (by decide)
    exact ⟨by omega, fun e he => (h2 e he).1⟩
  · cases h
theorem docsO_fine {xs : List Int} : ∀ {n i : Nat} {D : List (List Ent)} {j : Nat}, docsO xs n i = some (D, j) → D.length = n ∧ ∀ d ∈ D, okD d = true ∧ ∀ e ∈ d, I64 e.ns
  | 0, i, D, j, h => by
    rw [docsO] at h
    injection h with h
    injection h with h1 h2
    subst h1
    exact ⟨rfl, fun e he => nomatch he⟩
  | n + 1, i, D, j, h => by
    rw [docsO, Option.bind_eq_some_iff] at h
    obtain ⟨⟨d, j1⟩, h1, h2⟩ := h
    rw [Option.map_eq_some_iff] at h2
    obtain ⟨⟨D', j'⟩, h2, h3⟩ := h2
    injection h3 with h3 h4
    subst h3
    obtain ⟨k1, k2⟩ := docsO_fine h2
    refine ⟨by rw [List.length_cons, k1], fun e he => ?_⟩
    rcases List.mem_cons.1 he with rfl | he
    · exact docO_fine h1
    · exact k2 e he
theorem docsO_take {xs : List Int} : ∀ {n k i : Nat} {D : List (List Ent)} {j : Nat}, docsO xs n i = some (D, j) → k ≤ n → ∃ j', docsO xs k i = some (D.take k, j')
  | n, 0, i, D, j, h, hk => ⟨i, by rw [docsO, List.take_zero]⟩
  | 0, k + 1, i, D, j, h, hk => by omega
  | n + 1, k + 1, i, D, j, h, hk => by
    rw [docsO, Option.bind_eq_some_iff] at h
    obtain ⟨⟨d, j1⟩, h1, h2⟩ := h
    rw [Option.map_eq_some_iff] at h2
    obtain ⟨⟨D', j'⟩, h2, h3⟩ := h2
    injection h3 with h3 h4
    subst h3
    obtain ⟨j2, h5⟩ := docsO_take (k := k) h2 (by omega)
    refine ⟨j2, ?_⟩
    rw [docsO, h1, Option.bind_some, h5]
    rfl
end Go.Proofs.Ytchcimkmjoegdaa.C
namespace Go.Proofs.Ytchcimkmjoegdaa.C
open Go.RowKit Go.Proofs.YtchcimkmjoegdaaW.PrintWords Go.Proofs.YtchcimkmjoegdaaW.PrintMore Go.Proofs.Ytchcimkmjoegdaa.M
set_option linter.unusedVariables false
set_option linter.unusedSimpArgs false

/-- Between two numbers of an entry: k to go, ns read. -/
structure NumS (W0 W : World) (B g : Nat) (b : List Int) (K : Nat) (p0 : Nat × Int) (bx : Nat) (sf st : ByteArray) (k : Nat) (u : Value) (ns : List Int) (i : Nat) (e : Int) : Prop where
  fr : Fr (One g) W0 W
  rd : Rdr W B g b i e
  box : W.heap[bx]? = some (.cells #[.string sf, .string st, u] 134 (0, 0))
  hb : W0.heap.size ≤ bx
  row : Win W W0.heap.size 2 1 u ns.length (nums .i64 ns)
  eq : numsR b K p0 = (ns ++ (numsR b k (i, e)).1, (numsR b k (i, e)).2)
section
variable {W0 W W1 W2 : World} {B g K bx k i : Nat} {b ns : List Int} {p0 : Nat × Int} {sf st : ByteArray} {u u1 : Value} {e : Int}
theorem NumS.cells (h : NumS W0 W B g b K p0 bx sf st k u ns i e) : W.cell? ⟨bx, 0, none⟩ = some (.string sf) ∧ W.cell? ⟨bx, 1, none⟩ = some (.string st) ∧ W.cell? ⟨bx, 2, none⟩ = some u ∧ W.frozen? ⟨bx, 2, none⟩ = false := by
  have := h.box
  simp [World.cell?, World.frozen?, this]
theorem NumS.ne (h : NumS W0 W B g b K p0 bx sf st k u ns i e) : bx ≠ g := fun hs => by
  obtain ⟨cs, hc⟩ := h.rd.ty
  have := h.box
  rw [hs, hc] at this
  injection this with this
  injection this with _ this
  exact absurd this (by decide)
theorem NumS.len (h : NumS W0 W B g b K p0 bx sf st k u ns i e) : ns.length + k = K := by
  have := congrArg (fun q => q.1.length) h.eq
  simp only [List.length_append, numsR_len] at this
  omega
theorem NumS.last (h : NumS W0 W B g b K p0 bx sf st 0 u ns i e) : numsR b K p0 = (ns, i, e) := by
  have := h.eq
  rw [numsR] at this
  simpa using this
theorem NumS.no (h : NumS W0 W B g b K p0 bx sf st k u ns i e) (f : Fr No W W1) : NumS W0 W1 B g b K p0 bx sf st k u ns i e :=
  ⟨h.fr.trans f (fun _ _ h => h) (fun _ _ h => h.elim), h.rd.below f.no, f.get h.box (fun h => h), h.hb, h.row.below f.no, h.eq⟩
/-- Behind the read of a number: the box stands. -/
theorem NumS.box1 (h : NumS W0 W B g b K p0 bx sf st k u ns i e) (f : Fr (One g) W W1) : W1.heap[bx]? = some (.cells #[.string sf, .string st, u] 134 (0, 0)) := f.get h.box (fun hs => h.ne hs)
theorem NumS.row1 (h : NumS W0 W B g b K p0 bx sf st k u ns i e) (f : Fr (One g) W W1) : Win W1 W0.heap.size 2 1 u ns.length (nums .i64 ns) := by
  obtain ⟨cs, hc⟩ := h.rd.ty
  exact h.row.fr f (fun j hj hs => by
    have hs' : j = g := hs
    subst hs'
    exact absurd (h.row.ne_type hj hc) (by decide))
/-- Behind the append: the box stands. -/
theorem NumS.box2 (h : NumS W0 W B g b K p0 bx sf st k u ns i e) (f : Fr (One g) W W1) (f2 : Fr (At u) W1 W2) : W2.heap[bx]? = some (.cells #[.string sf, .string st, u] 134 (0, 0)) := f2.get (h.box1 f) (fun hs => absurd ((h.row1 f).ne_type hs (h.box1 f)) (by decide))
theorem boxc {W : World} {bx : Nat} {a c u : Value} (h : W.heap[bx]? = some (.cells #[a, c, u] 134 (0, 0))) : W.cell? ⟨bx, 2, none⟩ = some u ∧ W.frozen? ⟨bx, 2, none⟩ = false := by
  simp [World.cell?, World.frozen?, h]
theorem NumS.step (h : NumS W0 W B g b K p0 bx sf st (k + 1) u ns i e) (f : Fr (One g) W W1) (hr : Rdr W1 B g b (rU b i e).2.1 (rU b i e).2.2)
    (g1 : Win W2 W0.heap.size 2 1 u1 (ns.length + 1) (nums .i64 ns ++ [.int .i64 (unzig (rU b i e).1)])) (f2 : Fr (At u) W1 W2) :
    NumS W0 (W2.setCell ⟨bx, 2, none⟩ u1) B g b K p0 bx sf st k u1 (ns ++ [unzig (rU b i e).1]) (rU b i e).2.1 (rU b i e).2.2 := by
  have hb2 := h.box2 f f2
  have hF : Fr (One bx) W2 (W2.setCell ⟨bx, 2, none⟩ u1) := Fr.setCell W2 _ _ rfl
  have hrow := h.row1 f
  refine ⟨?_, ?_, ?_, h.hb, ?_, ?_⟩
  · refine ((h.fr.trans f (fun _ _ h => h) (fun _ _ h => h)).trans f2 (fun _ _ h => h) (fun j hj hs => ?_)).trans hF (fun _ _ h => h) (fun j hj hs => ?_)
    · have := (hrow.at_ hs).1; omega
    · have hs' : j = bx := hs
      have := h.hb
      omega
  · refine (hr.stay f2 (fun j hj => ?_)).stay hF (fun j hj => ?_)
    · obtain ⟨_, _, cur, hc⟩ := hrow.at_ hj
      exact ⟨_, _, hc, by decide, by decide⟩
    · have hj' : j = bx := hj
      subst hj'
      exact ⟨_, _, hb2, by decide, by decide⟩
  · simp [World.setCell, Array.getElem?_modify, hb2]
  · rw [List.length_append, ← nums_snoc]
    exact g1.fr hF (fun j hj hs => by
      have hs' : j = bx := hs
      subst hs'
      exact absurd (g1.ne_type hj hb2) (by decide))
  · have := h.eq
    rw [numsR] at this
    simpa using this
end
theorem entR_eq {b : List Int} {ii i2 i3 i4 j K : Nat} {e2 e3 e4 e : Int} {s1 s2 ns : List Int} (h1 : rT b ii 0 24 = (s1, i2, e2)) (h2 : rT b i2 e2 4096 = (s2, i3, e3)) (h3 : rS b i3 e3 4 = (K, i4, e4)) (h4 : numsR b K (i4, e4) = (ns, j, e)) : entR b (ii, 0) = (⟨strOfNums s1, strOfNums s2, ns⟩, j, e) := by
  unfold entR
  simp only [h1, h2, h3, h4]
theorem doc_bound {n : Nat} (h : n ≤ 64) : n + 1 ≤ maxLen ∧ (n + 1 + (n + 1) / 4 + 700) * 56 ≤ 281474976710656 := by
  constructor
  · simp only [maxLen]; omega
  · omega
theorem nums_bound {n : Nat} (h : n ≤ 64) : n + 1 ≤ maxLen ∧ (n + 1 + (n + 1) / 4 + 700) * 8 ≤ 281474976710656 := by
  constructor
  · simp only [maxLen]; omega
  · omega
theorem src_one (W : World) (t : TypeId) (x : Value) (hx : x.oneCell' = true) : Src Try.prog (W.alloc (.cells #[x] t)) 1 (.slice (some ⟨W.heap.size, 0, none⟩) 1 1) 1 [x] :=
  Src.of_rd (rdv_lit_at W t [x] rfl) rfl (by intro u hu; simp at hu; rw [hu]; exact hx)
theorem box_kept {W W' : World} {gb B g i : Nat} {cs : Array Value} {b : List Int} {e : Int} (h : W.heap[gb]? = some (.cells cs 118 (0, 0))) (hr : Rdr W B g b i e) (f : Fr (One g) W W') : W'.heap[gb]? = some (.cells cs 118 (0, 0)) := by
  refine f.get h (fun hs => ?_)
  have hs' : gb = g := hs
  subst hs'
  obtain ⟨cs', hc⟩ := hr.ty
  rw [h] at hc
  injection hc with hc
  injection hc with _ hc
  exact absurd hc (by decide)
/-- Between two entries of a document: n to go, D read. Wr: where the document was begun. -/
structure EntS (Wr W : World) (B g : Nat) (b : List Int) (N i1 n : Nat) (v : Value) (D : List (Value × Ent)) (i : Nat) : Prop where
  fr : Fr (One g) Wr W
  rd : Rdr W B g b i 0
  doc : DocW W Wr.heap.size v D
  eq : entsO b N i1 = (entsO b n i).map fun q => (D.map Prod.snd ++ q.1, q.2)
  len : D.length + n = N
section
variable {Wr W W1 W2 : World} {B g N i1 n i bx : Nat} {b : List Int} {v v1 u : Value} {D : List (Value × Ent)}
/-- The strings and the count of an entry's numbers were read, the box laid: the numbers begin. -/
theorem EntS.start {W3 : World} {sf st : ByteArray} {K j : Nat} {e : Int} (h : EntS Wr W B g b N i1 n v D i) (f1 : Fr (One g) W W1) (hb : bx = W1.heap.size) (f2 : Fr (One g) (W1.alloc (.cells #[.string sf, .string st, .slice none 0 0] 134)) W3) (hr : Rdr W3 B g b j e) :
    NumS W W3 B g b K (j, e) bx sf st K (.slice none 0 0) [] j e := by
  subst hb
  obtain ⟨cs, hc⟩ := hr.ty
  refine ⟨?_, hr, ?_, f1.size, Win.nil _ _ _ _, by simp⟩
  · exact (f1.trans (Fr.alloc (S := One g) W1 _) (fun _ _ h => h) (fun _ _ h => h)).trans f2 (fun _ _ h => h) (fun _ _ h => h)
  · refine f2.get (heap_alloc_new W1 _) (fun hs => ?_)
    have hs' : W1.heap.size = g := hs
    obtain ⟨cs0, hc0⟩ := h.rd.ty
    have := blk_lt hc0
    have := f1.size
    omega
theorem EntS.at_ {sf st : ByteArray} {K j k : Nat} {p0 : Nat × Int} {e : Int} {ns : List Int} (h : EntS Wr W B g b N i1 n v D i) (hn : NumS W W2 B g b K p0 bx sf st k u ns j e) : DocW W2 Wr.heap.size v D := by
  obtain ⟨cs, hc⟩ := h.rd.ty
  exact h.doc.one hn.fr hc (by decide) (by decide)
/-- The entry is read, laid behind the others. -/
theorem EntS.step {W3 : World} {sf st : ByteArray} {K j : Nat} {p0 : Nat × Int} {ns : List Int} (h : EntS Wr W B g b N i1 (n + 1) v D i) (hn : NumS W W2 B g b K p0 bx sf st 0 u ns j 0)
    (he : entR b (i, 0) = (⟨sf, st, ns⟩, j, 0)) (g1 : Win W3 Wr.heap.size 134 3 v1 (D.length + 1) (D.flatMap entCells ++ [.string sf, .string st, u])) (g3 : Fr (At v) W2 W3) : EntS Wr W3 B g b N i1 n v1 (D ++ [(u, ⟨sf, st, ns⟩)]) j := by
  obtain ⟨cs, hc⟩ := h.rd.ty
  have hd := h.doc.one hn.fr hc (by decide) (by decide)
  have hu : Win W2 Wr.heap.size 2 1 u ns.length (nums .i64 ns) := hn.row.lower h.fr.size
  refine ⟨?_, ?_, hd.push (e := ⟨sf, st, ns⟩) hu (fun p hp k hk hk2 => ?_) g1 g3, ?_, ?_⟩
  · exact (h.fr.trans hn.fr (fun _ _ h => h) (fun _ _ h => h)).trans g3 (fun _ _ h => h) (fun k hk hv => by have := (hd.hdr.at_ hv).1; omega)
  · exact hn.rd.stay g3 (fun k hk => by
      obtain ⟨_, _, cur, hc⟩ := hd.hdr.at_ hk
      exact ⟨_, _, hc, by decide, by decide⟩)
  · have := ((h.doc.part p hp).at_ hk).2.1
    have := (hn.row.at_ hk2).1
    omega
  · have := h.eq
    rw [entsO, he] at this
    simp only [if_true] at this
    rw [this, Option.map_map]
    congr 1
    funext q
    simp
  · have := h.len
    rw [List.length_append]
    simp
    omega
theorem EntS.bad {sf st : ByteArray} {ns : List Int} {j : Nat} {e : Int} (h : EntS Wr W B g b N i1 (n + 1) v D i) (he : entR b (i, 0) = (⟨sf, st, ns⟩, j, e)) (h0 : e ≠ 0) : entsO b N i1 = none := by
  rw [h.eq, entsO, he]
  simp only
  rw [if_neg h0]
  rfl
end
theorem docO_of {Wr W : World} {B g N i i1 ii : Nat} {b : List Int} {v : Value} {D : List (Value × Ent)} (hs : rS b i 0 64 = (N, i1, 0)) (h : EntS Wr W B g b N i1 0 v D ii) : docO b i = some (D.map Prod.snd, ii) := by
  unfold docO
  simp only [hs, if_true]
  rw [h.eq, entsO]
  simp
theorem docO_none {b : List Int} {i N i1 : Nat} {e : Int} (hs : rS b i 0 64 = (N, i1, e)) (h : e ≠ 0) : docO b i = none := by
  unfold docO
  simp only [hs]
  rw [if_neg h]
theorem docO_none2 {b : List Int} {i N i1 : Nat} (hs : rS b i 0 64 = (N, i1, 0)) (h : entsO b N i1 = none) : docO b i = none := by
  unfold docO
  simp only [hs, if_true]
  rw [h]
theorem docsO_snoc {b : List Int} : ∀ (k i0 : Nat), docsO b (k + 1) i0 = (docsO b k i0).bind fun q => (docO b q.2).map fun r => (q.1 ++ [r.1], r.2)
  | 0, i0 => by
    rw [docsO, docsO, Option.bind_some]
    cases docO b i0 with
    | none => rfl
    | some r => rfl
  | k + 1, i0 => by
    rw [docsO]
    conv => rhs; rw [docsO]
    cases docO b i0 with
    | none => rfl
    | some r =>
      simp only [Option.bind_some]
      rw [docsO_snoc k r.2]
      cases docsO b k r.2 with
      | none => rfl
      | some q =>
        simp only [Option.bind_some, Option.map_some]
        cases docO b q.2 with
        | none => rfl
        | some s => rfl
/-- Between two documents: pre read, of N. -/
structure DocS (w W : World) (g : Nat) (b : List Int) (N : Nat) (J : List (Value × List (Value × Ent)) → World → Prop) (pre : List (Value × List (Value × Ent))) (i : Nat) : Prop where
  j : J pre W
  rd : Rdr W w.heap.size g b i 0
  got : docsO b pre.length 0 = some (pre.map docOf, i)
  len : pre.length ≤ N
  size : w.heap.size ≤ W.heap.size
section
variable {w W W1 W2 : World} {g N m i : Nat} {b : List Int} {J : List (Value × List (Value × Ent)) → World → Prop} {pre : List (Value × List (Value × Ent))}
theorem chunkO_none {b : List Int} {N : Nat} (h : docsO b N 0 = none) : chunkO b N = none := by rw [chunkO, h]; rfl
theorem DocS.bad (h : DocS w W g b N J pre i) (hl : pre.length < N) (hd : docO b i = none) : chunkO b N = none := by
  refine chunkO_none ?_
  cases hc : docsO b N 0 with
  | none => rfl
  | some q =>
    obtain ⟨j', h1⟩ := docsO_take (k := pre.length + 1) hc (by omega)
    rw [docsO_snoc, h.got, Option.bind_some, hd] at h1
    cases h1
theorem DocS.stop {x : Value × List (Value × Ent)} {j : Nat} (h : DocS w W g b N J pre i) (hd : docO b i = some (docOf x, j)) : docsO b (pre ++ [x]).length 0 = some ((pre ++ [x]).map docOf, j) := by
  rw [List.length_append]
  show docsO b (pre.length + 1) 0 = _
  rw [docsO_snoc, h.got, Option.bind_some, hd]
  simp
theorem DocS.next {x : Value × List (Value × Ent)} {j : Nat} (h : DocS w W g b N J pre i) (hl : pre.length < N) (hd : docO b i = some (docOf x, j)) (hj : J (pre ++ [x]) W1) (hr : Rdr W1 w.heap.size g b j 0) (hs : w.heap.size ≤ W1.heap.size) : DocS w W1 g b N J (pre ++ [x]) j :=
  ⟨hj, hr, h.stop hd, by rw [List.length_append]; simp; omega, hs⟩
theorem DocS.done (h : DocS w W g b N J pre i) (hl : pre.length = N) : chunkO b N = if i = b.length then some (pre.map docOf) else none := by
  rw [chunkO, ← hl, h.got]
  rfl
end
end Go.Proofs.Ytchcimkmjoegdaa.C
namespace Go.Proofs.Ytchcimkmjoegdaa.C
open Go.RowKit Go.Proofs.YtchcimkmjoegdaaW.PrintWords Go.Proofs.YtchcimkmjoegdaaW.PrintMore Go.Proofs.Ytchcimkmjoegdaa.M
set_option linter.unusedVariables false
set_option linter.unusedSimpArgs false
attribute [local go_sem] Oper.semAt_some

set_option maxRecDepth 100000 in
set_option maxHeartbeats 4000000 in
theorem iter_any (n l gb : Nat) (w : World) (f t nb c : Nat) (A : Option Addr) (b : List Int) (J Jx : List (Value × List (Value × Ent)) → World → Prop)
    (hbox : w.heap[gb]? = some (.cells #[.int .i64 (f : Int), .int .i64 (t : Int), .slice A nb c] 118 (0, 0)))
    (hr : RdV w A (nums .u8 b)) (hl : b.length = nb) (hb : Byt b) (h0 : A = none → c = 0) (hc : nb ≤ c) (hn : nb ≤ 140737488355328) (hft : f ≤ t) (ht : t ≤ 16384)
    (hJ : ∀ pre, Abd w.heap.size (J pre))
    (hY : ∀ (pre : List (Value × List (Value × Ent))) (x : Value × List (Value × Ent)) (W : World), pre.length < t - f → w.heap.size ≤ W.heap.size → J pre W → DocW W w.heap.size x.1 x.2 → okD (docOf x) = true → (∀ e ∈ docOf x, I64 e.ns) →
      YieldAt Fence.wide n Try.prog l #[.int .i64 ((f : Int) + (pre.length : Int)), x.1] W fun e W' => (e = .returned (.bool true) ∧ J (pre ++ [x]) W' ∧ Kp W W') ∨ (e = .returned (.bool false) ∧ Jx (pre ++ [x]) W'))
    (hj : J [] w) :
    CallsIn Fence.wide n Try.prog 112 #[.func (.yield l) #[] #[], .pointer (some ⟨gb, 0, none⟩)] w fun e W' =>
      (e = .returned (.tuple #[]) ∧ ∃ D, chunkO b (t - f) = some (D.map docOf) ∧ J D W') ∨
      (e = .returned (.tuple #[]) ∧ ∃ pre j, docsO b pre.length 0 = some (pre.map docOf, j) ∧ Jx pre W') ∨
      (e = .panicked [corruptP] ∧ chunkO b (t - f) = none ∧ ∃ pre, J pre W') := by
  refine callsIn_wide.2 ?_
  have hc2 : w.cell? ⟨gb, 2, none⟩ = some (.slice A nb c) := by simp [World.cell?, hbox]
  have hc1 : w.cell? ⟨gb, 1, none⟩ = some (.int .i64 (t : Int)) := by simp [World.cell?, hbox]
  have hc0 : w.cell? ⟨gb, 0, none⟩ = some (.int .i64 (f : Int)) := by simp [World.cell?, hbox]
  have HBX := Aside0.mk hbox
  have HNR := Aside0.mk (NewReader_any w A nb c b hr hl h0 hc hn)
  have HY := Aside0.mk hY
  have HJ := Aside0.mk hJ
  have HJ0 := Aside0.mk hj
  have HB := Aside0.mk hb
  clear hbox hr hl h0 hc hn hY hJ hj hb
  go_enter Try.func112, Try.ntmps112
  go_wp2_with (first | (go_at_call 18; go_must (refine HNR.out.mono ?_; rintro e' w1 ⟨g, rfl, q1, q2⟩; have Q1 := Aside0.mk q1; have F1 := Aside0.mk q2; have k0 := pw_cell_below q2.no hc0; have k1 := pw_cell_below q2.no hc1; clear q1 q2)))
  go_loopw [4] (fun v4 wr => ∃ (pre : List (Value × List (Value × Ent))) (i : Nat), v4 = .int .i64 ((f : Int) + pre.length) ∧ pre.length ≤ t - f ∧ Aside0 (DocS w wr g b (t - f) J pre i ∧ wr.heap[gb]? = some (.cells #[.int .i64 (f : Int), .int .i64 (t : Int), .slice A nb c] 118 (0, 0)))) (fun v4 _ => t - (intOf v4).toNat)
  case atStart => exact ⟨[], 0, by simp, by simp, ⟨⟨(HJ.out []).no HJ0.out (Nat.le_refl _) F1.out, Q1.out, rfl, by simp, F1.out.size⟩, F1.out.get HBX.out (fun h => h)⟩⟩
  case round =>
    obtain ⟨pre, i, rfl, hp, HD⟩ := hrel
    have kr : wr.cell? ⟨gb, 1, none⟩ = some (.int .i64 (t : Int)) := by simp [World.cell?, HD.out.2]
    by_cases hlt : pre.length < t - f
    · have hlt2 : (f : Int) + pre.length < t := by omega
      have HSZ := Aside0.mk (Size_any wr w.heap.size g i b 0 64 HD.out.1.rd HB.out (by decide))
      obtain ⟨N, i1, e1, hS⟩ : ∃ N i1 e1, rS b i 0 64 = (N, i1, e1) := ⟨_, _, _, rfl⟩
      have HS := Aside0.mk hS
      have hN : N ≤ 64 := by have := rS_max (ys := b) (i := i) (e := 0) (m := 64) (by decide); rw [hS] at this; omega
      rw [hS] at HSZ
      by_cases he1 : e1 = 0
      · subst he1
        clear hS
        go_wp2_with (first | (go_at_call 53; go_must (refine HSZ.out.mono ?_; rintro e' w2 ⟨rfl, q1, q2⟩; have Q2 := Aside0.mk q1; have F2 := Aside0.mk q2; clear q1 q2)))
        obtain ⟨wo, rfl⟩ : ∃ wo : World, wo = wr := ⟨_, rfl⟩
        go_loopw [5, 6] (fun v5 v6 wr => ∃ (m : Nat) (D : List (Value × Ent)) (ii : Nat), v6 = .int .i64 m ∧ m ≤ 64 ∧ Aside0 (EntS wo wr w.heap.size g b N i1 m v5 D ii)) (fun _ v6 _ => (intOf v6).toNat)
        case atStart => exact ⟨N, [], i1, rfl, hN, ⟨F2.out, Q2.out, DocW.nil _ _, by simp, by simp⟩⟩
        case round =>
          obtain ⟨m, D, ii, rfl, hm, HE⟩ := hrel
          cases m with
          | zero => 
            have HO := Aside0.mk (docO_of HS.out HE.out)
            have HFI := Aside0.mk (docO_fine HO.out)
            have HJW := Aside0.mk ((HJ.out pre).rd HD.out.1.j HD.out.1.rd (Nat.le_refl _) HE.out.fr)
            obtain ⟨fn, tmps, assign, body, hy, hR⟩ := HY.out pre (u5, D) wr hlt (Nat.le_trans HD.out.1.size HE.out.fr.size) HJW.out (HE.out.doc.lower HD.out.1.size) HFI.out.1 HFI.out.2
            have HR := Aside0.mk hR
            clear hR
            go_wp2_with fail
            go_at_call 86
            refine (good_ok wr w.heap.size g ii b HE.out.rd).mono ?_
            rintro e' wz ⟨rfl, rfl⟩
            dsimp only
            iterate 4 go_step
            refine (wpIn_wide (n := n + 1)).1 ?_
            gi_wp2
            refine HR.out.mono ?_
            rintro e W3 (⟨rfl, hJ3, hk3⟩ | ⟨rfl, hJx3⟩)
            · have J3 := Aside0.mk hJ3
              have K3 := Aside0.mk hk3
              clear hJ3 hk3
              gi_wp2
              go_wp2_with fail
              go_roundw
              case rel => exact ⟨pre ++ [(u5, D)], ii, by rw [List.length_append]; simp; omega, by rw [List.length_append]; simp; omega, ⟨HD.out.1.next hlt HO.out J3.out (HE.out.rd.kp K3.out) (Nat.le_trans HD.out.1.size (Nat.le_trans HE.out.fr.size K3.out.1)), K3.out.2 _ _ _ _ (.inr (.inr rfl)) (box_kept HD.out.2 HD.out.1.rd HE.out.fr)⟩⟩
              case measure => simp [intOf]; omega
            · have J3 := Aside0.mk hJx3
              clear hJx3
              gi_wp2
              go_wp2_with fail
              refine bodyPost_ret (results_none rfl _ _ _) rfl ?_
              exact .inr (.inl ⟨rfl, pre ++ [(u5, D)], ii, HD.out.1.stop HO.out, J3.out⟩)
          | succ m =>
            obtain ⟨Ad, cd, ed, hcd⟩ := HE.out.doc.hdr.shape
            subst ed
            obtain ⟨nd, hnd⟩ : ∃ nd, D.length = nd := ⟨_, rfl⟩
            have HND := Aside0.mk hnd
            have HDB := Aside0.mk (doc_bound (n := nd) (by have := HE.out.len; omega))
            rw [hnd] at hcd
            have HE1 := Aside0.mk (show EntS wo wr w.heap.size g b N i1 (m + 1) (.slice Ad nd cd) D ii from by have h := HE.out; rwa [hnd] at h)
            rw [hnd]
            clear HE hnd
            have HT1 := Aside0.mk (Text_any wr w.heap.size g ii b 0 24 HE1.out.rd HB.out (by decide))
            generalize hT1 : rT b ii 0 24 = T1 at HT1
            obtain ⟨s1, i2, e2⟩ := T1
            have HT2 := Aside0.mk (fun (W : World) (h : Rdr W w.heap.size g b i2 e2) => Text_any W w.heap.size g i2 b e2 4096 h HB.out (by decide))
            generalize hT2 : rT b i2 e2 4096 = T2 at HT2
            obtain ⟨s2, i3, e3⟩ := T2
            have HT3 := Aside0.mk (fun (W : World) (h : Rdr W w.heap.size g b i3 e3) => Size_any W w.heap.size g i3 b e3 4 h HB.out (by decide))
            have hK4 := rS_max (ys := b) (i := i3) (e := e3) (m := 4) (by decide)
            generalize hT3 : rS b i3 e3 4 = T3 at HT3 hK4
            obtain ⟨K, i4, e4⟩ := T3
            have hK : K ≤ 4 := by simp only at hK4; omega
            have HT := Aside0.mk (And.intro hT1 (And.intro hT2 hT3))
            clear hT1 hT2 hT3 hK4
            go_wp2_with (first | (go_at_call 53; go_must (refine (HT3.out _ (R4.out.below (below_alloc (Below.refl _ _) _))).mono ?_; rintro e' w5 ⟨rfl, q1, q2⟩; have R5 := Aside0.mk q1; have F5 := Aside0.mk q2; clear q1 q2)) | (go_at_call_of 34 (4096 : Int); go_must (refine (HT2.out _ R3.out).mono ?_; rintro e' w4 ⟨rfl, q1, q2⟩; have R4 := Aside0.mk q1; have F4 := Aside0.mk q2; clear q1 q2)) | (go_at_call 34; go_must (refine HT1.out.mono ?_; rintro e' w3 ⟨rfl, q1, q2⟩; have R3 := Aside0.mk q1; have F3 := Aside0.mk q2; clear q1 q2)))
            obtain ⟨bx, hbx⟩ : ∃ bx, bx = w4.heap.size := ⟨_, rfl⟩
            have HN0 := Aside0.mk (EntS.start (K := K) HE1.out (F3.out.trans F4.out (fun _ _ h => h) (fun _ _ h => h)) hbx F5.out R5.out)
            rw [← hbx]
            clear hbx
            obtain ⟨wq, rfl⟩ : ∃ wq : World, wq = wr := ⟨_, rfl⟩
            go_loopw [8] (fun v8 wr => ∃ (k : Nat) (u : Value) (ns : List Int) (j : Nat) (e : Int), v8 = .int .i64 k ∧ k ≤ 4 ∧ Aside0 (NumS wq wr w.heap.size g b K (i4, e4) bx (strOfNums s1) (strOfNums s2) k u ns j e)) (fun v8 _ => (intOf v8).toNat)
            case atStart => exact ⟨K, .slice none 0 0, [], i4, e4, rfl, hK, HN0⟩
            case round =>
              obtain ⟨k, u, ns, j, e, rfl, hk, HN⟩ := hrel
              obtain ⟨Au, cu, eu, hcu⟩ := HN.out.row.shape
              subst eu
              obtain ⟨nn, hnn⟩ : ∃ nn, ns.length = nn := ⟨_, rfl⟩
              have HNN := Aside0.mk hnn
              rw [hnn] at hcu
              have HN1 := Aside0.mk (show NumS wq wr w.heap.size g b K (i4, e4) bx (strOfNums s1) (strOfNums s2) k (.slice Au nn cu) ns j e from by have h := HN.out; rwa [hnn] at h)
              clear HN hnn
              cases k with
              | zero =>
                by_cases he : e = 0
                · subst he
                  obtain ⟨b0, b1, b2, _⟩ := HN1.out.cells
                  have HNB := Aside0.mk (Nat.le_trans HE1.out.fr.size HN1.out.fr.size)
                  go_wp2_with (first | ((with_reducible refine gate_builtin (b := .append) (xs := #[.tmp 46, .tmp 48]) rfl ?_); at_builtin; go_must (refine wpl_append1 wr wo.heap.size rfl (.tmp 46) (.tmp 48) 52 134 (.agg #[.string ByteArray.empty, .string ByteArray.empty, .slice none 0 0]) 3 56 rfl Try.underlying52 info134 rfl (.slice Ad nd cd) nd (D.flatMap entCells) [.string (strOfNums s1), .string (strOfNums s2), .slice Au nn cu] rfl rfl (by have h := (EntS.at_ HE1.out HN1.out).hdr; rwa [HND.out] at h) rfl (by simp [Value.oneCell']) HNB.out HDB.out.1 HDB.out.2 ?_; intro v2 w2 g1 _ g3 _; have G1 := Aside0.mk g1; have G3 := Aside0.mk g3; clear g1 g3)) | (go_at_call 86; go_must (refine (good_ok wr w.heap.size g j b HN1.out.rd).mono ?_; rintro e' wz ⟨rfl, hz⟩; have hz' := hz.symm; subst hz')))
                  go_roundw
                  case rel => exact ⟨m, D ++ [(.slice Au nn cu, ⟨strOfNums s1, strOfNums s2, ns⟩)], j, by simp, by omega, ⟨EntS.step HE1.out HN1.out (entR_eq HT.out.1 HT.out.2.1 HT.out.2.2 HN1.out.last) (by rw [HND.out]; exact G1.out) G3.out⟩⟩
                  case measure => simp [intOf]
                · go_wp2_with (first | (go_at_call 86; go_must (refine (good_err wr w.heap.size g j b e he true HN1.out.rd).mono ?_; rintro e' wz ⟨rfl, hz⟩; have hz' := hz.symm; subst hz')))
                  exact ⟨rfl, .inr (.inr ⟨rfl, HD.out.1.bad hlt (docO_none2 HS.out (HE1.out.bad (entR_eq HT.out.1 HT.out.2.1 HT.out.2.2 HN1.out.last) he)), pre, (HJ.out pre).rd HD.out.1.j HD.out.1.rd (Nat.le_refl _) (HE1.out.fr.trans HN1.out.fr (fun _ _ h => h) (fun _ _ h => h))⟩)⟩
              | succ k =>
                have HN2 := Aside0.mk (HN1.out.no (W1 := wr.drew) (Fr.of_No (below_drew (Below.refl _ _))))
                have HIB := Aside0.mk (nums_bound (n := nn) (by have := HN1.out.len; have := HNN.out; omega))
                obtain ⟨b2, b2f⟩ := boxc HN1.out.box
                go_wp2_with fail
                go_region_law (first | (refine step_append (w6.alloc (.cells #[.int .i64 (unzig (rU b j e).1)] 2)) wq.heap.size rfl (.tmp 38) (.tmp 41) 45 45 2 (.int .i64 0) 1 8 (.slice 2) rfl Try.underlying45 Try.underlying45 (.inl ⟨_, rfl⟩) info2 rfl (.slice Au nn cu) nn (nums .i64 ns) (.slice (some ⟨w6.heap.size, 0, none⟩) 1 1) 1 [.int .i64 (unzig (rU b j e).1)] rfl rfl HW6.out (src_one w6 2 _ rfl) HZ6.out HIB.out.1 HIB.out.2 ?_; intro v7 w7 g1 _ g3 _; obtain ⟨A7, c7, e7, _⟩ := Win.shape g1; subst e7; have h7 := boxc (HN2.out.box2 F6.out ((Fr.alloc (S := At (.slice Au nn cu)) w6 _).trans g3 (fun _ _ h => h) (fun _ _ h => h))); obtain ⟨k7, k7f⟩ := h7; have NS := Aside0.mk (NumS.step HN2.out F6.out R6.out (u1 := .slice A7 (nn + 1) c7) (by rw [HNN.out]; exact g1) ((Fr.alloc (S := At (.slice Au nn cu)) w6 _).trans g3 (fun _ _ h => h) (fun _ _ h => h))); clear g1 g3) | (go_simp; go_at_call 21; refine (Int_any wr.drew w.heap.size g j b e HN2.out.rd HB.out).mono ?_; rintro e' w6 ⟨rfl, q1, q2⟩; have R6 := Aside0.mk q1; have F6 := Aside0.mk q2; obtain ⟨h6, h6f⟩ := boxc (HN2.out.box1 q2); obtain ⟨h6a, h6b⟩ := boxc ((Fr.alloc (S := No) w6 (.cells #[.int .i64 (unzig (rU b j e).1)] 2)).get (HN2.out.box1 q2) (fun h => h)); have HW6 := Aside0.mk (show Win (w6.alloc (.cells #[.int .i64 (unzig (rU b j e).1)] 2)) wq.heap.size 2 1 (.slice Au nn cu) nn (nums .i64 ns) from by have h := (HN2.out.row1 q2).below (below_alloc (Below.refl _ _) (.cells #[.int .i64 (unzig (rU b j e).1)] 2)); rwa [HNN.out] at h); have HZ6 := Aside0.mk (show wq.heap.size ≤ (w6.alloc (.cells #[.int .i64 (unzig (rU b j e).1)] 2)).heap.size from by have h1 := HN2.out.fr.size; have h2 := q2.size; simp; omega); clear q1 q2))
                all_goals
                  go_wp2_with fail
                  go_roundw
                  case rel => exact ⟨k, _, _, _, _, by simp, by omega, NS⟩
                  case measure => simp [intOf]
      · have HN := Aside0.mk (HD.out.1.bad hlt (docO_none hS he1))
        have hN0 : N = 0 := by
          unfold rS at hS
          simp only [if_true] at hS
          split at hS
          · injection hS with h1 _; exact h1.symm
          · split at hS
            · injection hS with _ h2; injection h2 with _ h2; exact absurd h2.symm he1
            · injection hS with h1 _; exact h1.symm
        subst hN0
        clear hS
        go_wp2_with (first | (go_at_call 53; go_must (refine HSZ.out.mono ?_; rintro e' w2 ⟨rfl, q1, q2⟩; have Q2 := Aside0.mk q1; have F2 := Aside0.mk q2; clear q1 q2)))
        refine wp_loop_once ?_
        go_wp2_with (first | (go_at_call 86; go_must (refine (good_err w2 w.heap.size g i1 b e1 he1 true Q2.out).mono ?_; rintro e' wz ⟨rfl, hz⟩; have hz' := hz.symm; subst hz')))
        exact ⟨rfl, .inr (.inr ⟨rfl, HN.out, pre, (HJ.out pre).rd HD.out.1.j HD.out.1.rd (Nat.le_refl _) F2.out⟩)⟩
    · have hpe : pre.length = t - f := by omega
      have hlt2 : ¬ ((f : Int) + pre.length < t) := by omega
      have HDN := Aside0.mk (HD.out.1.done hpe)
      by_cases hi : i = b.length
      · have hz : ((b.length : Int) - i == 0) = true := by rw [hi]; simp
        have HC := Aside0.mk (show chunkO b (t - f) = some (pre.map docOf) from by rw [HDN.out, if_pos hi])
        clear HDN hi
        go_wp2_with (first | (go_at_call 86; go_must (refine (good_ok _ w.heap.size g i b (HD.out.1.rd.drewN nm)).mono ?_; rintro e' wz ⟨rfl, hz⟩; have hz' := hz.symm; subst hz')) | (go_at_call 20; go_must (refine (Left_any wr w.heap.size g i b 0 HD.out.1.rd).mono ?_; rintro e' _ ⟨rfl, nm, rfl⟩)))
        go_end0
        exact .inl ⟨rfl, pre, HC.out, (HJ.out pre).rd HD.out.1.j HD.out.1.rd (Nat.le_refl _) (Fr.drewN wr nm)⟩
      · have hz : ((b.length : Int) - i == 0) = false := by simp; omega
        have HC := Aside0.mk (show chunkO b (t - f) = none from by rw [HDN.out, if_neg hi])
        clear HDN hi
        go_wp2_with (first | (go_at_call 86; go_must (refine (good_not _ w.heap.size g i b (HD.out.1.rd.drewN nm)).mono ?_; rintro e' wz ⟨rfl, hz⟩; have hz' := hz.symm; subst hz')) | (go_at_call 20; go_must (refine (Left_any wr w.heap.size g i b 0 HD.out.1.rd).mono ?_; rintro e' _ ⟨rfl, nm, rfl⟩)))
        exact ⟨rfl, .inr (.inr ⟨rfl, HC.out, pre, (HJ.out pre).rd HD.out.1.j HD.out.1.rd (Nat.le_refl _) (Fr.drewN wr nm)⟩)⟩
end Go.Proofs.Ytchcimkmjoegdaa.C
namespace Go.Proofs.Ytchcimkmjoegdaa.C
open Go.RowKit Go.Proofs.YtchcimkmjoegdaaW.PrintWords Go.Proofs.YtchcimkmjoegdaaW.PrintMore Go.Proofs.Ytchcimkmjoegdaa.M
set_option linter.unusedVariables false
set_option linter.unusedSimpArgs false

/-- The mark of a loop on the activation's deferred calls. -/
abbrev mkD (D : Nat) : Deferred := { target := .collected D, args := #[] }
/-- How a round's body may be left. -/
def rPost (I Ix : World → Prop) (W : World) : Exit → Act → World → Prop
  | .normal, _, W' => KeepsOthers W W' ∧ Kp W W' ∧ I W'
  | .ret, _, W' => KeepsOthers W W' ∧ Ix W'
  | .exit _, _, _ => False
  | .goto _, _, _ => False
  | .panic _, _, _ => False
  | .outgrown, _, _ => False
theorem DocW.put {W : World} {B l : Nat} {v : Value} {D : List (Value × Ent)} {o : Obj} (o' : Obj) (h : DocW W B v D) (hl : W.heap[l]? = some o) (ho : o.isCells = false) : DocW (W.putObj l o') B v D := by
  have hmv : ∀ {e size n : Nat} {x : Value} {xs : List Value}, Win W B e size x n xs → Win (W.putObj l o') B e size x n xs := fun hx => hx.move fun k hk _ => by
    obtain ⟨_, _, cur, hc⟩ := hx.at_ hk
    refine World.putObj_heap_other (fun e => ?_)
    subst e
    rw [hl] at hc
    cases hc
    cases ho
  exact ⟨hmv h.hdr, fun p hp => hmv (h.part p hp), h.sep⟩
theorem DocW.drop {W : World} {B l : Nat} {v : Value} {D : List (Value × Ent)} (h : DocW W B v D) {B' : Nat} (hb : B' ≤ B) : DocW W B' v D := h.lower hb

/-- 'for i, d := range c.docs() { .. }': the rounds hand on 'I'; a round may leave by 'return' ('Ix'); or the iterator panics. -/
theorem wp_rangeDocs {g : Operand} {p0 p1 : Tmp} {assign body : Code} {Q : Exit → Act → World → Prop} {a : Act} {w : World} {gb f t nb c : Nat} {A : Option Addr} {b : List Int}
    (hg : a.eval g = .func (.func 112) #[] #[.pointer (some ⟨gb, 0, none⟩)])
    (hbox : w.heap[gb]? = some (.cells #[.int .i64 (f : Int), .int .i64 (t : Int), .slice A nb c] 118 (0, 0)))
    (hr : RdV w A (nums .u8 b)) (hl : b.length = nb) (hb : Byt b) (h0 : A = none → c = 0) (hc : nb ≤ c) (hn : nb ≤ 140737488355328) (hft : f ≤ t) (ht : t ≤ 16384)
    (I Ix : List (Value × List (Value × Ent)) → World → Prop) (hI : ∀ pre, Abd w.heap.size (I pre)) (hIx : ∀ pre, Abd w.heap.size (Ix pre)) (hi : I [] w) (a1 : Value → Value → Act)
    (hassign : ∀ (l : Nat) (x y : Value) (W : World) (K : Act → World → Prop), K (a1 x y) W →
      assign.wpIn (Fence.wide.inRound l) 0 Try.prog (Exit.then K (fun _ _ _ => False)) { tmps := (a.tmps.setIfInBounds p0 x).setIfInBounds p1 y, defers := [] } W)
    (hbody : ∀ (l : Nat) (pre : List (Value × List (Value × Ent))) (x : Value × List (Value × Ent)) (W : World), pre.length < t - f → w.heap.size ≤ W.heap.size → I pre W → DocW W w.heap.size x.1 x.2 → okD (docOf x) = true → (∀ e ∈ docOf x, I64 e.ns) →
      body.wpIn (Fence.wide.inRound l) 0 Try.prog (rPost (I (pre ++ [x])) (Ix (pre ++ [x])) W) (a1 (.int .i64 ((f : Int) + (pre.length : Int))) x.1) W)
    (hdone : ∀ (D : Nat) (dl : List (Value × List (Value × Ent))) (W : World), w.heap.size ≤ D → W.heap[D]? = some (.deferred (some [])) → chunkO b (t - f) = some (dl.map docOf) → I dl W → Q .normal { a with defers := mkD D :: a.defers } W)
    (hstop : ∀ (D : Nat) (pre : List (Value × List (Value × Ent))) (j : Nat) (W : World), w.heap.size ≤ D → W.heap[D]? = some (.deferred (some [])) → docsO b pre.length 0 = some (pre.map docOf, j) → Ix pre W → Q .ret { a with defers := mkD D :: a.defers } W)
    (hpanic : ∀ (D : Nat) (pre : List (Value × List (Value × Ent))) (W : World), w.heap.size ≤ D → W.heap[D]? = some (.deferred (some [])) → chunkO b (t - f) = none → I pre W → Q (.panic [corruptP]) { a with defers := mkD D :: a.defers } W) :
    (Code.rangeFunc g #[p0, p1] assign body).wp Try.prog Q a w := by
  refine (wpIn_wide (n := 0)).1 (wpIn_rangeFunc ?_)
  intro fn hfn
  obtain ⟨rec, hrec⟩ : ∃ rec : LoopState → Option Code → Loop, rec = fun st pe => { state := st, pending := pe, fn, tmps := a.tmps, params := #[p0, p1], assign, body, defers := w.heap.size } := ⟨_, rfl⟩
  obtain ⟨W1, hW1⟩ : ∃ W1, (w.alloc (.deferred (some []))).alloc (.loop (rec .ready none)) = W1 := ⟨_, rfl⟩
  have hsz : W1.heap.size = w.heap.size + 2 := by rw [← hW1]; simp
  have hf1 : Fr No w W1 := by rw [← hW1]; exact Fr.of_No (accAlloc (accAlloc (Below.refl _ _) (Nat.le_refl _) _) (Nat.le_refl _) _)
  have hL1 : W1.heap[w.heap.size + 1]? = some (.loop (rec .ready none)) := by
    rw [← hW1]; have := World.alloc_heap_new (w.alloc (.deferred (some []))) (.loop (rec .ready none)); rwa [World.size_alloc] at this
  have hK1 : W1.heap[w.heap.size]? = some (.deferred (some [])) := by
    rw [← hW1]; exact (Below.heap_alloc _ _ _ (by simp)).trans (World.alloc_heap_new w _)
  have hI1 : I [] W1 := (hI []).no hi (Nat.le_refl _) hf1
  refine ⟨w.heap.size + 1, [{ target := .collected w.heap.size, args := #[] }], W1, { target := .fn (.func 112) #[.pointer (some ⟨gb, 0, none⟩)], args := #[.func (.yield (w.heap.size + 1)) #[] #[]] }, W1, 112,
    #[.func (.yield (w.heap.size + 1)) #[] #[]] ++ #[.pointer (some ⟨gb, 0, none⟩)], W1, ?_, ?_, ?_, ?_, fun h => by simp [Fence.wide] at h, ?_⟩
  · rw [← hW1, hrec]; exact run_enterLoop_outer _ _ _ _ _
  · simp only [resolve, hg]
    simp [go_sem]
  · intro f' hf'; trivial
  · have eg := enters_of Try.func112 (by kernel_rfl) rfl
    simp [invoke, go_sem, eg]
  · refine (iter_any 0 (w.heap.size + 1) gb W1 f t nb c A b
      (fun pre W => I pre W ∧ W.heap[w.heap.size + 1]? = some (.loop (rec .ready none)) ∧ W.heap[w.heap.size]? = some (.deferred (some [])))
      (fun pre W => Ix pre W ∧ W.heap[w.heap.size + 1]? = some (.loop (rec .done (some .ret))) ∧ W.heap[w.heap.size]? = some (.deferred (some [])))
      (hf1.get hbox (fun h => h)) (hr.below hf1.no) hl hb h0 hc hn hft ht
      (fun pre X Y x hs hB hx hf => ⟨hI pre X Y x hs.1 (by omega) hx hf, hf.get hs.2.1 (fun e => by have e' : w.heap.size + 1 = x := e; omega), hf.get hs.2.2 (fun e => by have e' : w.heap.size = x := e; omega)⟩)
      ?_ ⟨hI1, hL1, hK1⟩).mono ?_
    · rintro pre x W hlen hsW ⟨hi, hl, hk⟩ hx hok h64
      have hlt : w.heap.size + 1 < W.heap.size := (Array.getElem?_eq_some_iff.1 hl).1
      have hy := run_yield (P := Try.prog) (args := #[.int .i64 ((f : Int) + (pre.length : Int)), x.1]) hl (by rw [hrec]; rfl)
      rw [hrec] at hy
      refine ⟨fn, (a.tmps.setIfInBounds p0 (.int .i64 ((f : Int) + (pre.length : Int)))).setIfInBounds p1 x.1, assign, body, by simpa using hy, roundIn_of_wpIn hfn ?_⟩
      clear hy
      refine hassign (w.heap.size + 1) (.int .i64 ((f : Int) + (pre.length : Int))) x.1 W _ ?_
      refine ⟨_, run_beginRound hl (by rw [hrec]), ?_⟩
      have hl2 : (W.putObj (w.heap.size + 1) (.loop { rec .ready none with state := .busy })).heap[w.heap.size + 1]? = some (.loop { rec .ready none with state := .busy }) := World.putObj_heap_same hlt
      have hk2 : (W.putObj (w.heap.size + 1) (.loop { rec .ready none with state := .busy })).heap[w.heap.size]? = some (.deferred (some [])) := (World.putObj_heap_other (by omega)).trans hk
      have hw2 : Kp W (W.putObj (w.heap.size + 1) (.loop { rec .ready none with state := .busy })) := Kp.put _ hl rfl
      refine wpIn_mono (hbody _ pre x _ hlen (by simp; omega) ((hI pre).put _ hi (by omega) hl rfl) ((hx.put _ hl rfl).lower (by omega)) hok h64) ?_
      have fin : ∀ (jump : Option Code) (W3 : World), KeepsOthers (W.putObj (w.heap.size + 1) (.loop { rec .ready none with state := .busy })) W3 →
          (Instr.endRound (w.heap.size + 1) jump).run Try.prog W3 = .ok (.bool jump.isNone) (W3.putObj (w.heap.size + 1) (.loop (rec (if jump.isNone then .ready else .done) jump))) ∧
          W3.heap[w.heap.size + 1]? = some (.loop { rec .ready none with state := .busy }) ∧
          (W3.putObj (w.heap.size + 1) (.loop (rec (if jump.isNone then .ready else .done) jump))).heap[w.heap.size + 1]? = some (.loop (rec (if jump.isNone then .ready else .done) jump)) ∧
          (W3.putObj (w.heap.size + 1) (.loop (rec (if jump.isNone then .ready else .done) jump))).heap[w.heap.size]? = some (.deferred (some [])) := fun jump W3 hk3 => by
        have hl3 := hk3.same _ _ hl2 rfl
        have := run_endRound (P := Try.prog) jump hl3
        rw [hrec] at this ⊢
        exact ⟨this, by rw [hrec] at hl3; exact hl3, World.putObj_heap_same (Array.getElem?_eq_some_iff.1 hl3).1, (World.putObj_heap_other (by omega)).trans (hk3.same _ _ hk2 rfl)⟩
      rintro e a3 W3 hp
      cases e with
      | normal =>
        obtain ⟨hk3, hkp3, hi3⟩ := hp
        obtain ⟨hr, hl3, hl4, hk4⟩ := fin none W3 hk3
        exact ⟨_, _, hr, .inl ⟨rfl, ⟨(hI _).put _ hi3 (by omega) hl3 rfl, hl4, hk4⟩, (hw2.trans hkp3).trans (Kp.put _ hl3 rfl)⟩⟩
      | ret =>
        obtain ⟨hk3, hi3⟩ := hp
        obtain ⟨hr, hl3, hl4, hk4⟩ := fin (some .ret) W3 hk3
        exact ⟨_, _, hr, .inr ⟨rfl, (hIx _).put _ hi3 (by omega) hl3 rfl, hl4, hk4⟩⟩
      | exit id => exact hp.elim
      | goto t => exact hp.elim
      | panic ch => exact hp.elim
      | outgrown => exact hp.elim
    · rintro e W2 (⟨rfl, dl, hS, hi, hl, hk⟩ | ⟨rfl, pre, j, hS, hi, hl, hk⟩ | ⟨rfl, hS, pre, hi, hl, hk⟩)
      · exact ⟨none, _, by have := run_endLoop (P := Try.prog) hl (by rw [hrec]; simp); rw [hrec] at this; exact this, hdone _ dl _ (Nat.le_refl _) ((World.putObj_heap_other (by omega)).trans hk) hS ((hI _).put _ hi (by omega) hl rfl)⟩
      · refine ⟨some .ret, _, by have := run_endLoop (P := Try.prog) hl (by rw [hrec]; simp); rw [hrec] at this; exact this, ?_⟩
        exact (wpIn_wide (n := 0)).2 (wp_ret (hstop _ pre j _ (Nat.le_refl _) ((World.putObj_heap_other (by omega)).trans hk) hS ((hIx _).put _ hi (by omega) hl rfl)))
      · exact hpanic _ pre _ (Nat.le_refl _) hk hS hi
end Go.Proofs.Ytchcimkmjoegdaa.C
namespace Go.Proofs.Ytchcimkmjoegdaa.C
open Go.RowKit Go.Proofs.YtchcimkmjoegdaaW.PrintWords Go.Proofs.YtchcimkmjoegdaaW.PrintMore Go.Proofs.Ytchcimkmjoegdaa.M
set_option linter.unusedVariables false
set_option linter.unusedSimpArgs false

theorem assert_corrupt (w : World) : (Instr.typeAssert (.iface 129 (.agg #[])) 20 129 true).run Try.prog w = .ok (.tuple #[.agg #[], .bool true]) w := by kernel_rfl
theorem assert_nil (w : World) : (Instr.typeAssert .nilIface 20 129 true).run Try.prog w = .ok (.tuple #[.agg #[], .bool false]) w := by kernel_rfl
set_option maxHeartbeats 1000000 in
set_option maxRecDepth 100000 in
theorem catch_panic (n : Nat) (p q : Nat) (x y : Value) (w : World) (hp : w.heap[p]? = some (.cells #[x] 49 (0, 0))) (hq : w.heap[q]? = some (.cells #[y] 29 (0, 0))) (hpq : p ≠ q) :
    CallsDIn Fence.wide n Try.prog 85 #[.pointer (some ⟨p, 0, none⟩), .pointer (some ⟨q, 0, none⟩)] (.panicking [corruptP]) w fun e u' w' =>
      e = .returned (.tuple #[]) ∧ u' = .panicking [{ corruptP with recovered := true }] ∧ w' = ((w.alloc (.cells #[] 129)).setCell ⟨p, 0, none⟩ (.pointer none)).setCell ⟨q, 0, none⟩ (.int .i64 20) := by
  have hw1 := (Fr.alloc (S := No) w (.cells #[] 129)).get hp (fun h => h)
  have hw2 := (Fr.alloc (S := No) w (.cells #[] 129)).get hq (fun h => h)
  have hw3 := (Fr.setCell (S := One p) (w.alloc (.cells #[] 129)) ⟨p, 0, none⟩ (.pointer none) rfl).get hw2 (fun h => hpq h.symm)
  obtain ⟨p1, p2⟩ : (w.alloc (.cells #[] 129)).cell? ⟨p, 0, none⟩ = some x ∧ (w.alloc (.cells #[] 129)).frozen? ⟨p, 0, none⟩ = false := by simp [World.cell?, World.frozen?, hw1]
  obtain ⟨q1, q2⟩ : ((w.alloc (.cells #[] 129)).setCell ⟨p, 0, none⟩ (.pointer none)).cell? ⟨q, 0, none⟩ = some y ∧ ((w.alloc (.cells #[] 129)).setCell ⟨p, 0, none⟩ (.pointer none)).frozen? ⟨q, 0, none⟩ = false := by simp [World.cell?, World.frozen?, hw3]
  have hta := assert_corrupt
  clear hp hq hw1 hw2 hw3
  refine callsDIn_of_wpSIn Try.func85 rfl trivial fun c₀ cs hu => ?_
  apply wpSIn_seq
  apply wpSIn_region
  simp [wpOpsSIn, go_sem, recoverD, hu, Try.ntmps85, Exit.thenS, corruptP]
  refine wpSIn_of_wpIn rfl (wpIn_wide.2 ?_)
  go_wp2_with fail
  exact ⟨rfl, .panicking [{ corruptP with recovered := true }], rfl, .tuple #[], results_none rfl _ _ _, rfl, rfl, rfl⟩
set_option maxHeartbeats 1000000 in
set_option maxRecDepth 100000 in
theorem catch_idle (n : Nat) (p q : Nat) (w : World) :
    CallsDIn Fence.wide n Try.prog 85 #[.pointer (some ⟨p, 0, none⟩), .pointer (some ⟨q, 0, none⟩)] .returning w fun e u' w' =>
      e = .returned (.tuple #[]) ∧ u' = .returning ∧ w' = w.alloc (.cells #[] 129) := by
  have hta := assert_nil
  refine callsDIn_of_wpSIn Try.func85 rfl trivial fun c₀ cs hu => ?_
  apply wpSIn_seq
  apply wpSIn_region
  simp [wpOpsSIn, go_sem, recoverD, hu, Try.ntmps85, Exit.thenS]
  refine wpSIn_of_wpIn rfl (wpIn_wide.2 ?_)
  go_wp2_with fail
  refine ⟨rfl, .returning, ?_, .tuple #[], results_none rfl _ _ _, rfl, rfl, rfl⟩
  cases c₀
  simp only at hu
  subst hu
  rfl
end Go.Proofs.Ytchcimkmjoegdaa.C
