/- The states of stored.Open's loops (40). Conditions: as each theorem states. | The states of stored.Open's later loops (40). Conditions: as each theorem states. | All documents of a store, laid one behind the other (stored.Open's last loop). Conditions: as each theorem states. | slices.Equal on bytes (87). Turned by program from StL. Conditions: as each theorem states. (Several texts of mine laid into one by prune.py.) -/
import Derived.Test.YtchcimkmjoegdaaStB8
namespace Go.Proofs.Ytchcimkmjoegdaa.C
open Go.RowKit Go.Proofs.YtchcimkmjoegdaaW.PrintWords Go.Proofs.YtchcimkmjoegdaaW.PrintMore Go.Proofs.Ytchcimkmjoegdaa.M
set_option linter.unusedVariables false
set_option linter.unusedSimpArgs false

/-- Chunks in memory: their row, and each one's bytes. -/
structure ChS (W : World) (B : Nat) (v : Value) (C : List (Value × Chk)) : Prop where
  hdr : Win W B 118 3 v C.length (C.flatMap chkCells)
  part : ∀ p ∈ C, Acc W B p.1 p.2.b
section
variable {W W1 W' : World} {B t : Nat} {v v1 : Value} {C : List (Value × Chk)} {S : Nat → Prop}
theorem ChS.nil (W : World) (B : Nat) : ChS W B (.slice none 0 0) [] := ⟨Win.nil _ _ _ _, fun p hp => (nomatch hp)⟩
theorem ChS.step (h : ChS W B v C) (f : Fr S W W') (hT : Ty W S t) (h1 : 118 ≠ t) (h2 : 5 ≠ t) : ChS W' B v C := ⟨Ty.row f hT h.hdr h1, fun p hp => Ty.row f hT (h.part p hp) h2⟩
theorem ChS.no (h : ChS W B v C) (f : Fr No W W') : ChS W' B v C := h.step (t := 0) f (Ty.none _ _) (by decide) (by decide)
theorem ChS.push {f' t' : Nat} (h : ChS W B v C) (g1 : Win W1 B 118 3 v1 (C.length + 1) (C.flatMap chkCells ++ [.int .i64 (f' : Int), .int .i64 (t' : Int), .slice none 0 0])) (g3 : Fr (At v) W W1) : ChS W1 B v1 (C ++ [(.slice none 0 0, ⟨f', t', []⟩)]) := by
  refine ⟨by rw [List.length_append, List.flatMap_append]; exact g1, fun q hq => ?_⟩
  rcases List.mem_append.1 hq with hq | hq
  · exact Ty.row g3 (Ty.win h.hdr) (h.part q hq) (by decide)
  · simp only [List.mem_cons, List.mem_nil_iff, or_false] at hq
    subst hq
    exact Win.nil _ _ _ _
/-- A chunk's bytes are laid. -/
theorem ChS.put {g off n c f' t' : Nat} {P T : List (Value × Chk)} {u0 u : Value} {b0 b : List Int} (h : ChS W B (.slice (some ⟨g, off, none⟩) n c) (P ++ (u0, Chk.mk f' t' b0) :: T)) (hn : P.length + (T.length + 1) = n) (hu : Acc W B u b) :
    ChS (W.setCell ⟨g, off + (P.length * 3 + 2), none⟩ u) B (.slice (some ⟨g, off, none⟩) n c) (P ++ (u, Chk.mk f' t' b) :: T) ∧ Fr (At (.slice (some ⟨g, off, none⟩) n c)) W (W.setCell ⟨g, off + (P.length * 3 + 2), none⟩ u) := by
  subst hn
  have hd := h.hdr
  rw [List.length_append, List.length_cons] at hd
  obtain ⟨s1, f1⟩ := Win.storeN hd (by omega) (P.length * 3 + 2) (by omega) u
  have hl : (P.flatMap chkCells).length = P.length * 3 := flat3_len chk3 P
  have e : ((P ++ (u0, Chk.mk f' t' b0) :: T).flatMap chkCells).set (P.length * 3 + 2) u = (P ++ (u, Chk.mk f' t' b) :: T).flatMap chkCells := by
    rw [List.flatMap_append, List.flatMap_append, List.set_append_right _ _ (by omega), hl, List.flatMap_cons, List.flatMap_cons]
    rw [show P.length * 3 + 2 - P.length * 3 = 2 from by omega]
    rfl
  rw [e] at s1
  refine ⟨⟨by rw [List.length_append, List.length_cons]; exact s1, fun q hq => ?_⟩, f1⟩
  rcases List.mem_append.1 hq with hq | hq
  · exact Ty.row f1 (Ty.win hd) (h.part q (List.mem_append_left _ hq)) (by decide)
  · rcases List.mem_cons.1 hq with rfl | hq
    · exact Ty.row f1 (Ty.win hd) hu (by decide)
    · exact Ty.row f1 (Ty.win hd) (h.part q (List.mem_append_right _ (List.mem_cons_of_mem _ hq))) (by decide)
theorem ChS.cells {g off n c j : Nat} {u : Value} {f' t' : Nat} {b : List Int} (h : ChS W B (.slice (some ⟨g, off, none⟩) n c) C) (hn : C.length = n) (hp : C[j]? = some (u, Chk.mk f' t' b)) :
    (W.cell? ⟨g, off + j * 3, none⟩ = some (.int .i64 f') ∧ W.frozen? ⟨g, off + j * 3, none⟩ = false) ∧ (W.cell? ⟨g, off + j * 3 + 1, none⟩ = some (.int .i64 t') ∧ W.frozen? ⟨g, off + j * 3 + 1, none⟩ = false) ∧ W.cell? ⟨g, off + j * 3 + 2, none⟩ = some u ∧ W.frozen? ⟨g, off + j * 3 + 2, none⟩ = false := by
  have hd := h.hdr
  rw [hn] at hd
  exact ⟨Win.cellN hd (flat3_get (k := 0) chk3 hp (by decide)), Win.cellN hd (flat3_get (k := 1) chk3 hp (by decide)), Win.cellN hd (flat3_get (k := 2) chk3 hp (by decide))⟩
end
def mk0 (h : Nat × Nat × Nat) : Value × Chk := (.slice none 0 0, ⟨h.1, h.2.1, []⟩)
def szs (H : List (Nat × Nat × Nat)) : List Int := H.map fun h => (h.2.2 : Int)
/-- Behind j heads. -/
structure HeadS (w W : World) (p2 p3 gr gs gz : Nat) (xs : List Int) (n K i0 j : Nat) (H : List (Nat × Nat × Nat)) (a i : Nat) (v : Value) : Prop where
  op : OpS w W p2 p3 gr gs xs i 0 v n
  got : headsO xs n j 0 i0 = some (H, a, i)
  ch : ChS W w.heap.size v (H.map mk0)
  sz : Win W w.heap.size 3 1 (.slice (some ⟨gz, 0, none⟩) K K) K (nums .i64 (szs H ++ List.replicate (K - j) 0))
section
variable {w W W1 W2 : World} {p2 p3 gr gs gz n K i0 j a i : Nat} {xs : List Int} {H : List (Nat × Nat × Nat)} {v : Value}
theorem HeadS.len (h : HeadS w W p2 p3 gr gs gz xs n K i0 j H a i v) : H.length = j := (headsO_fine h.got).1
/-- Behind both sizes of a head: what was read, the box of the chunk, the size laid. -/
structure HeadT (w W : World) (p2 p3 gr gs gz : Nat) (xs : List Int) (n K i0 j : Nat) (H : List (Nat × Nat × Nat)) (a i : Nat) (v : Value) (cnt z i2 : Nat) (e2 : Int) (bx : Nat) : Prop where
  op : OpS w W p2 p3 gr gs xs i2 e2 v n
  got : headsO xs n j 0 i0 = some (H, a, i)
  ch : ChS W w.heap.size v (H.map mk0)
  sz : Win W w.heap.size 3 1 (.slice (some ⟨gz, 0, none⟩) K K) K (nums .i64 (szs H ++ (z : Int) :: List.replicate (K - (j + 1)) 0))
  box : W.heap[bx]? = some (.cells #[.int .i64 (a : Int), .int .i64 ((a : Int) + cnt), .slice none 0 0] 118 (0, 0))
  nb : ¬ At v bx
theorem storeF_bad2 {xs : List Int} {n i1 K i2 : Nat} {e1 e2 : Int} (h1 : rS xs 0 0 16384 = (n, i1, e1)) (h2 : rS xs i1 e1 (n : Nat) = (K, i2, e2)) (he : e2 ≠ 0) : storeF xs = none := by
  unfold storeF
  simp only [h1, h2]
  rw [if_neg he]
theorem storeF_eq {xs : List Int} {n i1 K i2 : Nat} {e1 : Int} (h1 : rS xs 0 0 16384 = (n, i1, e1)) (h2 : rS xs i1 e1 (n : Nat) = (K, i2, 0)) :
    storeF xs = (headsO xs n K 0 i2).bind fun q => if q.2.1 = n then (bodiesO xs q.1 q.2.2).bind fun r => if r.2.2 = xs.length ∧ okDs r.2.1 = true ∧ buildB r.2.1 = xs then some (r.1, r.2.1) else none else none := by
  unfold storeF
  simp only [h1, h2, if_true]
section
variable {w W W2 : World} {p2 p3 gr gs gz n K i0 j a i cnt z j1 j2 bx nx : Nat} {f1 f2 : Int} {xs : List Int} {H : List (Nat × Nat × Nat)} {v v1 : Value}
theorem HeadT.no (h : HeadT w W p2 p3 gr gs gz xs n K i0 j H a i v cnt z j2 f2 bx) (f : Fr No W W2) : HeadT w W2 p2 p3 gr gs gz xs n K i0 j H a i v cnt z j2 f2 bx :=
  ⟨h.op.no f, h.got, h.ch.no f, h.sz.below f.no, f.get h.box (fun h => h), h.nb⟩
theorem HeadT.cells (h : HeadT w W p2 p3 gr gs gz xs n K i0 j H a i v cnt z j2 f2 bx) : W.cell? ⟨p2, 0, none⟩ = some (.pointer (some ⟨gs, 0, none⟩)) ∧ W.cell? ⟨gs, 0, none⟩ = some v ∧ W.cell? ⟨bx, 0, none⟩ = some (.int .i64 (a : Int)) ∧ W.cell? ⟨bx, 1, none⟩ = some (.int .i64 ((a : Int) + cnt)) ∧ W.cell? ⟨bx, 2, none⟩ = some (.slice none 0 0) := by
  obtain ⟨m2, m3, _⟩ := h.op.cells
  have := h.box
  exact ⟨m2, m3, by simp [World.cell?, this], by simp [World.cell?, this], by simp [World.cell?, this]⟩
theorem HeadT.app (h : HeadT w W p2 p3 gr gs gz xs n K i0 j H a i v cnt z j2 0 bx) (hg1 : 0 < cnt) (hg2 : a + cnt ≤ n) (he : rS xs i 0 16384 = (cnt, j1, f1) ∧ rS xs j1 f1 (nx : Nat) = (z, j2, 0)) (hl : xs.length = nx)
    (g1 : Win W2 w.heap.size 118 3 v1 (j + 1) ((H.map mk0).flatMap chkCells ++ [.int .i64 (a : Int), .int .i64 ((a : Int) + cnt), .slice none 0 0])) (g3 : Fr (At v) W W2) :
    (W2.cell? ⟨p2, 0, none⟩ = some (.pointer (some ⟨gs, 0, none⟩)) ∧ W2.cell? ⟨gs, 0, none⟩ = some v ∧ W2.cell? ⟨bx, 0, none⟩ = some (.int .i64 (a : Int)) ∧ W2.cell? ⟨bx, 1, none⟩ = some (.int .i64 ((a : Int) + cnt)) ∧ W2.cell? ⟨bx, 2, none⟩ = some (.slice none 0 0)) ∧ W2.frozen? ⟨gs, 0, none⟩ = false ∧ (W2.setCell ⟨gs, 0, none⟩ v1).cell? ⟨bx, 1, none⟩ = some (.int .i64 ((a : Int) + cnt)) ∧ HeadS w (W2.setCell ⟨gs, 0, none⟩ v1) p2 p3 gr gs gz xs n K i0 (j + 1) (H ++ [(a, a + cnt, z)]) (a + cnt) j2 v1 := by
  have hT := Ty.win h.ch.hdr
  have hlen : H.length = j := (headsO_fine h.got).1
  have o2 := h.op.step g3 hT (by decide) (fun k hk => (h.ch.hdr.at_ hk).1)
  have b2 := g3.get h.box h.nb
  have s2 := Ty.row g3 hT h.sz (by decide)
  have f3 : Fr (One gs) W2 (W2.setCell ⟨gs, 0, none⟩ v1) := Fr.setCell W2 _ _ rfl
  have hT3 := Ty.one o2.st
  have c2 : ChS W2 w.heap.size v1 ((H ++ [(a, a + cnt, z)]).map mk0) := by
    rw [List.map_append]
    exact ChS.push (f' := a) (t' := a + cnt) h.ch (by rw [List.length_map, hlen]; simpa using g1) g3
  have b3 := Ty.blk f3 hT3 b2 (by decide)
  have hd : hd1 xs n a i = some ((a, a + cnt, z), a + cnt, j2) := by
    unfold hd1
    rw [hl]
    simp only [he.1, he.2]
    rw [if_pos ⟨trivial, by omega, by omega⟩]
  refine ⟨⟨o2.cells.1, o2.cells.2.1, by simp [World.cell?, b2], by simp [World.cell?, b2], by simp [World.cell?, b2]⟩, o2.cells.2.2.2.1, by simp [World.cell?, b3], ⟨o2.put, by rw [headsO_snoc, h.got, Option.bind_some, hd]; rfl, c2.step f3 hT3 (by decide) (by decide), ?_⟩⟩
  · have e : szs (H ++ [(a, a + cnt, z)]) ++ List.replicate (K - (j + 1)) 0 = szs H ++ (z : Int) :: List.replicate (K - (j + 1)) 0 := by
      unfold szs
      simp
    rw [e]
    exact Ty.row f3 hT3 s2 (by decide)
end
theorem HeadT.bad {w W : World} {p2 p3 gr gs gz n K i0 j a i cnt z j1 j2 bx nx i1 : Nat} {e1 f1 f2 : Int} {xs : List Int} {H : List (Nat × Nat × Nat)} {v : Value} (h1 : rS xs 0 0 16384 = (n, i1, e1)) (h2 : rS xs i1 e1 (n : Nat) = (K, i0, 0)) (hlt : j < K)
    (h : HeadT w W p2 p3 gr gs gz xs n K i0 j H a i v cnt z j2 f2 bx) (he : rS xs i 0 16384 = (cnt, j1, f1) ∧ rS xs j1 f1 (nx : Nat) = (z, j2, f2)) (hl : xs.length = nx) (hbad : ¬ (0 < cnt ∧ a + cnt ≤ n ∧ f2 = 0)) : storeF xs = none := by
  have hd : hd1 xs n a i = none := by
    unfold hd1
    rw [hl]
    simp only [he.1, he.2]
    rw [if_neg (fun hc => hbad ⟨by omega, by omega, hc.1⟩)]
  have hh : headsO xs n (j + 1) 0 i0 = none := by rw [headsO_snoc, h.got, Option.bind_some, hd]; rfl
  rw [storeF_eq h1 h2, headsO_none hh K (by omega)]
  rfl
theorem HeadS.two {cnt z i1 i2 bx : Nat} {e1 e2 : Int} (h : HeadS w W p2 p3 gr gs gz xs n K i0 j H a i v) (hj : j < K) (f1 : Fr (One gr) W W1) (r1 : Rdr W1 w.heap.size gr xs i1 e1) (hbx : bx = W1.heap.size)
    (f2 : Fr (One gr) (W1.alloc (.cells #[.int .i64 (a : Int), .int .i64 ((a : Int) + cnt), .slice none 0 0] 118)) W2) (r2 : Rdr W2 w.heap.size gr xs i2 e2) :
    W2.cell? ⟨gz, j, none⟩ = some (.int .i64 0) ∧ W2.frozen? ⟨gz, j, none⟩ = false ∧ HeadT w (W2.setCell ⟨gz, j, none⟩ (.int .i64 (z : Int))) p2 p3 gr gs gz xs n K i0 j H a i v cnt z i2 e2 bx := by
  subst hbx
  have hl := h.len
  obtain ⟨c0, t0⟩ := h.op.rd.ty
  have o1 := (h.op.read f1 r1).no (Fr.alloc (S := No) W1 (.cells #[.int .i64 (a : Int), .int .i64 ((a : Int) + cnt), .slice none 0 0] 118))
  have o2 := o1.read f2 r2
  have ch1 := (h.ch.step f1 (Ty.one t0) (by decide) (by decide)).no (Fr.alloc (S := No) W1 (.cells #[.int .i64 (a : Int), .int .i64 ((a : Int) + cnt), .slice none 0 0] 118))
  obtain ⟨c1, t1⟩ := o1.rd.ty
  have ch2 := ch1.step f2 (Ty.one t1) (by decide) (by decide)
  have s1 := (Ty.row f1 (Ty.one t0) h.sz (by decide)).below (below_alloc (Below.refl _ _) (.cells #[.int .i64 (a : Int), .int .i64 ((a : Int) + cnt), .slice none 0 0] 118))
  have s2 := Ty.row f2 (Ty.one t1) s1 (by decide)
  have bx2 := Ty.blk f2 (Ty.one t1) (heap_alloc_new W1 (.cells #[.int .i64 (a : Int), .int .i64 ((a : Int) + cnt), .slice none 0 0] 118)) (by decide)
  have hx : (nums .i64 (szs H ++ List.replicate (K - j) 0))[j]? = some (.int .i64 0) := by
    unfold nums
    rw [List.getElem?_map, List.getElem?_append_right (by unfold szs; rw [List.length_map]; omega)]
    unfold szs
    rw [List.length_map, hl, Nat.sub_self]
    have : 0 < K - j := by omega
    simp [List.getElem?_replicate, this]
  obtain ⟨k1, k2⟩ := s2.cell hx
  rw [Nat.zero_add] at k1 k2
  obtain ⟨s3, f3⟩ := s2.store j hj (.int .i64 (z : Int))
  rw [Nat.zero_add] at s3 f3
  have hT3 := Ty.win s2
  refine ⟨k1, k2, o2.step f3 hT3 (by decide) (fun i hi => (s2.at_ hi).1), h.got, ch2.step f3 hT3 (by decide) (by decide), ?_, Ty.blk f3 hT3 bx2 (by decide), fun hk => by have h9 := (h.ch.hdr.at_ hk).2.1; have h8 := f1.size; omega⟩
  have e : (nums .i64 (szs H ++ List.replicate (K - j) 0)).set j (.int .i64 (z : Int)) = nums .i64 (szs H ++ (z : Int) :: List.replicate (K - (j + 1)) 0) := by
    unfold nums
    rw [← List.map_set, List.set_append_right _ _ (by unfold szs; rw [List.length_map]; omega)]
    have : K - j = (K - (j + 1)) + 1 := by omega
    rw [this, List.replicate_succ]
    have h0 : j - (szs H).length = 0 := by unfold szs; rw [List.length_map]; omega
    rw [h0]
    rfl
  rw [e] at s3
  exact s3
end
/-- A region's post, where a panic is told by the world and three slots alone. -/
def Q40 (Q : Exit → Act → World → Prop) (p2 p3 : Nat) (ds : List Deferred) (PW : World → Prop) : Exit → Act → World → Prop
  | .panic c, a, w => c = [corruptP] ∧ a.tmps.getD 2 undef = .pointer (some ⟨p2, 0, none⟩) ∧ a.tmps.getD 3 undef = .pointer (some ⟨p3, 0, none⟩) ∧ a.defers = ds ∧ PW w
  | .normal, a, w => Q .normal a w
  | .exit i, a, w => Q (.exit i) a w
  | .goto t, a, w => Q (.goto t) a w
  | .ret, a, w => Q .ret a w
  | .outgrown, a, w => Q .outgrown a w
theorem Q40.back {Q : Exit → Act → World → Prop} {p2 p3 d : Nat} {ds : List Deferred} {PW : World → Prop} {c : List PanicEntry} {a : Act} {v : Value} {w : World} (h2 : d ≠ 2) (h3 : d ≠ 3) (h : Q40 Q p2 p3 ds PW (.panic c) (a.put (some d) v) w) : Q40 Q p2 p3 ds PW (.panic c) a w := by
  obtain ⟨k1, k2, k3, k4, k5⟩ := h
  refine ⟨k1, ?_, ?_, k4, k5⟩
  · rw [← k2]
    simp [Act.put, Array.getElem?_setIfInBounds, h2]
  · rw [← k3]
    simp [Act.put, Array.getElem?_setIfInBounds, h3]
theorem q40_mono {Q : Exit → Act → World → Prop} {p2 p3 : Nat} {ds : List Deferred} {PW : World → Prop} (h : ∀ a w, a.tmps.getD 2 undef = .pointer (some ⟨p2, 0, none⟩) → a.tmps.getD 3 undef = .pointer (some ⟨p3, 0, none⟩) → a.defers = ds → PW w → Q (.panic [corruptP]) a w) : ∀ e a w, Q40 Q p2 p3 ds PW e a w → Q e a w := fun e a w hq => by
  cases e with
  | panic c =>
    obtain ⟨rfl, k2, k3, k4, k5⟩ := hq
    exact h a w k2 k3 k4 k5
  | normal => exact hq
  | exit i => exact hq
  | goto t => exact hq
  | ret => exact hq
  | outgrown => exact hq
theorem good_pan (w : World) (base g i : Nat) (xs : List Int) (e : Int) (b : Bool) (hbad : ¬ (e = 0 ∧ b = true)) (h : Rdr w base g xs i e) : Calls Try.prog 86 #[.pointer (some ⟨g, 0, none⟩), .bool b] w fun e' w' => e' = .panicked [corruptP] ∧ w' = w :=
  (good_any w base g i xs e b h).mono fun e' w' h => by rwa [if_neg hbad] at h
theorem src_chunk (W : World) (x y : Int) (z : Value) (hz : z.oneCell' = true := by rfl) : Src Try.prog (W.alloc (.cells #[.int .i64 x, .int .i64 y, z] 118)) 3 (.slice (some ⟨W.heap.size, 0, none⟩) 1 1) 1 [.int .i64 x, .int .i64 y, z] :=
  Src.of_rd (rdv_lit_at W 118 [.int .i64 x, .int .i64 y, z] rfl) rfl (by
    intro u hu
    simp only [List.mem_cons, List.mem_nil_iff, or_false] at hu
    rcases hu with rfl | rfl | rfl
    · rfl
    · rfl
    · exact hz)
theorem HeadS.start {w W : World} {p2 p3 gr gs gz n K i0 : Nat} {xs : List Int} (h : OpS w W p2 p3 gr gs xs i0 0 (.slice none 0 0) n) (hgz : gz = W.heap.size) (hK : K ≤ 1048576 := by omega) : HeadS w (W.alloc (.cells (nums .i64 (List.replicate K 0)).toArray 3)).drew p2 p3 gr gs gz xs n K i0 0 [] 0 i0 (.slice none 0 0) := by
  have f : Fr No W (W.alloc (.cells (nums .i64 (List.replicate K 0)).toArray 3)).drew := Fr.of_No (below_drew (below_alloc (Below.refl _ _) _))
  refine ⟨h.no f, rfl, ChS.nil _ _, ?_⟩
  have h1 := lit_winT W 3 (nums .i64 (List.replicate K 0)) (by rw [nums_length, List.length_replicate]; omega)
  rw [nums_length, List.length_replicate] at h1
  rw [hgz]
  exact (h1.lower h.bel.size).below (below_drew (Below.refl _ _))
/-- The store is laid. -/
theorem OpS.start {w w1 w2 : World} {p2 p3 gr gs i1 n B : Nat} {e1 : Int} {xs : List Int} (hp2 : p2 = w.heap.size) (hp3 : p3 = w.heap.size + 1)
    (f1 : Fr No ((w.alloc (.cells #[.pointer none] 49)).alloc (.cells #[.int .i64 0] 29)) w1) (r1 : Rdr w1 B gr xs 0 0) (hB : w.heap.size ≤ B) (f2 : Fr (One gr) w1 w2) (r2 : Rdr w2 B gr xs i1 e1) (hgs : gs = w2.heap.size) :
    (w2.alloc (.cells #[.slice none 0 0, .int .i64 (n : Int)] 121)).cell? ⟨p2, 0, none⟩ = some (.pointer none) ∧ (w2.alloc (.cells #[.slice none 0 0, .int .i64 (n : Int)] 121)).frozen? ⟨p2, 0, none⟩ = false ∧
    OpS w ((w2.alloc (.cells #[.slice none 0 0, .int .i64 (n : Int)] 121)).setCell ⟨p2, 0, none⟩ (.pointer (some ⟨gs, 0, none⟩))) p2 p3 gr gs xs i1 e1 (.slice none 0 0) n := by
  subst hgs
  have b0 : Below w.heap.size w w1 := accNo (accAlloc (accAlloc (Below.refl _ _) (Nat.le_refl _) _) (Nat.le_refl _) _) (Nat.le_refl _) f1
  obtain ⟨c0, t0⟩ := r1.ty
  have x2 : ((w.alloc (.cells #[.pointer none] 49)).alloc (.cells #[.int .i64 0] 29)).heap[p2]? = some (.cells #[.pointer none] 49 (0, 0)) := by
    rw [hp2]
    exact blk_alloc (heap_alloc_new w _) _
  have x3 : ((w.alloc (.cells #[.pointer none] 49)).alloc (.cells #[.int .i64 0] 29)).heap[p3]? = some (.cells #[.int .i64 0] 29 (0, 0)) := by
    rw [hp3]
    have := heap_alloc_new (w.alloc (.cells #[.pointer none] 49)) (.cells #[.int .i64 0] 29)
    rwa [World.size_alloc] at this
  have y2 := blk_alloc (Ty.blk f2 (Ty.one t0) (f1.get x2 (fun h => h)) (by decide)) (.cells #[.slice none 0 0, .int .i64 (n : Int)] 121)
  have y3 := blk_alloc (Ty.blk f2 (Ty.one t0) (f1.get x3 (fun h => h)) (by decide)) (.cells #[.slice none 0 0, .int .i64 (n : Int)] 121)
  have ys := heap_alloc_new w2 (.cells #[.slice none 0 0, .int .i64 (n : Int)] 121)
  have yr := r2.below (below_alloc (Below.refl _ _) (.cells #[.slice none 0 0, .int .i64 (n : Int)] 121))
  have b1 : Below w.heap.size w (w2.alloc (.cells #[.slice none 0 0, .int .i64 (n : Int)] 121)) := accAlloc (acc b0 (Nat.le_refl _) f2 (fun j hj => by have hj' : j = gr := hj; have := r1.1; omega)) (Nat.le_refl _) _
  have hsz : w.heap.size ≤ w2.heap.size := Nat.le_trans b0.size f2.size
  generalize hX : w2.alloc (.cells #[.slice none 0 0, .int .i64 (n : Int)] 121) = X at *
  have f3 : Fr (One p2) X (X.setCell ⟨p2, 0, none⟩ (.pointer (some ⟨w2.heap.size, 0, none⟩))) := Fr.setCell _ _ _ rfl
  refine ⟨by simp [World.cell?, y2], by simp [World.frozen?, y2], acc b1 (Nat.le_refl _) f3 (fun j hj => by have hj' : j = p2 := hj; omega), by simp [World.setCell, Array.getElem?_modify, y2], Ty.blk f3 (Ty.one y2) y3 (by decide), Ty.blk f3 (Ty.one y2) ys (by decide), (Ty.rdr f3 (Ty.one y2) yr (by decide) (by decide)).lower hB, by omega, by omega, hsz⟩
end Go.Proofs.Ytchcimkmjoegdaa.C
namespace Go.Proofs.Ytchcimkmjoegdaa.C
open Go.RowKit Go.Proofs.YtchcimkmjoegdaaW.PrintWords Go.Proofs.YtchcimkmjoegdaaW.PrintMore Go.Proofs.Ytchcimkmjoegdaa.M
set_option linter.unusedVariables false
set_option linter.unusedSimpArgs false

/-- A range over the documents that does nothing. -/
theorem wp_rangeNone {g : Operand} {p0 p1 : Tmp} {id : Nat} {Q : Exit → Act → World → Prop} {a : Act} {w : World} {gb f t nb c : Nat} {A : Option Addr} {b : List Int}
    (hg : a.eval g = .func (.func 112) #[] #[.pointer (some ⟨gb, 0, none⟩)])
    (hbox : w.heap[gb]? = some (.cells #[.int .i64 (f : Int), .int .i64 (t : Int), .slice A nb c] 118 (0, 0)))
    (hr : RdV w A (nums .u8 b)) (hl : b.length = nb) (hb : Byt b) (h0 : A = none → c = 0) (hc : nb ≤ c) (hn : nb ≤ 140737488355328) (hft : f ≤ t) (ht : t ≤ 16384)
    (hdone : ∀ (D : Nat) (dl : List (List Ent)) (W : World), w.heap.size ≤ D → W.heap[D]? = some (.deferred (some [])) → chunkO b (t - f) = some dl → Fr No w W → Q .normal { a with defers := mkD D :: a.defers } W)
    (hpanic : ∀ (D : Nat) (W : World), w.heap.size ≤ D → W.heap[D]? = some (.deferred (some [])) → chunkO b (t - f) = none → Fr No w W → Q (.panic [corruptP]) { a with defers := mkD D :: a.defers } W) :
    (Code.rangeFunc g #[p0, p1] .skip (.block id .skip)).wp Try.prog Q a w := by
  refine wp_rangeDocs hg hbox hr hl hb h0 hc hn hft ht (fun _ W => Fr No w W) (fun _ _ => False) (fun _ X Y x hi hB _ hf => ?_) (fun _ X Y x hi _ _ _ => hi) (Fr.refl _ _) (fun x y => { tmps := (a.tmps.setIfInBounds p0 x).setIfInBounds p1 y, defers := [] }) (fun l x y W K hK => wpIn_skip hK)
    (fun l pre x W _ _ hi _ _ _ => wpIn_block (wpIn_skip ⟨KeepsOthers.refl _, Kp.refl _, hi⟩)) (fun D dl W hD hm hS hi => hdone D _ W hD hm hS hi) (fun D pre j W _ _ _ hx => hx.elim) (fun D pre W hD hm hS hi => hpanic D W hD hm hS hi)
  exact hi.trans hf (fun _ _ h => h) (fun i hlt h => by have h' : i = x := h; omega)
theorem Byt.drop {a : List Int} (ha : Byt a) (n : Nat) : Byt (a.drop n) := fun x hx => ha x (List.mem_of_mem_drop hx)
theorem rB_byt {xs : List Int} {i : Nat} {e m : Int} (hb : Byt xs) : Byt (rB xs i e m).1 ∧ (rB xs i e m).1.length ≤ xs.length := by
  unfold rB
  split
  · split
    · refine ⟨(hb.drop i).take _, ?_⟩
      simp only [List.length_take, List.length_drop]
      omega
    · exact ⟨fun x hx => (nomatch hx), Nat.zero_le _⟩
  · exact ⟨fun x hx => (nomatch hx), Nat.zero_le _⟩
theorem bodiesO_fine {xs : List Int} : ∀ {H : List (Nat × Nat × Nat)} {i : Nat} {C : List Chk} {D : List (List Ent)} {j : Nat}, bodiesO xs H i = some (C, D, j) → D = C.flatMap (fun c => (chunkO c.b (c.t - c.f)).getD []) ∧ ∀ c ∈ C, ∃ d, chunkO c.b (c.t - c.f) = some d
  | [], i, C, D, j, h => by
    rw [bodiesO] at h
    injection h with h
    injection h with h1 h2
    injection h2 with h2 _
    subst h1
    subst h2
    exact ⟨rfl, fun c hc => (nomatch hc)⟩
  | h0 :: H, i, C, D, j, h => by
    rw [bodiesO_cons, Option.bind_eq_some_iff] at h
    obtain ⟨q, h1, h2⟩ := h
    rw [Option.map_eq_some_iff] at h2
    obtain ⟨⟨C', D', j'⟩, h3, h4⟩ := h2
    injection h4 with h4 h5
    injection h5 with h5 _
    subst h4
    subst h5
    obtain ⟨k1, k2⟩ := bodiesO_fine h3
    have hq : chunkO q.1.1.b (q.1.1.t - q.1.1.f) = some q.1.2 := by
      unfold bd1 at h1
      simp only at h1
      split at h1
      · rw [Option.map_eq_some_iff] at h1
        obtain ⟨d, h6, h7⟩ := h1
        subst h7
        exact h6
      · cases h1
    refine ⟨by rw [List.flatMap_cons, hq, k1]; rfl, fun c hc => ?_⟩
    rcases List.mem_cons.1 hc with rfl | hc
    · exact ⟨_, hq⟩
    · exact k2 c hc
theorem storeF_heads {xs : List Int} {n i1 K i2 a i : Nat} {e1 : Int} {H : List (Nat × Nat × Nat)} (h1 : rS xs 0 0 16384 = (n, i1, e1)) (h2 : rS xs i1 e1 (n : Nat) = (K, i2, 0)) (h3 : headsO xs n K 0 i2 = some (H, a, i)) :
    storeF xs = if a = n then (bodiesO xs H i).bind fun r => if r.2.2 = xs.length ∧ okDs r.2.1 = true ∧ buildB r.2.1 = xs then some (r.1, r.2.1) else none else none := by
  rw [storeF_eq h1 h2, h3]
  rfl
/-- Behind j bodies. -/
structure BodS (w W : World) (p2 p3 gr gs gz : Nat) (xs : List Int) (n K : Nat) (H : List (Nat × Nat × Nat)) (i0 j : Nat) (P : List (Value × Chk)) (D : List (List Ent)) (i : Nat) (v : Value) (ms : List Nat) : Prop where
  op : OpS w W p2 p3 gr gs xs i 0 v n
  got : bodiesO xs (H.take j) i0 = some (P.map Prod.snd, D, i)
  ch : ChS W w.heap.size v (P ++ (H.drop j).map mk0)
  sz : Win W w.heap.size 3 1 (.slice (some ⟨gz, 0, none⟩) K K) K (nums .i64 (szs H))
  mks : Marks w W ms
  plen : P.length = j
  hlen : H.length = K
/-- A body was read and laid. -/
structure BodT (w W : World) (p2 p3 gr gs gz : Nat) (xs : List Int) (n K : Nat) (H : List (Nat × Nat × Nat)) (i0 j : Nat) (P : List (Value × Chk)) (D : List (List Ent)) (i : Nat) (v : Value) (ms : List Nat) (u : Value) (b : List Int) (f t i' : Nat) (e' : Int) : Prop where
  op : OpS w W p2 p3 gr gs xs i' e' v n
  got : bodiesO xs (H.take j) i0 = some (P.map Prod.snd, D, i)
  ch : ChS W w.heap.size v (P ++ (u, ⟨f, t, b⟩) :: (H.drop (j + 1)).map mk0)
  sz : Win W w.heap.size 3 1 (.slice (some ⟨gz, 0, none⟩) K K) K (nums .i64 (szs H))
  mks : Marks w W ms
  plen : P.length = j
  hlen : H.length = K
section
variable {w W W1 W2 : World} {p2 p3 gr gs gz n K i0 j i i' f t z gv off cv : Nat} {xs : List Int} {H : List (Nat × Nat × Nat)} {P : List (Value × Chk)} {D : List (List Ent)} {v u : Value} {ms : List Nat} {b : List Int} {e' : Int}
theorem BodS.no (h : BodS w W p2 p3 gr gs gz xs n K H i0 j P D i v ms) (fr : Fr No W W1) : BodS w W1 p2 p3 gr gs gz xs n K H i0 j P D i v ms :=
  ⟨h.op.no fr, h.got, h.ch.no fr, h.sz.below fr.no, h.mks.fr fr (Ty.none _ 0), h.plen, h.hlen⟩
theorem BodT.no (h : BodT w W p2 p3 gr gs gz xs n K H i0 j P D i v ms u b f t i' e') (fr : Fr No W W1) : BodT w W1 p2 p3 gr gs gz xs n K H i0 j P D i v ms u b f t i' e' :=
  ⟨h.op.no fr, h.got, h.ch.no fr, h.sz.below fr.no, h.mks.fr fr (Ty.none _ 0), h.plen, h.hlen⟩
theorem BodS.drop (h : BodS w W p2 p3 gr gs gz xs n K H i0 j P D i v ms) (hh : H[j]? = some (f, t, z)) : H.drop j = (f, t, z) :: H.drop (j + 1) := by
  obtain ⟨h1, h2⟩ := List.getElem?_eq_some_iff.1 hh
  rw [List.drop_eq_getElem_cons h1, h2]
theorem BodS.size (h : BodS w W p2 p3 gr gs gz xs n K H i0 j P D i v ms) (hh : H[j]? = some (f, t, z)) : W.cell? ⟨gz, j, none⟩ = some (.int .i64 (z : Int)) := by
  have hx : (nums .i64 (szs H))[j]? = some (.int .i64 (z : Int)) := by
    unfold nums szs
    rw [List.getElem?_map, List.getElem?_map, hh]
    rfl
  have := (h.sz.cell hx).1
  rwa [Nat.zero_add] at this
theorem BodS.lay (h : BodS w W p2 p3 gr gs gz xs n K H i0 j P D i (.slice (some ⟨gv, off, none⟩) K cv) ms) (hh : H[j]? = some (f, t, z)) (fr : Fr (One gr) W W1) (hr : Rdr W1 w.heap.size gr xs i' e') (hu : Acc W1 W.heap.size u b) :
    W1.cell? ⟨gv, off + j * 3 + 2, none⟩ = some (.slice none 0 0) ∧ W1.frozen? ⟨gv, off + j * 3 + 2, none⟩ = false ∧
    (W1.setCell ⟨gv, off + j * 3 + 2, none⟩ u).cell? ⟨gv, off + j * 3, none⟩ = some (.int .i64 (f : Int)) ∧ (W1.setCell ⟨gv, off + j * 3 + 2, none⟩ u).cell? ⟨gv, off + j * 3 + 1, none⟩ = some (.int .i64 (t : Int)) ∧ (W1.setCell ⟨gv, off + j * 3 + 2, none⟩ u).cell? ⟨gv, off + j * 3 + 2, none⟩ = some u ∧
    BodT w (W1.setCell ⟨gv, off + j * 3 + 2, none⟩ u) p2 p3 gr gs gz xs n K H i0 j P D i (.slice (some ⟨gv, off, none⟩) K cv) ms u b f t i' e' := by
  rw [Nat.add_assoc off (j * 3) 2, Nat.add_assoc off (j * 3) 1]
  obtain ⟨cs, hc⟩ := h.op.rd.ty
  have hT := Ty.one hc
  have o1 := h.op.read fr hr
  have c1 := h.ch.step fr hT (by decide) (by decide)
  rw [h.drop hh, List.map_cons] at c1
  have hjl : j < H.length := (List.getElem?_eq_some_iff.1 hh).1
  have hlen : P.length + (((H.drop (j + 1)).map mk0).length + 1) = K := by
    rw [List.length_map, List.length_drop, h.plen]
    have := h.hlen
    omega
  obtain ⟨c2, f2⟩ := ChS.put (u0 := .slice none 0 0) (b0 := []) c1 hlen (Win.lower hu h.op.bel.size)
  have hp := h.plen
  rw [hp] at c2 f2
  have hT2 := Ty.win c1.hdr
  have hcl : (P ++ mk0 (f, t, z) :: (H.drop (j + 1)).map mk0).length = K := by rw [List.length_append, List.length_cons]; exact hlen
  obtain ⟨_, _, k5, k6⟩ := c1.cells (j := j) hcl (by rw [List.getElem?_append_right (by omega), hp, Nat.sub_self]; rfl)
  obtain ⟨⟨m1, _⟩, ⟨m2, _⟩, m3, _⟩ := c2.cells (j := j) (by rw [List.length_append, List.length_cons]; exact hlen) (by rw [List.getElem?_append_right (by omega), hp, Nat.sub_self]; rfl)
  rw [Nat.add_assoc] at k5 k6 m2 m3
  refine ⟨k5, k6, m1, m2, m3, ⟨o1.step f2 hT2 (by decide) (fun k hk => ?_), h.got, c2, Ty.row f2 hT2 (Ty.row fr hT h.sz (by decide)) (by decide), (h.mks.fr fr hT).fr f2 hT2, h.plen, h.hlen⟩⟩
  have hd := c1.hdr
  rw [hcl] at hd
  exact (hd.at_ hk).1
/-- The mark of this round's loop. -/
theorem BodT.mark {Dm : Nat} (h : BodT w W p2 p3 gr gs gz xs n K H i0 j P D i v ms u b f t i' e') (fr : Fr No W W1) (hD : W.heap.size ≤ Dm) (hm : W1.heap[Dm]? = some (.deferred (some []))) : Marks w W1 (Dm :: ms) :=
  (h.mks.fr fr (Ty.none _ 0)).push hm (Nat.le_trans h.op.bel.size hD) (fun x hx e => by
    subst e
    have := blk_lt (h.mks.at_ x hx)
    omega)
theorem BodT.next {Dm : Nat} {dl : List (List Ent)} (h : BodT w W p2 p3 gr gs gz xs n K H i0 j P D i v ms u b f t i' 0) (hh : H[j]? = some (f, t, z)) (hB : rB xs i 0 (z : Nat) = (b, i', 0)) (hch : chunkO b (t - f) = some dl) (fr : Fr No W W1) (hD : W.heap.size ≤ Dm) (hm : W1.heap[Dm]? = some (.deferred (some []))) :
    BodS w W1 p2 p3 gr gs gz xs n K H i0 (j + 1) (P ++ [(u, ⟨f, t, b⟩)]) (D ++ dl) i' v (Dm :: ms) := by
  refine ⟨h.op.no fr, ?_, ?_, h.sz.below fr.no, h.mark fr hD hm, by rw [List.length_append, h.plen]; rfl, h.hlen⟩
  · rw [List.take_add_one, hh]
    show bodiesO xs (H.take j ++ [(f, t, z)]) i0 = _
    rw [bodiesO_snoc, h.got, Option.bind_some]
    unfold bd1
    simp only [hB, if_true, hch, Option.map_some]
    simp
  · have := h.ch.no fr
    rw [List.append_assoc]
    exact this
theorem BodT.bad {e1 : Int} {a i1 i2 : Nat} (h : BodT w W p2 p3 gr gs gz xs n K H i0 j P D i v ms u b f t i' e') (h1 : rS xs 0 0 16384 = (n, i1, e1)) (h2 : rS xs i1 e1 (n : Nat) = (K, i2, 0)) (h3 : headsO xs n K 0 i2 = some (H, a, i0)) (hh : H[j]? = some (f, t, z)) (hB : rB xs i 0 (z : Nat) = (b, i', e')) (hbad : e' ≠ 0 ∨ chunkO b (t - f) = none) : storeF xs = none := by
  have hn : bodiesO xs (H.take (j + 1)) i0 = none := by
    rw [List.take_add_one, hh]
    show bodiesO xs (H.take j ++ [(f, t, z)]) i0 = _
    rw [bodiesO_snoc, h.got, Option.bind_some]
    have : bd1 xs (f, t, z) i = none := by
      unfold bd1
      simp only [hB]
      rcases hbad with hb | hb
      · rw [if_neg hb]
      · split
        · rw [hb]; rfl
        · rfl
    rw [this]
    rfl
  have hn2 : bodiesO xs H i0 = none := by
    have := bodiesO_none (T := H.drop (j + 1)) hn
    rwa [List.take_append_drop] at this
  rw [storeF_heads h1 h2 h3, hn2]
  split <;> rfl
end
end Go.Proofs.Ytchcimkmjoegdaa.C
namespace Go.Proofs.Ytchcimkmjoegdaa.C
open Go.RowKit Go.Proofs.YtchcimkmjoegdaaW.PrintWords Go.Proofs.YtchcimkmjoegdaaW.PrintMore Go.Proofs.Ytchcimkmjoegdaa.M
set_option linter.unusedVariables false
set_option linter.unusedSimpArgs false

/-- append(s, x) of one element by way of its box, in a round. -/
theorem wplIn_append1 {F : Fence} {n0 : Nat} {P : Program} {ops : Array Oper} {rest : List Oper} {o : Oper} {a : Act} {Q : Exit → Act → World → Prop} (w : World) (base : Nat) (hgd : o.guard = none) (s x : Operand) (t e : TypeId) (z : Value) (size bytes : Nat)
    (ho : o.op = .call { callee := .builtin .append, args := #[s, x], argTypes := #[t, t] })
    (ht : P.underlying t = some (.slice e)) (hinfo : (P.info? e).map (fun i => (i.zero, i.size, i.bytes)) = some (some z, size, bytes)) (hzs : z.cells.size = size)
    (v : Value) (n : Nat) (xs ys : List Value) (hs : a.eval s = v) (hx : a.eval x = .slice (some ⟨w.heap.size, 0, none⟩) 1 1)
    (HW : Win w base e size v n xs) (hys : ys.length = size) (h1 : ∀ u ∈ ys, u.oneCell' = true) (hbase : base ≤ w.heap.size) (hm : n + 1 ≤ maxLen) (hl : (n + 1 + (n + 1) / 4 + 700) * bytes ≤ 281474976710656)
    (h : ∀ v1 w1, Win w1 base e size v1 (n + 1) (xs ++ ys) → Fr (At v) w w1 → wpListIn F n0 P ops Q rest (a.put o.dst v1) w1) :
    wpListIn F n0 P ops Q (o :: rest) a (w.alloc (.cells ys.toArray e)) := by
  obtain ⟨i0, hi, hzz⟩ := Option.map_eq_some_iff.1 hinfo
  simp only [Prod.mk.injEq] at hzz
  obtain ⟨hz0, hz1, hz2⟩ := hzz
  subst hz1
  subst hz2
  have hsrc : Src P (w.alloc (.cells ys.toArray e)) i0.size (.slice (some ⟨w.heap.size, 0, none⟩) 1 1) 1 ys := Src.of_rd (fun _ => ⟨_, rfl, by simpa using World.news_of_block (cs := ys.toArray) (t := e) (fr := (0, 0)) (heap_alloc_new w (.cells ys.toArray e))⟩) (by omega) h1
  obtain ⟨v1, w1, hr, g1, _, g3, _⟩ := run_append_win (P := P) (w.alloc (.cells ys.toArray e)) base t t o.type e i0 z (.slice e) ht ht (.inl ⟨_, rfl⟩) hi hz0 hzs v n xs (HW.below (below_alloc (Below.refl _ _) _)) _ 1 ys hsrc hm hl (by simp; omega)
  refine wpListIn_plain hgd fun K hK' => ?_
  unfold Oper.wpIn
  refine ⟨?_, ?_⟩
  · simp [Oper.about, ho, resolve, Target.leads, Sem.run_pure]
  · rw [Oper.semAt_plain F _ _ (by rw [ho]; intro c hc'; cases hc')]
    simp [execOp, ho, resolve, invoke, builtin, hs, hx, hr, Result.andThen]
    exact hK' _ _ (h v1 w1 g1 ((Fr.alloc (S := At v) w _).trans g3 (fun _ _ h => h) (fun _ _ h => h)))
/-! ### what an iterator's step leaves -/
section
variable {W W' : World} {g : Nat}
theorem Ab.blk (hg : ∀ o, W.heap[g]? = some o → o.isCells = false ∨ ∃ cs m, o = .cells cs 108 m) (f : Fr (One g) W W') {k t : Nat} {cs : Array Value} {m : Nat × Nat} (h : W.heap[k]? = some (.cells cs t m)) (ht : t ≠ 108) : W'.heap[k]? = some (.cells cs t m) :=
  f.get h (fun e => by
    have e' : k = g := e
    subst e'
    rcases hg _ h with h1 | ⟨cs', m', h1⟩
    · cases h1
    · injection h1 with _ h1 _
      exact ht h1)
theorem Ab.row (hg : ∀ o, W.heap[g]? = some o → o.isCells = false ∨ ∃ cs m, o = .cells cs 108 m) (f : Fr (One g) W W') {B e size n : Nat} {v : Value} {xs : List Value} (h : Win W B e size v n xs) (he : e ≠ 108) : Win W' B e size v n xs :=
  h.move fun k hk _ => by
    obtain ⟨_, _, cur, hc⟩ := h.at_ hk
    rw [hc]
    exact Ab.blk hg f hc he
theorem Ab.doc (hg : ∀ o, W.heap[g]? = some o → o.isCells = false ∨ ∃ cs m, o = .cells cs 108 m) (f : Fr (One g) W W') {B : Nat} {v : Value} {D : List (Value × Ent)} (h : DocW W B v D) : DocW W' B v D :=
  ⟨Ab.row hg f h.hdr (by decide), fun p hp => Ab.row hg f (h.part p hp) (by decide), h.sep⟩
theorem Ab.chs (hg : ∀ o, W.heap[g]? = some o → o.isCells = false ∨ ∃ cs m, o = .cells cs 108 m) (f : Fr (One g) W W') {B : Nat} {v : Value} {C : List (Value × Chk)} (h : ChS W B v C) : ChS W' B v C :=
  ⟨Ab.row hg f h.hdr (by decide), fun p hp => Ab.row hg f (h.part p hp) (by decide)⟩
theorem Ab.rdr (hg : ∀ o, W.heap[g]? = some o → o.isCells = false ∨ ∃ cs m, o = .cells cs 108 m) (f : Fr (One g) W W') {B gr i : Nat} {xs : List Int} {e : Int} (h : Rdr W B gr xs i e) (hne : gr ≠ g) : Rdr W' B gr xs i e := by
  obtain ⟨h1, h2, v, h3, h4⟩ := h
  exact ⟨h1, h2, v, f.get h3 (fun e => hne e), Ab.row hg f h4 (by decide)⟩
theorem Ab.op (hg : ∀ o, W.heap[g]? = some o → o.isCells = false ∨ ∃ cs m, o = .cells cs 108 m) (f : Fr (One g) W W') {w : World} {p2 p3 gr gs i n : Nat} {xs : List Int} {e : Int} {v : Value} (h : OpS w W p2 p3 gr gs xs i e v n) (hne : gr ≠ g) (hge : w.heap.size ≤ g) : OpS w W' p2 p3 gr gs xs i e v n :=
  ⟨accOne h.bel (Nat.le_refl _) f hge, Ab.blk hg f h.b2 (by decide), Ab.blk hg f h.b3 (by decide), Ab.blk hg f h.st (by decide), Ab.rdr hg f h.rd hne, h.h2, h.h3, h.hs⟩
theorem Ab.marks (f : Fr (One g) W W') {w : World} {ms : List Nat} (h : Marks w W ms) (hn : ∀ D ∈ ms, D ≠ g) : Marks w W' ms :=
  ⟨fun D hD => f.get (h.at_ D hD) (fun e => hn D hD e), h.ge, h.nd⟩
theorem Ty.others {S : Nat → Prop} {t : Nat} (f : Fr S W W') (hT : Ty W S t) : KeepsOthers W W' :=
  ⟨f.size, fun k o hk ho => f.get hk (fun hs => by
    obtain ⟨cs, hc⟩ := hT k hs
    rw [hk] at hc
    injection hc with hc
    rw [hc] at ho
    cases ho)⟩
theorem Ty.kp {S : Nat → Prop} {t : Nat} (f : Fr S W W') (hT : Ty W S t) (ht : t ≠ 5 ∧ t ≠ 108 ∧ t ≠ 118) : Kp W W' :=
  Kp.fr f (fun k cs t' m hs hk => by
    obtain ⟨cs', hc⟩ := hT k hs
    rw [hk] at hc
    injection hc with hc
    injection hc with _ hc _
    rw [hc]
    exact ht)
end
/-- The documents so far. -/
structure AllS (w W : World) (p2 p3 gr gs : Nat) (xs : List Int) (i : Nat) (v : Value) (n : Nat) (C : List (Value × Chk)) (p12 : Nat) (vA : Value) (L : List (Value × List (Value × Ent))) (ms : List Nat) : Prop where
  op : OpS w W p2 p3 gr gs xs i 0 v n
  ch : ChS W w.heap.size v C
  bx : W.heap[p12]? = some (.cells #[vA] 56 (0, 0))
  row : Win W w.heap.size 52 1 vA L.length (L.map Prod.fst)
  docs : ∀ x ∈ L, DocW W w.heap.size x.1 x.2 ∧ okD (docOf x) = true ∧ ∀ e ∈ docOf x, I64 e.ns
  hb : w.heap.size ≤ p12
  mks : Marks w W ms
section
variable {w W W1 W' : World} {p2 p3 gr gs i n p12 g : Nat} {xs : List Int} {v vA v1 : Value} {C : List (Value × Chk)} {L : List (Value × List (Value × Ent))} {ms : List Nat}
theorem AllS.abd (h : AllS w W p2 p3 gr gs xs i v n C p12 vA L ms) (hg : ∀ o, W.heap[g]? = some o → o.isCells = false ∨ ∃ cs m, o = .cells cs 108 m) (f : Fr (One g) W W') (hne : gr ≠ g) (hge : w.heap.size ≤ g) (hn : ∀ D ∈ ms, D ≠ g) : AllS w W' p2 p3 gr gs xs i v n C p12 vA L ms :=
  ⟨Ab.op hg f h.op hne hge, Ab.chs hg f h.ch, Ab.blk hg f h.bx (by decide), Ab.row hg f h.row (by decide), fun x hx => ⟨Ab.doc hg f (h.docs x hx).1, (h.docs x hx).2⟩, h.hb, Ab.marks f h.mks hn⟩
theorem AllS.no (h : AllS w W p2 p3 gr gs xs i v n C p12 vA L ms) (f : Fr No W W') : AllS w W' p2 p3 gr gs xs i v n C p12 vA L ms :=
  ⟨h.op.no f, h.ch.no f, f.get h.bx (fun h => h), h.row.below f.no, fun x hx => ⟨(h.docs x hx).1.below f.no, (h.docs x hx).2⟩, h.hb, h.mks.fr f (Ty.none _ 0)⟩
theorem DocW.ty {S : Nat → Prop} {t B : Nat} {v : Value} {D : List (Value × Ent)} (h : DocW W B v D) (f : Fr S W W') (hT : Ty W S t) (h1 : 134 ≠ t) (h2 : 2 ≠ t) : DocW W' B v D :=
  ⟨Ty.row f hT h.hdr h1, fun p hp => Ty.row f hT (h.part p hp) h2, h.sep⟩
theorem AllS.add {x : Value × List (Value × Ent)} (h : AllS w W p2 p3 gr gs xs i v n C p12 vA L ms) (hd : DocW W w.heap.size x.1 x.2) (ho : okD (docOf x) = true) (hi : ∀ e ∈ docOf x, I64 e.ns)
    (g1 : Win W1 w.heap.size 52 1 v1 (L.length + 1) (L.map Prod.fst ++ [x.1])) (g3 : Fr (At vA) W W1) :
    W1.cell? ⟨p12, 0, none⟩ = some vA ∧ W1.frozen? ⟨p12, 0, none⟩ = false ∧ AllS w (W1.setCell ⟨p12, 0, none⟩ v1) p2 p3 gr gs xs i v n C p12 v1 (L ++ [x]) ms ∧ KeepsOthers W (W1.setCell ⟨p12, 0, none⟩ v1) ∧ Kp W (W1.setCell ⟨p12, 0, none⟩ v1) := by
  have hT := Ty.win h.row
  have b1 := Ty.blk g3 hT h.bx (by decide)
  have f2 : Fr (One p12) W1 (W1.setCell ⟨p12, 0, none⟩ v1) := Fr.setCell _ _ _ rfl
  have hT2 := Ty.one b1
  refine ⟨by simp [World.cell?, b1], by simp [World.frozen?, b1], ⟨(h.op.step g3 hT (by decide) (fun k hk => (h.row.at_ hk).1)).step f2 hT2 (by decide) (fun k hk => by have hk' : k = p12 := hk; have := h.hb; omega), (h.ch.step g3 hT (by decide) (by decide)).step f2 hT2 (by decide) (by decide), by simp [World.setCell, Array.getElem?_modify, b1], ?_, fun y hy => ?_, h.hb, (h.mks.fr g3 hT).fr f2 hT2⟩, (Ty.others g3 hT).trans (Ty.others f2 hT2), (Ty.kp g3 hT (by decide)).trans (Ty.kp f2 hT2 (by decide))⟩
  · rw [List.length_append, List.map_append]
    exact Ty.row f2 hT2 g1 (by decide)
  · rcases List.mem_append.1 hy with hy | hy
    · exact ⟨((h.docs y hy).1.ty g3 hT (by decide) (by decide)).ty f2 hT2 (by decide) (by decide), (h.docs y hy).2⟩
    · simp only [List.mem_cons, List.mem_nil_iff, or_false] at hy
      subst hy
      exact ⟨(hd.ty g3 hT (by decide) (by decide)).ty f2 hT2 (by decide) (by decide), ho, hi⟩
/-- Both results are laid; the marks are taken. -/
theorem AllS.fin (h : AllS w W p2 p3 gr gs xs i v n C p12 vA L ms) : ∃ W8, W8 = (W.setCell ⟨p2, 0, none⟩ (.pointer (some ⟨gs, 0, none⟩))).setCell ⟨p3, 0, none⟩ (.int .i64 0) ∧ (W.setCell ⟨p2, 0, none⟩ (.pointer (some ⟨gs, 0, none⟩))).cell? ⟨p3, 0, none⟩ = some (.int .i64 0) ∧ (W.setCell ⟨p2, 0, none⟩ (.pointer (some ⟨gs, 0, none⟩))).frozen? ⟨p3, 0, none⟩ = false ∧
    W8.heap[p2]? = some (.cells #[.pointer (some ⟨gs, 0, none⟩)] 49 (0, 0)) ∧ W8.heap[p3]? = some (.cells #[.int .i64 0] 29 (0, 0)) ∧ Marks w W8 ms ∧
    ∀ W', Fr (fun k => k ∈ ms) W8 W' → Fr No w W' ∧ w.heap.size ≤ gs ∧ W'.heap[gs]? = some (.cells #[v, .int .i64 (n : Int)] 121 (0, 0)) ∧ ChS W' w.heap.size v C := by
  refine ⟨_, rfl, ?_⟩
  have f1 : Fr (One p2) W (W.setCell ⟨p2, 0, none⟩ (.pointer (some ⟨gs, 0, none⟩))) := Fr.setCell _ _ _ rfl
  have t1 := Ty.one h.op.b2
  have b2 : (W.setCell ⟨p2, 0, none⟩ (.pointer (some ⟨gs, 0, none⟩))).heap[p2]? = some (.cells #[.pointer (some ⟨gs, 0, none⟩)] 49 (0, 0)) := by
    have := h.op.b2
    simp [World.setCell, Array.getElem?_modify, this]
  have b3 := Ty.blk f1 t1 h.op.b3 (by decide)
  have st := Ty.blk f1 t1 h.op.st (by decide)
  have ch := h.ch.step f1 t1 (by decide) (by decide)
  have mk := h.mks.fr f1 t1
  have bel := acc h.op.bel (Nat.le_refl _) f1 (fun j hj => by have hj' : j = p2 := hj; have := h.op.h2; omega)
  generalize W.setCell ⟨p2, 0, none⟩ (.pointer (some ⟨gs, 0, none⟩)) = X at *
  have f2 : Fr (One p3) X (X.setCell ⟨p3, 0, none⟩ (.int .i64 0)) := Fr.setCell _ _ _ rfl
  have t2 := Ty.one b3
  have c3 : (X.setCell ⟨p3, 0, none⟩ (.int .i64 0)).heap[p3]? = some (.cells #[.int .i64 0] 29 (0, 0)) := by simp [World.setCell, Array.getElem?_modify, b3]
  have mk2 := mk.fr f2 t2
  have st2 := Ty.blk f2 t2 st (by decide)
  have ch2 := ch.step f2 t2 (by decide) (by decide)
  have bel2 := acc bel (Nat.le_refl _) f2 (fun j hj => by have hj' : j = p3 := hj; have := h.op.h3; omega)
  refine ⟨by simp [World.cell?, b3], by simp [World.frozen?, b3], Ty.blk f2 t2 b2 (by decide), c3, mk2, fun W' f => ?_⟩
  have hk : ∀ {k : Nat} {cs : Array Value} {t : Nat} {m : Nat × Nat}, (X.setCell ⟨p3, 0, none⟩ (.int .i64 0)).heap[k]? = some (.cells cs t m) → W'.heap[k]? = some (.cells cs t m) := fun hk => f.get hk (fun hs => by
    have := mk2.at_ _ hs
    rw [hk] at this
    cases this)
  have hw : ∀ {B e size m : Nat} {x : Value} {ys : List Value}, Win (X.setCell ⟨p3, 0, none⟩ (.int .i64 0)) B e size x m ys → Win W' B e size x m ys := fun hx => hx.move fun k hk' _ => by
    obtain ⟨_, _, cur, hc⟩ := hx.at_ hk'
    rw [hc]
    exact hk hc
  exact ⟨Fr.of_No (acc bel2 (Nat.le_refl _) f mk2.ge), h.op.hs, hk st2, ⟨hw ch2.hdr, fun p hp => hw (ch2.part p hp)⟩⟩
/-- The documents, for Build. -/
theorem AllS.docsR {A : Option Addr} {m c : Nat} (h : AllS w W p2 p3 gr gs xs i v n C p12 (.slice A m c) L ms) : DocsR W A m c L := by
  obtain ⟨A', c', e, hc⟩ := h.row.shape
  injection e with e1 e2 e3
  subst e1; subst e2; subst e3
  refine ⟨RdV.of_win h.row, rfl, hc, h.row.max, fun x hx => ?_⟩
  obtain ⟨hd, ho, hi⟩ := h.docs x hx
  obtain ⟨A2, c2, e2, hc2⟩ := hd.hdr.shape
  rw [e2] at hd
  exact ⟨A2, c2, e2, (hd.docR ho hi).1⟩
end
end Go.Proofs.Ytchcimkmjoegdaa.C
namespace Go.Proofs.Ytchcimkmjoegdaa.C
open Go.RowKit Go.Proofs.YtchcimkmjoegdaaW.PrintWords Go.Proofs.YtchcimkmjoegdaaW.PrintMore Go.Proofs.Ytchcimkmjoegdaa.M
set_option linter.unusedVariables false
set_option linter.unusedSimpArgs false

set_option maxHeartbeats 1000000 in
theorem SEqual_true (w : World) (A B : Option Addr) (n c d : Nat) (xs : List Int) (hx : RdV w A (nums .u8 xs)) (hy : RdV w B (nums .u8 xs)) (hl : xs.length = n) (hn : n ≤ 9223372036854775807) (hc : n ≤ c) (hd : n ≤ d) :
    Calls Try.prog 87 #[.slice A n c, .slice B n d] w fun e w' => e = .returned (.bool true) ∧ ∃ m, w' = w.drewN m := by
  have HX := Aside0.mk hx
  have HY := Aside0.mk hy
  have HL := Aside0.mk hl
  clear hx hy hl
  go_enter Try.func87, Try.ntmps87
  go_wp2_with fail
  go_loopw [13] (fun v13 wr => ∃ i m : Nat, v13 = .int .i64 i ∧ i ≤ n ∧ wr = w.drewN m) (fun v13 _ => n - (intOf v13).toNat)
  case atStart => exact ⟨0, 0, rfl, by omega, rfl⟩
  case round =>
    obtain ⟨i, m, rfl, hi, rfl⟩ := hrel
    by_cases hlt : i < n
    · obtain ⟨x, hx⟩ := get_some (xs := xs) (i := i) (by have := HL.out; omega)
      obtain ⟨a1, e1, h1⟩ := rd_at HX.out hx
      obtain ⟨a2, e2, h2⟩ := rd_at HY.out hx
      clear hx
      subst e1; subst e2
      go_wp2_with fail
      go_quiet (fail)
      go_wp2_with fail
      go_roundw
      case rel => exact ⟨i + 1, m + nq, by simp, by omega, (by first | rfl | exact World.drewN_drewN ..)⟩
      case measure => simp [intOf]; omega
    · go_wp2_with fail
      go_ret
      exact ⟨rfl, m, rfl⟩
set_option maxHeartbeats 1000000 in
theorem SEqual_len (w : World) (A B : Option Addr) (n n' c d : Nat) (h : n ≠ n') (hn : n ≤ 9223372036854775807) (hn' : n' ≤ 9223372036854775807) :
    Calls Try.prog 87 #[.slice A n c, .slice B n' d] w fun e w' => e = .returned (.bool false) ∧ w' = w := by
  have hb : ((n : Int) != (n' : Int)) = true := by simp; omega
  clear h
  go_enter Try.func87, Try.ntmps87
  go_wp2_with fail
  go_ret
  exact ⟨rfl, rfl⟩
set_option maxHeartbeats 1000000 in
theorem SEqual_false (w : World) (A B : Option Addr) (n c d : Nat) (xs ys : List Int) (hx : RdV w A (nums .u8 xs)) (hy : RdV w B (nums .u8 ys)) (hl : xs.length = n) (hl' : ys.length = n) (hn : n ≤ 9223372036854775807) (hc : n ≤ c) (hd : n ≤ d) (hne : xs ≠ ys) :
    Calls Try.prog 87 #[.slice A n c, .slice B n d] w fun e w' => e = .returned (.bool false) ∧ ∃ m, w' = w.drewN m := by
  have HX := Aside0.mk hx
  have HY := Aside0.mk hy
  have HL := Aside0.mk hl
  have HL' := Aside0.mk hl'
  have HNE := Aside0.mk hne
  clear hx hy hl hl' hne
  go_enter Try.func87, Try.ntmps87
  go_wp2_with fail
  go_loopw [13] (fun v13 wr => ∃ i m : Nat, v13 = .int .i64 i ∧ i ≤ n ∧ wr = w.drewN m ∧ Aside0 (xs.take i = ys.take i)) (fun v13 _ => n - (intOf v13).toNat)
  case atStart => exact ⟨0, 0, rfl, by omega, rfl, ⟨rfl⟩⟩
  case round =>
    obtain ⟨i, m, rfl, hi, rfl, HT⟩ := hrel
    by_cases hlt : i < n
    · obtain ⟨x, hx⟩ := get_some (xs := xs) (i := i) (by have := HL.out; omega)
      obtain ⟨y, hy⟩ := get_some (xs := ys) (i := i) (by have := HL'.out; omega)
      obtain ⟨a1, e1, h1⟩ := rd_at HX.out hx
      obtain ⟨a2, e2, h2⟩ := rd_at HY.out hy
      have HXX := Aside0.mk hx
      have HYY := Aside0.mk hy
      clear hx hy
      subst e1; subst e2
      by_cases hxy : x = y
      · subst hxy
        go_wp2_with fail
        go_quiet (fail)
        go_wp2_with fail
        go_roundw
        case rel => exact ⟨i + 1, m + nq, by simp, by omega, (by first | rfl | exact World.drewN_drewN ..), ⟨by rw [take_succ_of HXX.out, take_succ_of HYY.out, HT.out]⟩⟩
        case measure => simp [intOf]; omega
      · have hb : (x != y) = true := by simp [hxy]
        clear hxy
        go_wp2_with fail
        go_quiet (fail)
        go_wp2_with fail
        go_ret
        exact ⟨rfl, m + nq, (by first | rfl | exact World.drewN_drewN ..)⟩
    · exact absurd (by have := HT.out; rwa [List.take_of_length_le (by have := HL.out; omega), List.take_of_length_le (by have := HL'.out; omega)] at this) HNE.out
/-- kit.Bytes. -/
theorem SEqual_any (w : World) (A B : Option Addr) (n n' c d : Nat) (xs ys : List Int) (hx : RdV w A (nums .u8 xs)) (hy : RdV w B (nums .u8 ys)) (hl : xs.length = n) (hl' : ys.length = n') (hn : n ≤ 9223372036854775807) (hn' : n' ≤ 9223372036854775807) (hc : n ≤ c) (hd : n' ≤ d) :
    Calls Try.prog 87 #[.slice A n c, .slice B n' d] w fun e w' => e = .returned (.bool (decide (xs = ys))) ∧ ∃ m, w' = w.drewN m := by
  by_cases h : n = n'
  · subst h
    by_cases hxy : xs = ys
    · subst hxy
      rw [decide_eq_true rfl]
      exact SEqual_true w A B n c d xs hx hy hl hn hc hd
    · rw [decide_eq_false hxy]
      exact SEqual_false w A B n c d xs ys hx hy hl hl' hn hc hd hxy
  · rw [decide_eq_false (by intro h'; subst h'; omega)]
    exact (SEqual_len w A B n n' c d h hn hn').mono fun e w' ⟨h1, h2⟩ => ⟨h1, 0, h2⟩
end Go.Proofs.Ytchcimkmjoegdaa.C
