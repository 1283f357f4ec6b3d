/- All documents of a store, laid one behind the other (stored.Open's last loop). Conditions: as each theorem states. | slices.Equal on bytes (87). Turned by program from StL. Conditions: as each theorem states. | stored.Open (40): all documents, the last test. Conditions: as the theorem states. | stored.Open (40): the chunks' bodies. Conditions: as the theorem states. (Several texts of mine laid into one by prune.py.) -/
import Derived.Test.YtchcimkmjoegdaaSkC7
namespace Go.Proofs.Ytchcimkmjoegdaa.C
open Go.RowKit Go.Proofs.YtchcimkmjoegdaaW.PrintWords Go.Proofs.YtchcimkmjoegdaaW.PrintMore Go.Proofs.Ytchcimkmjoegdaa.M
set_option linter.unusedVariables false
set_option linter.unusedSimpArgs false

/-- append(s, x) of one element by way of its box, in a round. -/
theorem wplIn_append1 {F : Fence} {n0 : Nat} {P : Program} {ops : Array Oper} {rest : List Oper} {o : Oper} {a : Act} {Q : Exit → Act → World → Prop} (w : World) (base : Nat) (hgd : o.guard = none) (s x : Operand) (t e : TypeId) (z : Value) (size bytes : Nat)
    (ho : o.op = .call { callee := .builtin .append, args := #[s, x], argTypes := #[t, t] })
    (ht : P.underlying t = some (.slice e)) (hinfo : (P.info? e).map (fun i => (i.zero, i.size, i.bytes)) = some (some z, size, bytes)) (hzs : z.cells.size = size)
    (v : Value) (n : Nat) (xs ys : List Value) (hs : a.eval s = v) (hx : a.eval x = .slice (some ⟨w.heap.size, 0, none⟩) 1 1)
    (HW : Win w base e size v n xs) (hys : ys.length = size) (h1 : ∀ u ∈ ys, u.oneCell' = true) (hbase : base ≤ w.heap.size) (hm : n + 1 ≤ maxLen) (hl : (n + 1 + (n + 1) / 4 + 700) * bytes ≤ 281474976710656)
    (h : ∀ v1 w1, Win w1 base e size v1 (n + 1) (xs ++ ys) → Fr (At v) w w1 → wpListIn F n0 P ops Q rest (a.put o.dst v1) w1) :
    wpListIn F n0 P ops Q (o :: rest) a (w.alloc (.cells ys.toArray e)) := by
  obtain ⟨i0, hi, hzz⟩ := Option.map_eq_some_iff.1 hinfo
  simp only [Prod.mk.injEq] at hzz
  obtain ⟨hz0, hz1, hz2⟩ := hzz
  subst hz1
  subst hz2
  have hsrc : Src P (w.alloc (.cells ys.toArray e)) i0.size (.slice (some ⟨w.heap.size, 0, none⟩) 1 1) 1 ys := Src.of_rd (fun _ => ⟨_, rfl, by simpa using World.news_of_block (cs := ys.toArray) (t := e) (fr := (0, 0)) (heap_alloc_new w (.cells ys.toArray e))⟩) (by omega) h1
  obtain ⟨v1, w1, hr, g1, _, g3, _⟩ := run_append_win (P := P) (w.alloc (.cells ys.toArray e)) base t t o.type e i0 z (.slice e) ht ht (.inl ⟨_, rfl⟩) hi hz0 hzs v n xs (HW.below (below_alloc (Below.refl _ _) _)) _ 1 ys hsrc hm hl (by simp; omega)
  refine wpListIn_plain hgd fun K hK' => ?_
  unfold Oper.wpIn
  refine ⟨?_, ?_⟩
  · simp [Oper.about, ho, resolve, Target.leads, Sem.run_pure]
  · rw [Oper.semAt_plain F _ _ (by rw [ho]; intro c hc'; cases hc')]
    simp [execOp, ho, resolve, invoke, builtin, hs, hx, hr, Result.andThen]
    exact hK' _ _ (h v1 w1 g1 ((Fr.alloc (S := At v) w _).trans g3 (fun _ _ h => h) (fun _ _ h => h)))
/-! ### what an iterator's step leaves -/
section
variable {W W' : World} {g : Nat}
theorem Ab.blk (hg : ∀ o, W.heap[g]? = some o → o.isCells = false ∨ ∃ cs m, o = .cells cs 108 m) (f : Fr (One g) W W') {k t : Nat} {cs : Array Value} {m : Nat × Nat} (h : W.heap[k]? = some (.cells cs t m)) (ht : t ≠ 108) : W'.heap[k]? = some (.cells cs t m) :=
  f.get h (fun e => by
    have e' : k = g := e
    subst e'
    rcases hg _ h with h1 | ⟨cs', m', h1⟩
    · cases h1
    · injection h1 with _ h1 _
      exact ht h1)
theorem Ab.row (hg : ∀ o, W.heap[g]? = some o → o.isCells = false ∨ ∃ cs m, o = .cells cs 108 m) (f : Fr (One g) W W') {B e size n : Nat} {v : Value} {xs : List Value} (h : Win W B e size v n xs) (he : e ≠ 108) : Win W' B e size v n xs :=
  h.move fun k hk _ => by
    obtain ⟨_, _, cur, hc⟩ := h.at_ hk
    rw [hc]
    exact Ab.blk hg f hc he
theorem Ab.doc (hg : ∀ o, W.heap[g]? = some o → o.isCells = false ∨ ∃ cs m, o = .cells cs 108 m) (f : Fr (One g) W W') {B : Nat} {v : Value} {D : List (Value × Ent)} (h : DocW W B v D) : DocW W' B v D :=
  ⟨Ab.row hg f h.hdr (by decide), fun p hp => Ab.row hg f (h.part p hp) (by decide), h.sep⟩
theorem Ab.chs (hg : ∀ o, W.heap[g]? = some o → o.isCells = false ∨ ∃ cs m, o = .cells cs 108 m) (f : Fr (One g) W W') {B : Nat} {v : Value} {C : List (Value × Chk)} (h : ChS W B v C) : ChS W' B v C :=
  ⟨Ab.row hg f h.hdr (by decide), fun p hp => Ab.row hg f (h.part p hp) (by decide)⟩
theorem Ab.rdr (hg : ∀ o, W.heap[g]? = some o → o.isCells = false ∨ ∃ cs m, o = .cells cs 108 m) (f : Fr (One g) W W') {B gr i : Nat} {xs : List Int} {e : Int} (h : Rdr W B gr xs i e) (hne : gr ≠ g) : Rdr W' B gr xs i e := by
  obtain ⟨h1, h2, v, h3, h4⟩ := h
  exact ⟨h1, h2, v, f.get h3 (fun e => hne e), Ab.row hg f h4 (by decide)⟩
theorem Ab.op (hg : ∀ o, W.heap[g]? = some o → o.isCells = false ∨ ∃ cs m, o = .cells cs 108 m) (f : Fr (One g) W W') {w : World} {p2 p3 gr gs i n : Nat} {xs : List Int} {e : Int} {v : Value} (h : OpS w W p2 p3 gr gs xs i e v n) (hne : gr ≠ g) (hge : w.heap.size ≤ g) : OpS w W' p2 p3 gr gs xs i e v n :=
  ⟨accOne h.bel (Nat.le_refl _) f hge, Ab.blk hg f h.b2 (by decide), Ab.blk hg f h.b3 (by decide), Ab.blk hg f h.st (by decide), Ab.rdr hg f h.rd hne, h.h2, h.h3, h.hs⟩
theorem Ab.marks (f : Fr (One g) W W') {w : World} {ms : List Nat} (h : Marks w W ms) (hn : ∀ D ∈ ms, D ≠ g) : Marks w W' ms :=
  ⟨fun D hD => f.get (h.at_ D hD) (fun e => hn D hD e), h.ge, h.nd⟩
theorem Ty.others {S : Nat → Prop} {t : Nat} (f : Fr S W W') (hT : Ty W S t) : KeepsOthers W W' :=
  ⟨f.size, fun k o hk ho => f.get hk (fun hs => by
    obtain ⟨cs, hc⟩ := hT k hs
    rw [hk] at hc
    injection hc with hc
    rw [hc] at ho
    cases ho)⟩
theorem Ty.kp {S : Nat → Prop} {t : Nat} (f : Fr S W W') (hT : Ty W S t) (ht : t ≠ 5 ∧ t ≠ 108 ∧ t ≠ 118) : Kp W W' :=
  Kp.fr f (fun k cs t' m hs hk => by
    obtain ⟨cs', hc⟩ := hT k hs
    rw [hk] at hc
    injection hc with hc
    injection hc with _ hc _
    rw [hc]
    exact ht)
end
/-- The documents so far. -/
structure AllS (w W : World) (p2 p3 gr gs : Nat) (xs : List Int) (i : Nat) (v : Value) (n : Nat) (C : List (Value × Chk)) (p12 : Nat) (vA : Value) (L : List (Value × List (Value × Ent))) (ms : List Nat) : Prop where
  op : OpS w W p2 p3 gr gs xs i 0 v n
  ch : ChS W w.heap.size v C
  bx : W.heap[p12]? = some (.cells #[vA] 56 (0, 0))
  row : Win W w.heap.size 52 1 vA L.length (L.map Prod.fst)
  docs : ∀ x ∈ L, DocW W w.heap.size x.1 x.2 ∧ okD (docOf x) = true ∧ ∀ e ∈ docOf x, I64 e.ns
  hb : w.heap.size ≤ p12
  mks : Marks w W ms
section
variable {w W W1 W' : World} {p2 p3 gr gs i n p12 g : Nat} {xs : List Int} {v vA v1 : Value} {C : List (Value × Chk)} {L : List (Value × List (Value × Ent))} {ms : List Nat}
theorem AllS.abd (h : AllS w W p2 p3 gr gs xs i v n C p12 vA L ms) (hg : ∀ o, W.heap[g]? = some o → o.isCells = false ∨ ∃ cs m, o = .cells cs 108 m) (f : Fr (One g) W W') (hne : gr ≠ g) (hge : w.heap.size ≤ g) (hn : ∀ D ∈ ms, D ≠ g) : AllS w W' p2 p3 gr gs xs i v n C p12 vA L ms :=
  ⟨Ab.op hg f h.op hne hge, Ab.chs hg f h.ch, Ab.blk hg f h.bx (by decide), Ab.row hg f h.row (by decide), fun x hx => ⟨Ab.doc hg f (h.docs x hx).1, (h.docs x hx).2⟩, h.hb, Ab.marks f h.mks hn⟩
theorem AllS.no (h : AllS w W p2 p3 gr gs xs i v n C p12 vA L ms) (f : Fr No W W') : AllS w W' p2 p3 gr gs xs i v n C p12 vA L ms :=
  ⟨h.op.no f, h.ch.no f, f.get h.bx (fun h => h), h.row.below f.no, fun x hx => ⟨(h.docs x hx).1.below f.no, (h.docs x hx).2⟩, h.hb, h.mks.fr f (Ty.none _ 0)⟩
theorem DocW.ty {S : Nat → Prop} {t B : Nat} {v : Value} {D : List (Value × Ent)} (h : DocW W B v D) (f : Fr S W W') (hT : Ty W S t) (h1 : 134 ≠ t) (h2 : 2 ≠ t) : DocW W' B v D :=
  ⟨Ty.row f hT h.hdr h1, fun p hp => Ty.row f hT (h.part p hp) h2, h.sep⟩
theorem AllS.add {x : Value × List (Value × Ent)} (h : AllS w W p2 p3 gr gs xs i v n C p12 vA L ms) (hd : DocW W w.heap.size x.1 x.2) (ho : okD (docOf x) = true) (hi : ∀ e ∈ docOf x, I64 e.ns)
    (g1 : Win W1 w.heap.size 52 1 v1 (L.length + 1) (L.map Prod.fst ++ [x.1])) (g3 : Fr (At vA) W W1) :
    W1.cell? ⟨p12, 0, none⟩ = some vA ∧ W1.frozen? ⟨p12, 0, none⟩ = false ∧ AllS w (W1.setCell ⟨p12, 0, none⟩ v1) p2 p3 gr gs xs i v n C p12 v1 (L ++ [x]) ms ∧ KeepsOthers W (W1.setCell ⟨p12, 0, none⟩ v1) ∧ Kp W (W1.setCell ⟨p12, 0, none⟩ v1) := by
  have hT := Ty.win h.row
  have b1 := Ty.blk g3 hT h.bx (by decide)
  have f2 : Fr (One p12) W1 (W1.setCell ⟨p12, 0, none⟩ v1) := Fr.setCell _ _ _ rfl
  have hT2 := Ty.one b1
  refine ⟨by simp [World.cell?, b1], by simp [World.frozen?, b1], ⟨(h.op.step g3 hT (by decide) (fun k hk => (h.row.at_ hk).1)).step f2 hT2 (by decide) (fun k hk => by have hk' : k = p12 := hk; have := h.hb; omega), (h.ch.step g3 hT (by decide) (by decide)).step f2 hT2 (by decide) (by decide), by simp [World.setCell, Array.getElem?_modify, b1], ?_, fun y hy => ?_, h.hb, (h.mks.fr g3 hT).fr f2 hT2⟩, (Ty.others g3 hT).trans (Ty.others f2 hT2), (Ty.kp g3 hT (by decide)).trans (Ty.kp f2 hT2 (by decide))⟩
  · rw [List.length_append, List.map_append]
    exact Ty.row f2 hT2 g1 (by decide)
  · rcases List.mem_append.1 hy with hy | hy
    · exact ⟨((h.docs y hy).1.ty g3 hT (by decide) (by decide)).ty f2 hT2 (by decide) (by decide), (h.docs y hy).2⟩
    · simp only [List.mem_cons, List.mem_nil_iff, or_false] at hy
      subst hy
      exact ⟨(hd.ty g3 hT (by decide) (by decide)).ty f2 hT2 (by decide) (by decide), ho, hi⟩
/-- Both results are laid; the marks are taken. -/
theorem AllS.fin (h : AllS w W p2 p3 gr gs xs i v n C p12 vA L ms) : ∃ W8, W8 = (W.setCell ⟨p2, 0, none⟩ (.pointer (some ⟨gs, 0, none⟩))).setCell ⟨p3, 0, none⟩ (.int .i64 0) ∧ (W.setCell ⟨p2, 0, none⟩ (.pointer (some ⟨gs, 0, none⟩))).cell? ⟨p3, 0, none⟩ = some (.int .i64 0) ∧ (W.setCell ⟨p2, 0, none⟩ (.pointer (some ⟨gs, 0, none⟩))).frozen? ⟨p3, 0, none⟩ = false ∧
    W8.heap[p2]? = some (.cells #[.pointer (some ⟨gs, 0, none⟩)] 49 (0, 0)) ∧ W8.heap[p3]? = some (.cells #[.int .i64 0] 29 (0, 0)) ∧ Marks w W8 ms ∧
    ∀ W', Fr (fun k => k ∈ ms) W8 W' → Fr No w W' ∧ w.heap.size ≤ gs ∧ W'.heap[gs]? = some (.cells #[v, .int .i64 (n : Int)] 121 (0, 0)) ∧ ChS W' w.heap.size v C := by
  refine ⟨_, rfl, ?_⟩
  have f1 : Fr (One p2) W (W.setCell ⟨p2, 0, none⟩ (.pointer (some ⟨gs, 0, none⟩))) := Fr.setCell _ _ _ rfl
  have t1 := Ty.one h.op.b2
  have b2 : (W.setCell ⟨p2, 0, none⟩ (.pointer (some ⟨gs, 0, none⟩))).heap[p2]? = some (.cells #[.pointer (some ⟨gs, 0, none⟩)] 49 (0, 0)) := by
    have := h.op.b2
    simp [World.setCell, Array.getElem?_modify, this]
  have b3 := Ty.blk f1 t1 h.op.b3 (by decide)
  have st := Ty.blk f1 t1 h.op.st (by decide)
  have ch := h.ch.step f1 t1 (by decide) (by decide)
  have mk := h.mks.fr f1 t1
  have bel := acc h.op.bel (Nat.le_refl _) f1 (fun j hj => by have hj' : j = p2 := hj; have := h.op.h2; omega)
  generalize W.setCell ⟨p2, 0, none⟩ (.pointer (some ⟨gs, 0, none⟩)) = X at *
  have f2 : Fr (One p3) X (X.setCell ⟨p3, 0, none⟩ (.int .i64 0)) := Fr.setCell _ _ _ rfl
  have t2 := Ty.one b3
  have c3 : (X.setCell ⟨p3, 0, none⟩ (.int .i64 0)).heap[p3]? = some (.cells #[.int .i64 0] 29 (0, 0)) := by simp [World.setCell, Array.getElem?_modify, b3]
  have mk2 := mk.fr f2 t2
  have st2 := Ty.blk f2 t2 st (by decide)
  have ch2 := ch.step f2 t2 (by decide) (by decide)
  have bel2 := acc bel (Nat.le_refl _) f2 (fun j hj => by have hj' : j = p3 := hj; have := h.op.h3; omega)
  refine ⟨by simp [World.cell?, b3], by simp [World.frozen?, b3], Ty.blk f2 t2 b2 (by decide), c3, mk2, fun W' f => ?_⟩
  have hk : ∀ {k : Nat} {cs : Array Value} {t : Nat} {m : Nat × Nat}, (X.setCell ⟨p3, 0, none⟩ (.int .i64 0)).heap[k]? = some (.cells cs t m) → W'.heap[k]? = some (.cells cs t m) := fun hk => f.get hk (fun hs => by
    have := mk2.at_ _ hs
    rw [hk] at this
    cases this)
  have hw : ∀ {B e size m : Nat} {x : Value} {ys : List Value}, Win (X.setCell ⟨p3, 0, none⟩ (.int .i64 0)) B e size x m ys → Win W' B e size x m ys := fun hx => hx.move fun k hk' _ => by
    obtain ⟨_, _, cur, hc⟩ := hx.at_ hk'
    rw [hc]
    exact hk hc
  exact ⟨Fr.of_No (acc bel2 (Nat.le_refl _) f mk2.ge), h.op.hs, hk st2, ⟨hw ch2.hdr, fun p hp => hw (ch2.part p hp)⟩⟩
/-- The documents, for Build. -/
theorem AllS.docsR {A : Option Addr} {m c : Nat} (h : AllS w W p2 p3 gr gs xs i v n C p12 (.slice A m c) L ms) : DocsR W A m c L := by
  obtain ⟨A', c', e, hc⟩ := h.row.shape
  injection e with e1 e2 e3
  subst e1; subst e2; subst e3
  refine ⟨RdV.of_win h.row, rfl, hc, h.row.max, fun x hx => ?_⟩
  obtain ⟨hd, ho, hi⟩ := h.docs x hx
  obtain ⟨A2, c2, e2, hc2⟩ := hd.hdr.shape
  rw [e2] at hd
  exact ⟨A2, c2, e2, (hd.docR ho hi).1⟩
end
end Go.Proofs.Ytchcimkmjoegdaa.C
namespace Go.Proofs.Ytchcimkmjoegdaa.C
open Go.RowKit Go.Proofs.YtchcimkmjoegdaaW.PrintWords Go.Proofs.YtchcimkmjoegdaaW.PrintMore Go.Proofs.Ytchcimkmjoegdaa.M
set_option linter.unusedVariables false
set_option linter.unusedSimpArgs false

set_option maxHeartbeats 1000000 in
theorem SEqual_true (w : World) (A B : Option Addr) (n c d : Nat) (xs : List Int) (hx : RdV w A (nums .u8 xs)) (hy : RdV w B (nums .u8 xs)) (hl : xs.length = n) (hn : n ≤ 9223372036854775807) (hc : n ≤ c) (hd : n ≤ d) :
    Calls Try.prog 87 #[.slice A n c, .slice B n d] w fun e w' => e = .returned (.bool true) ∧ ∃ m, w' = w.drewN m := by
  have HX := Aside0.mk hx
  have HY := Aside0.mk hy
  have HL := Aside0.mk hl
  clear hx hy hl
  go_enter Try.func87, Try.ntmps87
  go_wp2_with fail
  go_loopw [13] (fun v13 wr => ∃ i m : Nat, v13 = .int .i64 i ∧ i ≤ n ∧ wr = w.drewN m) (fun v13 _ => n - (intOf v13).toNat)
  case atStart => exact ⟨0, 0, rfl, by omega, rfl⟩
  case round =>
    obtain ⟨i, m, rfl, hi, rfl⟩ := hrel
    by_cases hlt : i < n
    · obtain ⟨x, hx⟩ := get_some (xs := xs) (i := i) (by have := HL.out; omega)
      obtain ⟨a1, e1, h1⟩ := rd_at HX.out hx
      obtain ⟨a2, e2, h2⟩ := rd_at HY.out hx
      clear hx
      subst e1; subst e2
      go_wp2_with fail
      go_quiet (fail)
      go_wp2_with fail
      go_roundw
      case rel => exact ⟨i + 1, m + nq, by simp, by omega, (by first | rfl | exact World.drewN_drewN ..)⟩
      case measure => simp [intOf]; omega
    · go_wp2_with fail
      go_ret
      exact ⟨rfl, m, rfl⟩
set_option maxHeartbeats 1000000 in
theorem SEqual_len (w : World) (A B : Option Addr) (n n' c d : Nat) (h : n ≠ n') (hn : n ≤ 9223372036854775807) (hn' : n' ≤ 9223372036854775807) :
    Calls Try.prog 87 #[.slice A n c, .slice B n' d] w fun e w' => e = .returned (.bool false) ∧ w' = w := by
  have hb : ((n : Int) != (n' : Int)) = true := by simp; omega
  clear h
  go_enter Try.func87, Try.ntmps87
  go_wp2_with fail
  go_ret
  exact ⟨rfl, rfl⟩
set_option maxHeartbeats 1000000 in
theorem SEqual_false (w : World) (A B : Option Addr) (n c d : Nat) (xs ys : List Int) (hx : RdV w A (nums .u8 xs)) (hy : RdV w B (nums .u8 ys)) (hl : xs.length = n) (hl' : ys.length = n) (hn : n ≤ 9223372036854775807) (hc : n ≤ c) (hd : n ≤ d) (hne : xs ≠ ys) :
    Calls Try.prog 87 #[.slice A n c, .slice B n d] w fun e w' => e = .returned (.bool false) ∧ ∃ m, w' = w.drewN m := by
  have HX := Aside0.mk hx
  have HY := Aside0.mk hy
  have HL := Aside0.mk hl
  have HL' := Aside0.mk hl'
  have HNE := Aside0.mk hne
  clear hx hy hl hl' hne
  go_enter Try.func87, Try.ntmps87
  go_wp2_with fail
  go_loopw [13] (fun v13 wr => ∃ i m : Nat, v13 = .int .i64 i ∧ i ≤ n ∧ wr = w.drewN m ∧ Aside0 (xs.take i = ys.take i)) (fun v13 _ => n - (intOf v13).toNat)
  case atStart => exact ⟨0, 0, rfl, by omega, rfl, ⟨rfl⟩⟩
  case round =>
    obtain ⟨i, m, rfl, hi, rfl, HT⟩ := hrel
    by_cases hlt : i < n
    · obtain ⟨x, hx⟩ := get_some (xs := xs) (i := i) (by have := HL.out; omega)
      obtain ⟨y, hy⟩ := get_some (xs := ys) (i := i) (by have := HL'.out; omega)
      obtain ⟨a1, e1, h1⟩ := rd_at HX.out hx
      obtain ⟨a2, e2, h2⟩ := rd_at HY.out hy
      have HXX := Aside0.mk hx
      have HYY := Aside0.mk hy
      clear hx hy
      subst e1; subst e2
      by_cases hxy : x = y
      · subst hxy
        go_wp2_with fail
        go_quiet (fail)
        go_wp2_with fail
        go_roundw
        case rel => exact ⟨i + 1, m + nq, by simp, by omega, (by first | rfl | exact World.drewN_drewN ..), ⟨by rw [take_succ_of HXX.out, take_succ_of HYY.out, HT.out]⟩⟩
        case measure => simp [intOf]; omega
      · have hb : (x != y) = true := by simp [hxy]
        clear hxy
        go_wp2_with fail
        go_quiet (fail)
        go_wp2_with fail
        go_ret
        exact ⟨rfl, m + nq, (by first | rfl | exact World.drewN_drewN ..)⟩
    · exact absurd (by have := HT.out; rwa [List.take_of_length_le (by have := HL.out; omega), List.take_of_length_le (by have := HL'.out; omega)] at this) HNE.out
/-- kit.Bytes. -/
theorem SEqual_any (w : World) (A B : Option Addr) (n n' c d : Nat) (xs ys : List Int) (hx : RdV w A (nums .u8 xs)) (hy : RdV w B (nums .u8 ys)) (hl : xs.length = n) (hl' : ys.length = n') (hn : n ≤ 9223372036854775807) (hn' : n' ≤ 9223372036854775807) (hc : n ≤ c) (hd : n' ≤ d) :
    Calls Try.prog 87 #[.slice A n c, .slice B n' d] w fun e w' => e = .returned (.bool (decide (xs = ys))) ∧ ∃ m, w' = w.drewN m := by
  by_cases h : n = n'
  · subst h
    by_cases hxy : xs = ys
    · subst hxy
      rw [decide_eq_true rfl]
      exact SEqual_true w A B n c d xs hx hy hl hn hc hd
    · rw [decide_eq_false hxy]
      exact SEqual_false w A B n c d xs ys hx hy hl hl' hn hc hd hxy
  · rw [decide_eq_false (by intro h'; subst h'; omega)]
    exact (SEqual_len w A B n n' c d h hn hn').mono fun e w' ⟨h1, h2⟩ => ⟨h1, 0, h2⟩
end Go.Proofs.Ytchcimkmjoegdaa.C
namespace Go.Proofs.Ytchcimkmjoegdaa.C
open Go.RowKit Go.Proofs.YtchcimkmjoegdaaW.PrintLast Go.Proofs.YtchcimkmjoegdaaW.PrintWords Go.Proofs.YtchcimkmjoegdaaW.PrintMore Go.Proofs.Ytchcimkmjoegdaa.M
set_option linter.unusedVariables false
set_option linter.unusedSimpArgs false
attribute [local go_sem] Oper.semAt_some

/-- What Open leaves. -/
def SOpenPost (xs : List Int) (w : World) (e : Ending) (W : World) : Prop := Fr No w W ∧ ((storeF xs = none ∧ e = .returned (.tuple #[.pointer none, .int .i64 20])) ∨
  ∃ (C : List (Value × Chk)) (d : List (List Ent)) (gs : Nat) (v : Value), storeF xs = some (C.map Prod.snd, d) ∧ e = .returned (.tuple #[.pointer (some ⟨gs, 0, none⟩), .int .i64 0]) ∧ w.heap.size ≤ gs ∧ W.heap[gs]? = some (.cells #[v, .int .i64 (d.length : Int)] 121 (0, 0)) ∧ ChS W w.heap.size v C)
/-- The code behind n statements. -/
def dropSeq : Nat → Code → Code
  | 0, c => c
  | n + 1, .seq _ y => dropSeq n y
  | _, c => c
def bodyOf (f : Func) : Code := f.body.getD .skip
/-- The activation at the third loop. -/
def actA (A : Option Addr) (nx c p2 p3 g p12 : Nat) (Av : Option Addr) (K cv j : Nat) (us : Nat → Value) (ds : List Deferred) : Act := { tmps := #[.slice A nx c, us 1, .pointer (some ⟨p2, 0, none⟩), .pointer (some ⟨p3, 0, none⟩), .pointer (some ⟨g, 0, none⟩), us 5, us 6, us 7, us 8, us 9, us 10, us 11, .pointer (some ⟨p12, 0, none⟩), us 13, us 14, us 15, us 16, us 17, us 18, us 19, us 20, us 21, us 22, us 23, us 24, us 25, us 26, us 27, us 28, us 29, us 30, us 31, us 32, us 33, us 34, us 35, us 36, us 37, us 38, us 39, us 40, us 41, us 42, us 43, us 44, us 45, us 46, us 47, us 48, us 49, us 50, us 51, us 52, us 53, us 54, us 55, us 56, us 57, us 58, us 59, us 60, us 61, us 62, us 63, us 64, us 65, us 66, us 67, us 68, us 69, us 70, us 71, us 72, us 73, us 74, us 75, us 76, us 77, us 78, us 79, us 80, us 81, us 82, us 83, us 84, us 85, us 86, us 87, us 88, us 89, us 90, us 91, us 92, us 93, us 94, us 95, us 96, us 97, us 98, us 99, us 100, us 101, us 102, us 103, us 104, us 105, us 106, us 107, us 108, us 109, us 110, us 111, us 112, us 113, us 114, us 115, us 116, us 117, us 118, us 119, us 120, us 121, us 122, us 123, us 124, us 125, us 126, us 127, .slice Av K cv, .int .i64 (K : Int), .int .i64 (j : Int), us 131, us 132, us 133, us 134, us 135, us 136, us 137, us 138, us 139, us 140, us 141, us 142, us 143, us 144, us 145, us 146, us 147, us 148, us 149], defers := ds }
/-- A chunk's documents. -/
def ddC (c : Chk) : List (List Ent) := (chunkO c.b (c.t - c.f)).getD []
theorem bodiesO_mem {xs : List Int} (hb : Byt xs) : ∀ {H : List (Nat × Nat × Nat)} {i : Nat} {C : List Chk} {D : List (List Ent)} {j : Nat}, bodiesO xs H i = some (C, D, j) → ∀ c ∈ C, (∃ h ∈ H, c.f = h.1 ∧ c.t = h.2.1) ∧ Byt c.b ∧ c.b.length ≤ xs.length
  | [], i, C, D, j, h => by
    rw [bodiesO] at h
    injection h with h
    injection h with h1 h2
    subst h1
    exact fun c hc => (nomatch hc)
  | h0 :: H, i, C, D, j, h => by
    rw [bodiesO_cons, Option.bind_eq_some_iff] at h
    obtain ⟨q, h1, h2⟩ := h
    rw [Option.map_eq_some_iff] at h2
    obtain ⟨⟨C', D', j'⟩, h3, h4⟩ := h2
    injection h4 with h4 h5
    subst h4
    intro c hc
    rcases List.mem_cons.1 hc with rfl | hc
    · unfold bd1 at h1
      simp only at h1
      split at h1
      · rw [Option.map_eq_some_iff] at h1
        obtain ⟨d, h6, h7⟩ := h1
        subst h7
        exact ⟨⟨h0, by simp, rfl, rfl⟩, rB_byt hb⟩
      · cases h1
    · obtain ⟨⟨h', hm, k⟩, k2⟩ := bodiesO_mem hb h3 c hc
      exact ⟨⟨h', List.mem_cons_of_mem _ hm, k⟩, k2⟩
theorem chunkO_len {b : List Int} {n : Nat} {d : List (List Ent)} (h : chunkO b n = some d) : d.length = n := by
  unfold chunkO at h
  rw [Option.bind_eq_some_iff] at h
  obtain ⟨q, h1, h2⟩ := h
  split at h2
  · injection h2 with h2
    subst h2
    exact (docsO_fine (D := q.1) (j := q.2) h1).1
  · cases h2
theorem nil_bad {xs : List Int} {n i1 K i2 : Nat} {e1 : Int} (h1 : rS xs 0 0 16384 = (n, i1, e1)) (h2 : rS xs i1 e1 (n : Nat) = (K, i2, 0)) : xs ≠ [] := fun e => by
  subst e
  have h3 : rS ([] : List Int) 0 0 16384 = (0, 0, 20) := by simp [rS, num, numK]
  rw [h3] at h1
  injection h1 with _ h1
  injection h1 with _ h1
  subst h1
  simp [rS] at h2
theorem len_read {xs : List Int} {n i1 : Nat} {e1 : Int} {D : List (List Ent)} (h1 : rS xs 0 0 16384 = (n, i1, e1)) (ho : okDs D = true) (hb : buildB D = xs) : n = D.length := by
  unfold okDs at ho
  rw [Bool.and_eq_true, decide_eq_true_eq] at ho
  have h2 := rS_full [] (uenc (cutsF D).length ++ (cutsF D).flatMap chkH ++ (cutsF D).flatMap Chk.b) D.length 16384 (by rw [M64_eq]; omega) (by omega)
  have e : [] ++ uenc D.length ++ (uenc (cutsF D).length ++ (cutsF D).flatMap chkH ++ (cutsF D).flatMap Chk.b) = xs := by rw [← hb]; simp [buildB]
  rw [e] at h2
  simp only [List.length_nil] at h2
  rw [h2] at h1
  injection h1 with h1 _
  exact h1.symm
theorem info52 : (Try.prog.info? 52).map (fun i => (i.zero, i.size, i.bytes)) = some (some (.slice none 0 0), 1, 24) := by kernel_rfl
set_option maxRecDepth 100000 in
set_option maxHeartbeats 4000000 in
theorem open_tail {w W : World} {A : Option Addr} {nx c p2 p3 g gs gz n K i1 i2 i0 i : Nat} {e1 : Int} {xs : List Int} {H : List (Nat × Nat × Nat)} {P : List (Value × Chk)} {D : List (List Ent)} {v : Value} {ms : List Nat} {u1 u5 u6 u7 u8 u9 u10 u11 u12 u13 u14 u15 u16 u17 u18 u19 u20 u21 u22 u23 u24 u25 u26 u27 u28 u29 u30 u31 u32 u33 u34 u35 u36 u37 u38 u39 u40 u41 u42 u43 u44 u45 u46 u47 u48 u49 u50 u51 u52 u53 u54 u55 u56 u57 u58 u59 u60 u61 u62 u63 u64 u65 u66 u67 u68 u69 u70 u71 u72 u73 u74 u75 u76 u77 u78 u79 u80 u81 u82 u83 u84 u85 u86 u87 u88 u89 u90 u91 u92 u93 u94 u95 u96 u97 u98 u99 u100 u101 u102 u103 u104 u105 u106 u107 u108 u109 u110 u111 u112 u113 u114 u115 u116 u117 u118 u119 u120 u121 u122 u123 u124 u125 u126 u127 u128 u129 u130 u131 u132 u133 u134 u135 u136 u137 u138 u139 u140 u141 u142 u143 u144 u145 u146 u147 u148 u149 : Value} (hl : xs.length = nx) (hr : RdV w A (nums .u8 xs)) (hb : Byt xs) (hc : nx ≤ c) (hnx : nx ≤ 140737488355328)
    (hn1 : n ≤ 16384) (hK1 : K ≤ n) (h1 : rS xs 0 0 16384 = (n, i1, e1)) (h2 : rS xs i1 e1 (n : Nat) = (K, i2, 0)) (h3 : headsO xs n K 0 i2 = some (H, n, i0)) (HB : BodS w W p2 p3 g gs gz xs n K H i0 K P D i v ms) :
    (dropSeq 10 (bodyOf Try.f40)).wp Try.prog (bodyPostM Fence.wide 0 Try.prog Try.f40 (SOpenPost xs w)) { tmps := #[.slice A nx c, u1, .pointer (some ⟨p2, 0, none⟩), .pointer (some ⟨p3, 0, none⟩), .pointer (some ⟨g, 0, none⟩), u5, u6, u7, u8, u9, u10, u11, u12, u13, u14, u15, u16, u17, u18, u19, u20, u21, u22, u23, u24, u25, u26, u27, u28, u29, u30, u31, u32, u33, u34, u35, u36, u37, u38, u39, u40, u41, u42, u43, u44, u45, u46, u47, u48, u49, u50, u51, u52, u53, u54, u55, u56, u57, u58, u59, u60, u61, u62, u63, u64, u65, u66, u67, u68, u69, u70, u71, u72, u73, u74, u75, u76, u77, u78, u79, u80, u81, u82, u83, u84, u85, u86, u87, u88, u89, u90, u91, u92, u93, u94, u95, u96, u97, u98, u99, u100, u101, u102, u103, u104, u105, u106, u107, u108, u109, u110, u111, u112, u113, u114, u115, u116, u117, u118, u119, u120, u121, u122, u123, u124, u125, u126, u127, u128, u129, u130, u131, u132, u133, u134, u135, u136, u137, u138, u139, u140, u141, u142, u143, u144, u145, u146, u147, u148, u149], defers := ms.map mkD ++ [dfr p2 p3] } W := by
  have HL := Aside0.mk hl
  have HRD := Aside0.mk hr
  have HBY := Aside0.mk hb
  have HC := Aside0.mk hc
  have HS1 := Aside0.mk h1
  have HS2 := Aside0.mk h2
  have HG := Aside0.mk h3
  have H0 := Aside0.mk HB
  have hgot : bodiesO xs H i0 = some (P.map Prod.snd, D, i) := by
    have := HB.got
    rwa [List.take_of_length_le (by have := HB.hlen; omega)] at this
  have HGOT := Aside0.mk hgot
  have hch : ChS W w.heap.size v P := by
    have := HB.ch
    rw [List.drop_of_length_le (by have := HB.hlen; omega)] at this
    simpa using this
  have HCH := Aside0.mk hch
  obtain ⟨Av, cv, ev, hcv⟩ : ∃ Av cv, v = .slice Av K cv ∧ K ≤ cv := by
    obtain ⟨A', c', e', h'⟩ := hch.hdr.shape
    rw [HB.plen] at e' h'
    exact ⟨A', c', e', h'⟩
  subst ev
  have HPL := Aside0.mk HB.plen
  clear hl hr hb hc h1 h2 h3 HB hgot hch
  obtain ⟨cd, hcd⟩ : ∃ cd, dropSeq 10 (bodyOf Try.f40) = cd := ⟨_, rfl⟩
  rw [hcd]
  simp only [bodyOf, Try.f40, dropSeq, Option.getD]  at hcd
  subst hcd
  have HSF := Aside0.mk (show storeF xs = if i = xs.length ∧ okDs D = true ∧ buildB D = xs then some (P.map Prod.snd, D) else none from by rw [storeF_heads HS1.out HS2.out HG.out, if_pos rfl, HGOT.out]; rfl)
  by_cases hi : i = xs.length
  · have hz : ((xs.length : Int) - i == 0) = true := by rw [hi]; simp
    obtain ⟨l1, l2, l3, l4, l5, l6, l7⟩ := H0.out.op.cells
    have HI := Aside0.mk hi
    have HW1 := Aside0.mk (fun nm => show Fr No W ((W.drewN nm).alloc (.cells #[.slice none 0 0] 56)) from (Fr.drewN (S := No) W nm).trans (Fr.alloc (S := No) (W.drewN nm) _) (fun _ _ h => h) (fun _ _ h => h))
    have HCL := Aside0.mk (fun nm => (H0.out.op.no (HW1.out nm)).cells)
    clear hi
    go_wp2_with (first | (go_at_call 86; go_must (refine (good_ok _ w.heap.size g i xs (H0.out.op.rd.drewN nm)).mono ?_; rintro e' wz ⟨rfl, hz⟩; have hz' := hz.symm; subst hz')) | (go_at_call 20; go_must (refine (Left_any W w.heap.size g i xs 0 H0.out.op.rd).mono ?_; rintro e' _ ⟨rfl, nm, rfl⟩; obtain ⟨m1, m2, m3, _, _, _, _⟩ := HCL.out nm)))
    obtain ⟨p12, hp12⟩ : ∃ p, p = W.heap.size := ⟨_, rfl⟩
    rw [← hp12]
    have HA0 := Aside0.mk (show AllS w ((W.drewN nm).alloc (.cells #[.slice none 0 0] 56)) p2 p3 g gs xs i (.slice Av K cv) n P p12 (.slice none 0 0) [] ms from ⟨H0.out.op.no (HW1.out nm), HCH.out.no (HW1.out nm), by rw [hp12]; exact heap_alloc_new (W.drewN nm) _, Win.nil _ _ _ _, fun x hx => (nomatch hx), by rw [hp12]; exact H0.out.op.bel.size, H0.out.mks.fr (HW1.out nm) (Ty.none _ 0)⟩)
    generalize (W.drewN nm).alloc (.cells #[.slice none 0 0] 56) = W2 at HA0 ⊢
    clear l1 l2 l3 l4 l5 l6 l7 m1 m2 m3 hp12
    refine wp_loop (fun a' wr => ∃ (j : Nat) (Ls : List (Value × List (Value × Ent))) (ms : List Nat) (vA : Value), j ≤ K ∧ Ls.length ≤ j * 16384 ∧ Aside0 (AllS w wr p2 p3 g gs xs i (.slice Av K cv) n P p12 vA Ls ms ∧ Ls.map docOf = ((P.take j).map Prod.snd).flatMap ddC) ∧ a' = actA A nx c p2 p3 g p12 Av K cv j (fun k => a'.tmps.getD k undef) (ms.map mkD ++ [dfr p2 p3])) (fun a' _ => K - (intOf (a'.tmps.getD 130 undef)).toNat) ?_ ?_
    · exact ⟨0, [], ms, .slice none 0 0, Nat.zero_le _, Nat.zero_le _, ⟨HA0.out, rfl⟩, rfl⟩
    · clear HA0 H0 HW1 HCL HCH
      rintro a0 wr ⟨j, Ls, ms, vA, hj, hLs, HS, ha0⟩
      obtain ⟨us, hus⟩ : ∃ us, a0 = actA A nx c p2 p3 g p12 Av K cv j us (ms.map mkD ++ [dfr p2 p3]) := ⟨_, ha0⟩
      clear ha0
      subst hus
      unfold actA
      by_cases hlt : j < K
      · obtain ⟨⟨u, ⟨f, t, b⟩⟩, hp⟩ := get_some' (xs := P) (i := j) (by have := HPL.out; omega)
        obtain ⟨⟨h', hh', hf1, hf2⟩, hbb, hbl⟩ := bodiesO_mem HBY.out HGOT.out ⟨f, t, b⟩ (List.mem_map.2 ⟨_, List.mem_of_getElem? hp, rfl⟩)
        obtain ⟨dj, hdj⟩ := (bodiesO_fine HGOT.out).2 ⟨f, t, b⟩ (List.mem_map.2 ⟨_, List.mem_of_getElem? hp, rfl⟩)
        replace hdj : chunkO b (t - f) = some dj := hdj
        have hft := (headsO_fine HG.out).2 h' hh'
        have hf3 : f < t := by simp only at hf1 hf2; omega
        have hf4 : t ≤ n := by simp only at hf1 hf2; omega
        obtain ⟨gv, off, cv', ev, _⟩ := Win.shape1 HS.out.1.ch.hdr (by have := HPL.out; omega)
        rw [HPL.out] at ev
        injection ev with ev1 _ ev2
        subst ev1
        subst ev2
        obtain ⟨⟨k0, _⟩, ⟨k1, _⟩, k2, _⟩ := HS.out.1.ch.cells HPL.out hp
        have hacc := HS.out.1.ch.part _ (List.mem_of_getElem? hp)
        obtain ⟨Au, cu, eu, hcu⟩ := Win.shape hacc
        replace eu : u = .slice Au b.length cu := eu
        subst eu
        obtain ⟨nb, hnb⟩ : ∃ nb, b.length = nb := ⟨_, rfl⟩
        have HNB := Aside0.mk hnb
        have HACC := Aside0.mk (show Win wr w.heap.size 5 1 (.slice Au nb cu) nb (nums .u8 b) from by rw [← hnb]; exact hacc)
        have hnb2 : nb ≤ nx := by have := HL.out; simp only at hbl; omega
        replace hcu : nb ≤ cu := by rw [← hnb]; exact hcu
        rw [hnb] at k2
        have HBB := Aside0.mk hbb
        have HDJ := Aside0.mk hdj
        have HP := Aside0.mk hp
        clear hnb hbb hdj hp hacc hbl hf1 hf2 hft
        go_wp2_with (first | (go_at_call 84; go_must (refine (docs_any _ (f : Int) (t : Int) (.slice Au nb cu)).mono ?_; rintro e' w8 ⟨rfl, h8⟩; have H8 := Aside0.mk h8; clear h8)))
        have F8 : Fr No wr w8 := by
          rw [H8.out]
          exact Fr.of_No (accAlloc (accAlloc (Below.refl _ _) (Nat.le_refl _) _) (Nat.le_refl _) _)
        have hbox : w8.heap[wr.heap.size + 1]? = some (.cells #[.int .i64 (f : Int), .int .i64 (t : Int), .slice Au nb cu] 118 (0, 0)) := by
          rw [H8.out]
          have := heap_alloc_new (wr.alloc (.cells #[.int .i64 (f : Int), .int .i64 (t : Int), .slice Au nb cu] 118)) (.cells #[.int .i64 (f : Int), .int .i64 (t : Int), .slice Au nb cu] 118)
          rwa [World.size_alloc] at this
        have A8 := Aside0.mk (HS.out.1.no F8)
        have hAu : Au = none → cu = 0 := fun e => by
          subst e
          exact HACC.out.nil_cap
        have hg8 := A8.out.op.rd.lt
        have hm8 : ∀ D' ∈ ms, D' < w8.heap.size := fun D' hD' => blk_lt (A8.out.mks.at_ D' hD')
        have hw8 := A8.out.op.bel.size
        refine wp_rangeDocs (gb := wr.heap.size + 1) (f := f) (t := t) (nb := nb) (c := cu) (A := Au) (b := b) rfl hbox (RdV.of_win (HACC.out.below F8.no)) HNB.out HBB.out hAu hcu (by omega) (by omega) (by omega)
          (fun pre W => ∃ vA', AllS w W p2 p3 g gs xs i (.slice (some ⟨gv, off, none⟩) K cv) n P p12 vA' (Ls ++ pre) ms) (fun _ _ => False) (fun pre X Y x hi hB hg hf => ?_) (fun _ X Y x hi _ _ _ => hi) ⟨vA, by simpa using A8.out⟩
          (fun x y => { tmps := #[.slice A nx c, us 1, .pointer (some ⟨p2, 0, none⟩), .pointer (some ⟨p3, 0, none⟩), .pointer (some ⟨g, 0, none⟩), us 5, us 6, us 7, us 8, us 9, us 10, us 11, .pointer (some ⟨p12, 0, none⟩), us 13, .pointer (some ⟨wr.heap.size, 0, none⟩), us 15, y, us 17, us 18, us 19, us 20, us 21, us 22, us 23, us 24, us 25, us 26, us 27, us 28, us 29, us 30, us 31, us 32, us 33, us 34, us 35, us 36, us 37, us 38, us 39, us 40, us 41, us 42, us 43, us 44, us 45, us 46, us 47, us 48, us 49, us 50, us 51, us 52, us 53, us 54, us 55, us 56, us 57, us 58, us 59, us 60, us 61, us 62, us 63, us 64, us 65, us 66, us 67, us 68, us 69, us 70, us 71, us 72, us 73, us 74, us 75, us 76, us 77, us 78, us 79, us 80, us 81, us 82, us 83, us 84, us 85, us 86, us 87, us 88, us 89, us 90, us 91, us 92, us 93, us 94, us 95, us 96, us 97, us 98, us 99, us 100, us 101, us 102, us 103, us 104, us 105, us 106, us 107, us 108, us 109, us 110, us 111, us 112, us 113, us 114, us 115, us 116, us 117, us 118, us 119, us 120, us 121, us 122, us 123, us 124, us 125, us 126, us 127, .slice (some ⟨gv, off, none⟩) K cv, .int .i64 (K : Int), .int .i64 (j : Int), .bool true, .pointer (some ⟨gv, off + j * 3, none⟩), .agg #[.int .i64 (f : Int), .int .i64 (t : Int), .slice Au nb cu], .agg #[.int .i64 (f : Int), .int .i64 (t : Int), .slice Au nb cu], .func (.func 112) #[] #[.pointer (some ⟨wr.heap.size + 1, 0, none⟩)], x, y, us 138, us 139, us 140, us 141, us 142, us 143, us 144, us 145, us 146, us 147, us 148, us 149], defers := [] }) ?assign ?body ?done (fun D pre j W _ _ _ hx => hx.elim) ?panic
        · obtain ⟨vA', h⟩ := hi
          exact ⟨vA', h.abd hg hf (by omega) (by omega) (fun D' hD' => by have := hm8 D' hD'; omega)⟩
        case assign =>
          intro l x y W K hK
          gi_wp2
          exact hK
        case body =>
          rintro l pre ⟨xv, xd⟩ W hlen hsz ⟨vA', hA⟩ hd ho h64
          obtain ⟨Ax, cx, ex, hcx⟩ := hd.hdr.shape
          replace ex : xv = .slice Ax xd.length cx := ex
          subst ex
          obtain ⟨AA, cA, eA, hcA⟩ := hA.row.shape
          subst eA
          obtain ⟨m, hm⟩ : ∃ m, (Ls ++ pre).length = m := ⟨_, rfl⟩
          have HM := Aside0.mk hm
          obtain ⟨lx, hlx⟩ : ∃ m, xd.length = m := ⟨_, rfl⟩
          dsimp only
          rw [hm] at hcA hA
          rw [hlx] at hd hcx ⊢
          have HA := Aside0.mk hA
          have HD := Aside0.mk hd
          have HO := Aside0.mk ho
          have H64 := Aside0.mk h64
          have hbx := hA.bx
          have hcA1 : W.cell? ⟨p12, 0, none⟩ = some (.slice AA m cA) := by simp [World.cell?, hbx]
          have HBD := Aside0.mk (show m + 1 ≤ maxLen ∧ (m + 1 + (m + 1) / 4 + 700) * 24 ≤ 281474976710656 from by
            have hm' := HM.out
            rw [List.length_append] at hm'
            have h1 : j * 16384 ≤ 16384 * 16384 := Nat.mul_le_mul_right _ (by omega)
            constructor
            · simp only [maxLen]; omega
            · omega)
          clear hA hd ho h64 hbx hm hlx
          gi_wp2_with (first | (gi_at_builtin; go_must (refine wplIn_append1 W w.heap.size rfl (.tmp 138) (.tmp 140) 56 52 (.slice none 0 0) 1 24 rfl Try.underlying56 info52 rfl (.slice AA m cA) m ((Ls ++ pre).map Prod.fst) [.slice Ax lx cx] rfl rfl (by have h := HA.out.row; rwa [HM.out] at h) rfl (by simp [Value.oneCell']) HA.out.op.bel.size HBD.out.1 HBD.out.2 ?_; intro v1 w1 g1 g3; obtain ⟨y1, y2, y3, y4, y5⟩ := AllS.add (x := (.slice Ax lx cx, xd)) HA.out (HD.out.lower hw8) HO.out H64.out (by rw [HM.out]; exact g1) g3; obtain ⟨A1, c1, e1, _⟩ := Win.shape g1; subst e1; have Y3 := Aside0.mk y3; have Y4 := Aside0.mk y4; have Y5 := Aside0.mk y5; clear g1 g3 y3 y4 y5)))
          exact ⟨Y4.out, Y5.out, _, by rw [← List.append_assoc]; exact Y3.out⟩
        case done =>
          rintro Dm dl W hD hm hS ⟨vA', hA⟩
          dsimp only
          have HDL := Aside0.mk hS
          have hdl : dl.length = t - f := by have := chunkO_len hS; rwa [List.length_map] at this
          have HM2 := Aside0.mk (hA.mks.push hm (by omega) (fun D' hD' e => by have := hm8 D' hD'; omega))
          have HA2 := Aside0.mk (show AllS w W p2 p3 g gs xs i (.slice (some ⟨gv, off, none⟩) K cv) n P p12 vA' (Ls ++ dl) (Dm :: ms) from { hA with mks := HM2.out })
          have HQ := Aside0.mk (show (Ls ++ dl).map docOf = ((P.take (j + 1)).map Prod.snd).flatMap ddC from by
            rw [List.take_add_one, HP.out, List.map_append, HS.out.2]
            simp [ddC, HDL.out])
          clear hA hm hS hbox
          go_wp2_with fail
          refine ⟨⟨j + 1, Ls ++ dl, Dm :: ms, vA', by omega, by rw [List.length_append]; omega, ⟨HA2.out, HQ.out⟩, rfl⟩, ?_⟩
          show K - (intOf (.int .i64 ((j : Int) + 1))).toNat < K - (intOf (.int .i64 (j : Int))).toNat
          simp [intOf]
          omega
        case panic =>
          intro Dm pre W hD hm hS hi
          have := HDJ.out
          rw [hS] at this
          cases this
      · obtain rfl : j = K := by omega
        have HLD := Aside0.mk (show Ls.map docOf = D from by
          rw [HS.out.2, List.take_of_length_le (by have := HPL.out; omega)]
          exact (bodiesO_fine HGOT.out).1.symm)
        obtain ⟨AA, cA, eA, hcA⟩ := HS.out.1.row.shape
        subst eA
        obtain ⟨m, hm⟩ : ∃ m, Ls.length = m := ⟨_, rfl⟩
        have HA := Aside0.mk (show AllS w wr p2 p3 g gs xs i (.slice Av j cv) n P p12 (.slice AA m cA) Ls ms from by have h := HS.out.1; rwa [hm] at h)
        have hbx := HA.out.bx
        have hcA1 : wr.cell? ⟨p12, 0, none⟩ = some (.slice AA m cA) := by simp [World.cell?, hbx]
        rw [hm] at hcA
        have HBU := Aside0.mk (build_any wr AA m cA Ls HA.out.docsR)
        rw [HLD.out] at HBU
        clear hbx hm HS
        cases hok : okDs D with
        | false =>
          have HZ := Aside0.mk (show storeF xs = none from by rw [HSF.out, if_neg (fun h => by have h2 := h.2.1; rw [hok] at h2; cases h2)])
          have HBF := Aside0.mk (show Calls Try.prog 44 #[.slice AA m cA] wr fun e W' => e = .returned (.slice none 0 0) ∧ Fr No wr W' from HBU.out.mono (by
            rintro e W' ⟨⟨h0, _⟩ | ⟨_, h1⟩, h3⟩
            · rw [hok] at h0; cases h0
            · exact ⟨h1, h3⟩))
          have HNE := Aside0.mk (show decide (([] : List Int) = xs) = false from decide_eq_false (fun e => nil_bad HS1.out HS2.out e.symm))
          have HEQ := Aside0.mk (fun (W' : World) (hW : Fr No wr W') => SEqual_any W' none A 0 nx 0 c [] xs (fun h => (h rfl).elim) ((HRD.out.below HA.out.op.bel).below hW.no) rfl HL.out (by omega) (by omega) (Nat.le_refl _) HC.out)
          rw [HNE.out] at HEQ
          clear hok HBU
          go_wp2_with (first | (go_at_call 86; go_must (refine (good_not _ w.heap.size g i xs ((HA.out.no F5.out).op.rd.drewN nm)).mono ?_; rintro e' wz ⟨rfl, hz⟩; have hz' := hz.symm; subst hz')) | (go_at_call 87; go_must (refine (HEQ.out _ F5.out).mono ?_; rintro e' _ ⟨rfl, nm, rfl⟩)) | (go_at_call 44; go_must (refine HBF.out.mono ?_; rintro e' w5 ⟨rfl, q1⟩; have F5 := Aside0.mk q1; clear q1)))
          have h1 := (HA.out.no F5.out).no (Fr.drewN w5 nm)
          exact open_fall (ms := ms) rfl rfl h1.op.b2 h1.op.b3 h1.op.bel h1.op.h2 h1.op.h3 h1.mks (fun W' f => ⟨f, .inl ⟨HZ.out, rfl⟩⟩)
        | true =>
          have HBF := Aside0.mk (show Calls Try.prog 44 #[.slice AA m cA] wr fun e W' => ∃ v, e = .returned v ∧ Acc W' wr.heap.size v (buildB D) ∧ Fr No wr W' from HBU.out.mono (by
            rintro e W' ⟨⟨_, v, h1, h2⟩ | ⟨h0, _⟩, h3⟩
            · exact ⟨v, h1, h2, h3⟩
            · rw [hok] at h0; cases h0))
          have HEQ := Aside0.mk (fun (W' : World) (hW : Fr No wr W') (Ab : Option Addr) (lb cb : Nat) (hr : RdV W' Ab (nums .u8 (buildB D))) (hl : (buildB D).length = lb) (hm : lb ≤ 9223372036854775807) (hc : lb ≤ cb) => SEqual_any W' Ab A lb nx cb c (buildB D) xs hr ((HRD.out.below HA.out.op.bel).below hW.no) hl HL.out hm (by omega) hc HC.out)
          obtain ⟨lb, hlb⟩ : ∃ lb, (buildB D).length = lb := ⟨_, rfl⟩
          have HLB := Aside0.mk hlb
          clear hlb HBU
          by_cases hbx : buildB D = xs
          · have HZ := Aside0.mk (show storeF xs = some (P.map Prod.snd, D) from by rw [HSF.out, if_pos ⟨HI.out, hok, hbx⟩])
            rw [decide_eq_true hbx] at HEQ
            have HN := Aside0.mk (show n = D.length from len_read HS1.out hok hbx)
            clear hbx hok
            go_wp2_with (first | (go_at_call 86; go_must (refine (good_ok _ w.heap.size g i xs ((HA.out.no F5.out).op.rd.drewN nm)).mono ?_; rintro e' wz ⟨rfl, hz⟩; have hz' := hz.symm; subst hz')) | (go_at_call 87; go_must (refine (HEQ.out _ F5.out A5 lb c5 (RdV.of_win Q5.out) HLB.out hm5 hc5).mono ?_; rintro e' _ ⟨rfl, nm, rfl⟩; have h6 := (HA.out.no F5.out).no (Fr.drewN w5 nm); obtain ⟨x1, x2, x3, x4, x5, x6, x7⟩ := h6.op.cells; obtain ⟨W8, hW8, y1, y2, y3, y4, y5, y6⟩ := h6.fin; have HW8 := Aside0.mk hW8; have Y3 := Aside0.mk y3; have Y4 := Aside0.mk y4; have Y5 := Aside0.mk y5; have Y6 := Aside0.mk y6; clear h6 hW8 y3 y4 y5 y6)) | (go_at_call 44; go_must (refine HBF.out.mono ?_; rintro e' w5 ⟨v5, rfl, q1, q2⟩; obtain ⟨A5, c5, e5, hc5⟩ := Win.shape q1; have hm5 := Win.max q1; rw [HLB.out] at e5 hc5 hm5; subst e5; have Q5 := Aside0.mk q1; have F5 := Aside0.mk q2; clear q1 q2)))
            rw [← HW8.out]
            exact open_ret (ms := ms) rfl rfl Y3.out Y4.out Y5.out (fun W' f => by
              obtain ⟨z1, z2, z3, z4⟩ := Y6.out W' f
              exact ⟨z1, .inr ⟨P, D, gs, .slice Av j cv, HZ.out, rfl, z2, by rw [← HN.out]; exact z3, z4⟩⟩)
          · have HZ := Aside0.mk (show storeF xs = none from by rw [HSF.out, if_neg (fun h => hbx h.2.2)])
            rw [decide_eq_false hbx] at HEQ
            clear hbx hok
            go_wp2_with (first | (go_at_call 86; go_must (refine (good_not _ w.heap.size g i xs ((HA.out.no F5.out).op.rd.drewN nm)).mono ?_; rintro e' wz ⟨rfl, hz⟩; have hz' := hz.symm; subst hz')) | (go_at_call 87; go_must (refine (HEQ.out _ F5.out A5 lb c5 (RdV.of_win Q5.out) HLB.out hm5 hc5).mono ?_; rintro e' _ ⟨rfl, nm, rfl⟩)) | (go_at_call 44; go_must (refine HBF.out.mono ?_; rintro e' w5 ⟨v5, rfl, q1, q2⟩; obtain ⟨A5, c5, e5, hc5⟩ := Win.shape q1; have hm5 := Win.max q1; rw [HLB.out] at e5 hc5 hm5; subst e5; have Q5 := Aside0.mk q1; have F5 := Aside0.mk q2; clear q1 q2)))
            have h1 := (HA.out.no F5.out).no (Fr.drewN w5 nm)
            exact open_fall (ms := ms) rfl rfl h1.op.b2 h1.op.b3 h1.op.bel h1.op.h2 h1.op.h3 h1.mks (fun W' f => ⟨f, .inl ⟨HZ.out, rfl⟩⟩)
  · have hz : ((xs.length : Int) - i == 0) = false := by
      have := H0.out.op.rd.2.1
      simp
      omega
    have HZ := Aside0.mk (show storeF xs = none from by rw [HSF.out, if_neg (fun h => hi h.1)])
    go_wp2_with (first | (go_at_call 86; go_must (refine (good_not _ w.heap.size g i xs (H0.out.op.rd.drewN nm)).mono ?_; rintro e' wz ⟨rfl, hz⟩; have hz' := hz.symm; subst hz')) | (go_at_call 20; go_must (refine (Left_any W w.heap.size g i xs 0 H0.out.op.rd).mono ?_; rintro e' _ ⟨rfl, nm, rfl⟩)))
    have h1 := H0.out.no (Fr.drewN W nm)
    exact open_fall (ms := ms) rfl rfl h1.op.b2 h1.op.b3 h1.op.bel h1.op.h2 h1.op.h3 h1.mks (fun W' f => ⟨f, .inl ⟨HZ.out, rfl⟩⟩)
end Go.Proofs.Ytchcimkmjoegdaa.C
namespace Go.Proofs.Ytchcimkmjoegdaa.C
open Go.RowKit Go.Proofs.YtchcimkmjoegdaaW.PrintLast Go.Proofs.YtchcimkmjoegdaaW.PrintWords Go.Proofs.YtchcimkmjoegdaaW.PrintMore Go.Proofs.Ytchcimkmjoegdaa.M
set_option linter.unusedVariables false
set_option linter.unusedSimpArgs false

/-- The activation at the second loop. -/
def actB (A : Option Addr) (nx c p2 p3 g gz K j : Nat) (us : Nat → Value) (ds : List Deferred) : Act := { tmps := #[.slice A nx c, us 1, .pointer (some ⟨p2, 0, none⟩), .pointer (some ⟨p3, 0, none⟩), .pointer (some ⟨g, 0, none⟩), us 5, us 6, .slice (some ⟨gz, 0, none⟩) K K, us 8, us 9, us 10, us 11, us 12, us 13, us 14, us 15, us 16, us 17, us 18, us 19, us 20, us 21, us 22, us 23, us 24, us 25, us 26, us 27, us 28, us 29, us 30, us 31, us 32, us 33, us 34, us 35, us 36, us 37, us 38, us 39, us 40, us 41, us 42, us 43, us 44, us 45, us 46, us 47, us 48, us 49, us 50, us 51, us 52, us 53, us 54, us 55, us 56, us 57, us 58, us 59, us 60, us 61, us 62, us 63, us 64, us 65, us 66, us 67, us 68, us 69, us 70, us 71, us 72, us 73, us 74, us 75, us 76, us 77, us 78, us 79, us 80, us 81, us 82, us 83, us 84, us 85, us 86, us 87, us 88, us 89, us 90, us 91, .int .i64 (K : Int), .int .i64 (j : Int), us 94, us 95, us 96, us 97, us 98, us 99, us 100, us 101, us 102, us 103, us 104, us 105, us 106, us 107, us 108, us 109, us 110, us 111, us 112, us 113, us 114, us 115, us 116, us 117, us 118, us 119, us 120, us 121, us 122, us 123, us 124, us 125, us 126, us 127, us 128, us 129, us 130, us 131, us 132, us 133, us 134, us 135, us 136, us 137, us 138, us 139, us 140, us 141, us 142, us 143, us 144, us 145, us 146, us 147, us 148, us 149], defers := ds }
set_option maxRecDepth 100000 in
set_option maxHeartbeats 4000000 in
theorem open_mid {w W : World} {A : Option Addr} {nx c p2 p3 g gs gz n K i1 i2 i a : Nat} {e1 : Int} {xs : List Int} {H : List (Nat × Nat × Nat)} {v : Value} {u1 u5 u8 u9 u10 u11 u12 u13 u14 u15 u16 u17 u18 u19 u20 u21 u22 u23 u24 u25 u26 u27 u28 u29 u30 u31 u32 u33 u34 u35 u36 u37 u38 u39 u40 u41 u42 u43 u44 u45 u46 u47 u48 u49 u50 u51 u52 u53 u54 u55 u56 u57 u58 u59 u60 u61 u62 u63 u64 u65 u66 u67 u68 u69 u70 u71 u72 u73 u74 u75 u76 u77 u78 u79 u80 u81 u82 u83 u84 u85 u86 u87 u88 u89 u90 u91 u92 u93 u94 u95 u96 u97 u98 u99 u100 u101 u102 u103 u104 u105 u106 u107 u108 u109 u110 u111 u112 u113 u114 u115 u116 u117 u118 u119 u120 u121 u122 u123 u124 u125 u126 u127 u128 u129 u130 u131 u132 u133 u134 u135 u136 u137 u138 u139 u140 u141 u142 u143 u144 u145 u146 u147 u148 u149 : Value} (hl : xs.length = nx) (hr : RdV w A (nums .u8 xs)) (hb : Byt xs) (hc : nx ≤ c) (hnx : nx ≤ 140737488355328)
    (hn1 : n ≤ 16384) (hK1 : K ≤ n) (ha : a ≤ n) (h1 : rS xs 0 0 16384 = (n, i1, e1)) (h2 : rS xs i1 e1 (n : Nat) = (K, i2, 0)) (HH : HeadS w W p2 p3 g gs gz xs n K i2 K H a i v) :
    (dropSeq 8 (bodyOf Try.f40)).wp Try.prog (bodyPostM Fence.wide 0 Try.prog Try.f40 (SOpenPost xs w)) { tmps := #[.slice A nx c, u1, .pointer (some ⟨p2, 0, none⟩), .pointer (some ⟨p3, 0, none⟩), .pointer (some ⟨g, 0, none⟩), u5, .int .i64 (a : Int), .slice (some ⟨gz, 0, none⟩) K K, u8, u9, u10, u11, u12, u13, u14, u15, u16, u17, u18, u19, u20, u21, u22, u23, u24, u25, u26, u27, u28, u29, u30, u31, u32, u33, u34, u35, u36, u37, u38, u39, u40, u41, u42, u43, u44, u45, u46, u47, u48, u49, u50, u51, u52, u53, u54, u55, u56, u57, u58, u59, u60, u61, u62, u63, u64, u65, u66, u67, u68, u69, u70, u71, u72, u73, u74, u75, u76, u77, u78, u79, u80, u81, u82, u83, u84, u85, u86, u87, u88, u89, u90, u91, u92, u93, u94, u95, u96, u97, u98, u99, u100, u101, u102, u103, u104, u105, u106, u107, u108, u109, u110, u111, u112, u113, u114, u115, u116, u117, u118, u119, u120, u121, u122, u123, u124, u125, u126, u127, u128, u129, u130, u131, u132, u133, u134, u135, u136, u137, u138, u139, u140, u141, u142, u143, u144, u145, u146, u147, u148, u149], defers := [dfr p2 p3] } W := by
  have HL := Aside0.mk hl
  have HRD := Aside0.mk hr
  have HB := Aside0.mk hb
  have HC := Aside0.mk hc
  have HS1 := Aside0.mk h1
  have HS2 := Aside0.mk h2
  have H0 := Aside0.mk HH
  have HG := Aside0.mk HH.got
  obtain ⟨Av, cv, ev, hcv⟩ : ∃ Av cv, v = .slice Av K cv ∧ K ≤ cv := by
    obtain ⟨A', c', e', h'⟩ := HH.ch.hdr.shape
    rw [List.length_map, HH.len] at e' h'
    exact ⟨A', c', e', h'⟩
  subst ev
  obtain ⟨l1, l2, l3, l4, l5, l6, l7⟩ := HH.op.cells
  clear hl hr hb hc h1 h2 HH
  obtain ⟨cd, hcd⟩ : ∃ cd, dropSeq 8 (bodyOf Try.f40) = cd := ⟨_, rfl⟩
  rw [hcd]
  simp only [bodyOf, Try.f40, dropSeq, Option.getD] at hcd
  subst hcd
  by_cases han : a = n
  · subst han
    have hz : ((a : Int) == (a : Int)) = true := by simp
    go_wp2_with (first | (go_at_call 86; go_must (refine (good_ok W w.heap.size g i xs H0.out.op.rd).mono ?_; rintro e' wz ⟨rfl, hz⟩; have hz' := hz.symm; subst hz')))
    have HB0 := Aside0.mk (show BodS w W p2 p3 g gs gz xs a K H i 0 [] [] i (.slice Av K cv) [] from ⟨H0.out.op, rfl, by have h := H0.out.ch; simpa using h, by have h := H0.out.sz; simpa using h, Marks.nil _ _, rfl, H0.out.len⟩)
    refine wp_loop (fun a' wr => ∃ (j ii : Nat) (P : List (Value × Chk)) (D : List (List Ent)) (ms : List Nat), j ≤ K ∧ Aside0 (BodS w wr p2 p3 g gs gz xs a K H i j P D ii (.slice Av K cv) ms) ∧ a' = actB A nx c p2 p3 g gz K j (fun k => a'.tmps.getD k undef) (ms.map mkD ++ [dfr p2 p3])) (fun a' _ => K - (intOf (a'.tmps.getD 93 undef)).toNat) ?_ ?_
    · exact ⟨0, i, [], [], [], Nat.zero_le _, HB0, rfl⟩
    · rintro a0 wr ⟨j, ii, P, D, ms, hj, HS, ha0⟩
      obtain ⟨us, hus⟩ : ∃ us, a0 = actB A nx c p2 p3 g gz K j us (ms.map mkD ++ [dfr p2 p3]) := ⟨_, ha0⟩
      clear ha0
      subst hus
      unfold actB
      have hcl : ∀ {C : List (Value × Chk)} {W' : World}, ChS W' w.heap.size (.slice Av K cv) C → C.length = K := fun hC => by
        obtain ⟨A', c', e', h'⟩ := hC.hdr.shape
        injection e' with _ e' _
        exact e'.symm
      by_cases hlt : j < K
      · obtain ⟨⟨f, t, z⟩, hh⟩ := get_some' (xs := H) (i := j) (by have := HS.out.hlen; omega)
        have hf := (headsO_fine HG.out).2 (f, t, z) (List.mem_of_getElem? hh)
        have hf1 : f < t := hf.1
        have hf2 : t ≤ a := hf.2.1
        have hf3 : z ≤ xs.length := hf.2.2
        obtain ⟨gv, off, cv', ev, _⟩ := Win.shape1 HS.out.ch.hdr (by rw [hcl HS.out.ch]; omega)
        rw [hcl HS.out.ch] at ev
        injection ev with ev1 _ ev2
        subst ev1
        subst ev2
        have HH := Aside0.mk hh
        obtain ⟨b, i', e', hB⟩ : ∃ b i' e', rB xs ii 0 (z : Nat) = (b, i', e') := ⟨_, _, _, rfl⟩
        have HBY := Aside0.mk (Bytes_any wr w.heap.size g ii xs 0 (z : Nat) HS.out.op.rd (by have := HL.out; omega) (by omega) (by have := HL.out; omega))
        rw [hB] at HBY
        have HBE := Aside0.mk hB
        have hbb := rB_byt (xs := xs) (i := ii) (e := 0) (m := (z : Nat)) HB.out
        rw [hB] at hbb
        have HBB := Aside0.mk hbb
        obtain ⟨n1, n2, _, _, _, _, _⟩ := HS.out.op.cells
        have n8 := HS.out.size hh
        clear hB hbb hf hh l1 l2 l3 l4 l5 l6 l7
        obtain ⟨nb, hnb⟩ : ∃ nb, b.length = nb := ⟨_, rfl⟩
        have HNB := Aside0.mk hnb
        have hnb2 : nb ≤ nx := by have h1 := HBB.out.2; have h2 := HL.out; simp only at h1; omega
        clear hnb
        by_cases he : e' = 0
        · subst he
          go_wp2_with (first | (go_at_call 84; go_must (refine (docs_any _ (f : Int) (t : Int) (.slice Au nb cu)).mono ?_; rintro e' w8 ⟨rfl, h8⟩; have H8 := Aside0.mk h8; clear h8)) | (go_at_call 86; go_must (refine (good_ok _ w.heap.size g i' xs T7.out.op.rd).mono ?_; rintro e' wz ⟨rfl, hz⟩; have hz' := hz.symm; subst hz')) | (go_at_call 52; go_must (refine HBY.out.mono ?_; rintro e' w6 ⟨u, rfl, q1, q2, q3⟩; obtain ⟨Au, cu, eu, hcu⟩ := Win.shape q1; simp only [HNB.out] at eu hcu; subst eu; obtain ⟨k1, k2, k3, k4, k5, t7⟩ := HS.out.lay HH.out q3 q2 (Acc.of (n := b.length) q1); have T7 := Aside0.mk t7; have Q1 := Aside0.mk q1; clear q1 q2 q3 t7)))
          have h8 := H8.out
          subst h8
          generalize hw7 : w6.setCell ⟨gv, off + j * 3 + 2, none⟩ (.slice Au nb cu) = w7 at T7 ⊢
          have hAu : Au = none → cu = 0 := fun e => by
            subst e
            have q := Q1.out
            rw [HNB.out] at q
            exact q.nil_cap
          have hrd : RdV w7 Au (nums .u8 b) := by
            have q := T7.out.ch.part (.slice Au nb cu, ⟨f, t, b⟩) (by simp)
            exact RdV.of_win q
          have hbox := heap_alloc_new w7 (.cells #[.int .i64 (f : Int), .int .i64 (t : Int), .slice Au nb cu] 118)
          rw [show w7.heap.size = w6.heap.size from by rw [← hw7]; simp [World.setCell]] at hbox
          have T8 := Aside0.mk (T7.out.no (Fr.alloc (S := No) w7 (.cells #[.int .i64 (f : Int), .int .i64 (t : Int), .slice Au nb cu] 118)))
          have hrd8 := hrd.below (below_alloc (Below.refl _ _) (.cells #[.int .i64 (f : Int), .int .i64 (t : Int), .slice Au nb cu] 118))
          refine wp_rangeNone (gb := w6.heap.size) (f := f) (t := t) (nb := nb) (c := cu) (A := Au) (b := b) rfl hbox hrd8 HNB.out HBB.out.1 hAu hcu (by omega) (by omega) (by omega) ?_ ?_
          · intro Dm dl W2 hD hm hS hF
            have HN := Aside0.mk (T8.out.next HH.out HBE.out hS hF hD hm)
            clear T8 hrd hrd8 hbox hw7
            go_wp2_with fail
            exact ⟨⟨j + 1, by omega, i', P ++ [(.slice Au nb cu, ⟨f, t, b⟩)], D ++ dl, Dm :: ms, HN, by simp, rfl⟩, by simp [intOf]; omega⟩
          · intro Dm W2 hD hm hS hF
            have HZ := T8.out.bad HS1.out HS2.out HG.out HH.out HBE.out (.inr hS)
            have hop := T8.out.op.no hF
            exact open_fall (ms := Dm :: ms) rfl rfl hop.b2 hop.b3 hop.bel hop.h2 hop.h3 (T8.out.mark hF hD hm) (fun W' f => ⟨f, .inl ⟨HZ, rfl⟩⟩)
        · go_wp2_with (first | (go_at_call 86; go_must (refine (good_err _ w.heap.size g i' xs e' he true T7.out.op.rd).mono ?_; rintro e' wz ⟨rfl, hz⟩; have hz' := hz.symm; subst hz')) | (go_at_call 52; go_must (refine HBY.out.mono ?_; rintro e' w6 ⟨u, rfl, q1, q2, q3⟩; obtain ⟨Au, cu, eu, hcu⟩ := Win.shape q1; simp only [HNB.out] at eu hcu; subst eu; obtain ⟨k1, k2, k3, k4, k5, t7⟩ := HS.out.lay HH.out q3 q2 (Acc.of (n := b.length) q1); have T7 := Aside0.mk t7; have Q1 := Aside0.mk q1; clear q1 q2 q3 t7)))
          have HZ := T7.out.bad HS1.out HS2.out HG.out HH.out HBE.out (.inl he)
          exact open_fall (ms := ms) rfl rfl T7.out.op.b2 T7.out.op.b3 T7.out.op.bel T7.out.op.h2 T7.out.op.h3 T7.out.mks (fun W' f => ⟨f, .inl ⟨HZ, rfl⟩⟩)
      · obtain rfl : j = K := by omega
        iterate 16 go_step
        exact open_tail HL.out HRD.out HB.out HC.out hnx hn1 hK1 HS1.out HS2.out HG.out HS.out
  · have hz : ((a : Int) == (n : Int)) = false := by simp; omega
    have HZ := Aside0.mk (show storeF xs = none from by rw [storeF_heads HS1.out HS2.out HG.out, if_neg han])
    go_wp2_with (first | (go_at_call 86; go_must (refine (good_not W w.heap.size g i xs H0.out.op.rd).mono ?_; rintro e' wz ⟨rfl, hz⟩; have hz' := hz.symm; subst hz')))
    exact open_fall (ms := []) rfl rfl H0.out.op.b2 H0.out.op.b3 H0.out.op.bel H0.out.op.h2 H0.out.op.h3 (Marks.nil w W) (fun W' f => ⟨f, .inl ⟨HZ.out, rfl⟩⟩)
end Go.Proofs.Ytchcimkmjoegdaa.C
