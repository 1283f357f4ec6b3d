/- A store in memory; Len (37), Chunks (39), Chunk (36). Conditions: as each theorem states. | stored.good (86). Conditions: as each theorem states. | chunk.docs (84): it makes the iterator. Conditions: as the theorem states. | Stored documents read again: the pure reading, no program. Conditions: as each theorem states. | The chunks lie in a row. Conditions: as each theorem states. | What Open makes of any bytes: the pure reading of a store, and that a store's own form is read again. No program. Conditions: as each theorem states. | A document of its own memory; what an iterator does between two rounds, what a round keeps. Conditions: as each theorem states. | The states of the iterator over a chunk's documents (112): between numbers, between entries, between documents. Conditions: as each theorem states. (Several texts of mine laid into one by prune.py.) -/
import Derived.Test.YtchcimkmjoegdaaStB6
namespace Go.Proofs.Ytchcimkmjoegdaa.C
open Go.RowKit Go.Proofs.YtchcimkmjoegdaaW.PrintWords Go.Proofs.YtchcimkmjoegdaaW.PrintMore Go.Proofs.Ytchcimkmjoegdaa.M
set_option linter.unusedVariables false
set_option linter.unusedSimpArgs false

/-- A store is read: its chunks, its number of documents; no word on the chunks' bytes. -/
structure StoR (w : World) (g : Nat) (A : Option Addr) (k c n : Nat) (C : List (Value × Chk)) : Prop where
  at_ : w.heap[g]? = some (.cells #[.slice A k c, .int .i64 n] 121 (0, 0))
  hdr : RdV w A (C.flatMap chkCells)
  len : C.length = k
  cap : k ≤ c
  max : k ≤ 9223372036854775807
theorem StoR.below {w w' : World} {g k c n : Nat} {A : Option Addr} {C : List (Value × Chk)} (h : StoR w g A k c n C) (hb : Below w.heap.size w w') : StoR w' g A k c n C :=
  ⟨(hb.block g (blk_lt h.at_)).trans h.at_, h.hdr.below hb, h.len, h.cap, h.max⟩
theorem StoR.cells {w : World} {g k c n : Nat} {A : Option Addr} {C : List (Value × Chk)} (h : StoR w g A k c n C) : w.cell? ⟨g, 0, none⟩ = some (.slice A k c) ∧ w.cell? ⟨g, 1, none⟩ = some (.int .i64 n) := by
  have := h.at_
  simp [World.cell?, this]
theorem SLen_nil (w : World) : Calls Try.prog 37 #[.pointer none] w fun e w' => e = .returned (.int .i64 0) ∧ w' = w := by
  go_enter Try.func37, Try.ntmps37
  go_wp2_with fail
  go_ret
  exact ⟨rfl, rfl⟩
theorem SLen_any (w : World) (g k c n : Nat) (A : Option Addr) (C : List (Value × Chk)) (h : StoR w g A k c n C) : Calls Try.prog 37 #[.pointer (some ⟨g, 0, none⟩)] w fun e w' => e = .returned (.int .i64 n) ∧ w' = w := by
  obtain ⟨h0, h1⟩ := h.cells
  clear h
  go_enter Try.func37, Try.ntmps37
  go_wp2_with fail
  go_ret
  exact ⟨rfl, rfl⟩
theorem SChunks_nil (w : World) : Calls Try.prog 39 #[.pointer none] w fun e w' => e = .returned (.int .i64 0) ∧ w' = w := by
  go_enter Try.func39, Try.ntmps39
  go_wp2_with fail
  go_ret
  exact ⟨rfl, rfl⟩
theorem SChunks_any (w : World) (g k c n : Nat) (A : Option Addr) (C : List (Value × Chk)) (h : StoR w g A k c n C) : Calls Try.prog 39 #[.pointer (some ⟨g, 0, none⟩)] w fun e w' => e = .returned (.int .i64 k) ∧ w' = w := by
  obtain ⟨h0, h1⟩ := h.cells
  clear h
  go_enter Try.func39, Try.ntmps39
  go_wp2_with fail
  go_ret
  exact ⟨rfl, rfl⟩
theorem SChunk_neg (w : World) (p : Value) (i : Int) (hi : i < 0) : Calls Try.prog 36 #[p, .int .i64 i] w fun e w' => e = .returned (.tuple #[.int .i64 0, .int .i64 0]) ∧ w' = w := by
  go_enter Try.func36, Try.ntmps36
  go_wp2_with fail
  go_ret2
  exact ⟨rfl, rfl⟩
theorem SChunk_nil (w : World) (i : Int) : Calls Try.prog 36 #[.pointer none, .int .i64 i] w fun e w' => e = .returned (.tuple #[.int .i64 0, .int .i64 0]) ∧ w' = w := by
  by_cases hi : i < 0
  · exact SChunk_neg w _ i hi
  go_enter Try.func36, Try.ntmps36
  go_wp2_with (go_at_call 39; go_must (refine (SChunks_nil _).mono ?_; rintro e' _ ⟨rfl, rfl⟩))
  go_ret2
  exact ⟨rfl, rfl⟩
theorem SChunk_out (w : World) (g k c n : Nat) (A : Option Addr) (C : List (Value × Chk)) (h : StoR w g A k c n C) (i : Int) (hi : (k : Int) ≤ i) : Calls Try.prog 36 #[.pointer (some ⟨g, 0, none⟩), .int .i64 i] w fun e w' => e = .returned (.tuple #[.int .i64 0, .int .i64 0]) ∧ w' = w := by
  have H := Aside0.mk h
  have h0 : ¬ i < 0 := by omega
  clear h
  go_enter Try.func36, Try.ntmps36
  go_wp2_with (go_at_call 39; go_must (refine (SChunks_any _ g k c n A C H.out).mono ?_; rintro e' _ ⟨rfl, rfl⟩))
  go_ret2
  exact ⟨rfl, rfl⟩
theorem chk_at {w : World} {A : Option Addr} {C : List (Value × Chk)} {j : Nat} {u : Value} {f t : Nat} {b : List Int} (h : RdV w A (C.flatMap chkCells)) (hp : C[j]? = some (u, Chk.mk f t b)) : ∃ ad, A = some ad ∧ w.cell? (ad.add (j * 3)) = some (.int .i64 f) ∧ w.cell? ⟨(ad.add (j * 3)).block, (ad.add (j * 3)).off + 1, none⟩ = some (.int .i64 t) ∧ w.cell? ⟨(ad.add (j * 3)).block, (ad.add (j * 3)).off + 2, none⟩ = some u := by
  have h0 := flat3_get (k := 0) chk3 hp (by decide)
  have h1 := flat3_get (k := 1) chk3 hp (by decide)
  have h2 := flat3_get (k := 2) chk3 hp (by decide)
  obtain ⟨ad, e, hc⟩ := h (by intro h0'; rw [h0'] at h0; simp [chkCells] at h0)
  refine ⟨ad, e, hc _ _ h0, ?_, ?_⟩
  · rw [← add_off _ _ _ (by decide)]
    exact hc _ _ h1
  · rw [← add_off _ _ _ (by decide)]
    exact hc _ _ h2
theorem SChunk_in (w : World) (g k c n : Nat) (A : Option Addr) (C : List (Value × Chk)) (h : StoR w g A k c n C) (i : Nat) (u : Value) (f t : Nat) (b : List Int) (hp : C[i]? = some (u, Chk.mk f t b)) : Calls Try.prog 36 #[.pointer (some ⟨g, 0, none⟩), .int .i64 i] w fun e w' => e = .returned (.tuple #[.int .i64 f, .int .i64 t]) ∧ ∃ m, w' = w.drewN m := by
  have H := Aside0.mk h
  obtain ⟨ad, eA, c0, c1, _⟩ := chk_at h.hdr hp
  subst eA
  obtain ⟨h0, h1⟩ := h.cells
  have hik : i < k := by have := (List.getElem?_eq_some_iff.1 hp).1; rw [← h.len]; exact this
  have hc := h.cap
  clear h hp
  go_enter Try.func36, Try.ntmps36
  go_wp2_with (go_at_call 39; go_must (refine (SChunks_any _ g k c n _ C H.out).mono ?_; rintro e' _ ⟨rfl, rfl⟩))
  go_quiet (fail)
  go_wp2_with fail
  go_ret2
  exact ⟨rfl, nq, rfl⟩
end Go.Proofs.Ytchcimkmjoegdaa.C
namespace Go.Proofs.Ytchcimkmjoegdaa.C
open Go.RowKit Go.Proofs.YtchcimkmjoegdaaW.PrintWords Go.Proofs.YtchcimkmjoegdaaW.PrintMore Go.Proofs.Ytchcimkmjoegdaa.M
set_option linter.unusedVariables false
set_option linter.unusedSimpArgs false

/-- What good panics with. -/
def corruptP : PanicEntry := { v := .iface 129 (.agg #[]), recovered := false }
theorem good_ok (w : World) (base g i : Nat) (xs : List Int) (h : Rdr w base g xs i 0) : Calls Try.prog 86 #[.pointer (some ⟨g, 0, none⟩), .bool true] w fun e w' => e = .returned (.tuple #[]) ∧ w' = w := by
  have H := Aside0.mk h
  clear h
  go_enter Try.func86, Try.ntmps86
  go_wp2_with (go_at_call 22; go_must (refine (Err_any _ base g i xs 0 H.out).mono ?_; rintro e' _ ⟨rfl, rfl⟩))
  go_end0
  exact ⟨rfl, rfl⟩
theorem good_err (w : World) (base g i : Nat) (xs : List Int) (e : Int) (he : e ≠ 0) (b : Bool) (h : Rdr w base g xs i e) : Calls Try.prog 86 #[.pointer (some ⟨g, 0, none⟩), .bool b] w fun e w' => e = .panicked [corruptP] ∧ w' = w := by
  have H := Aside0.mk h
  have hb : (e != 0) = true := by simp [he]
  clear h he
  go_enter Try.func86, Try.ntmps86
  go_wp2_with (go_at_call 22; go_must (refine (Err_any _ base g i xs e H.out).mono ?_; rintro e' _ ⟨rfl, rfl⟩))
  exact ⟨rfl, rfl, rfl⟩
theorem good_not (w : World) (base g i : Nat) (xs : List Int) (h : Rdr w base g xs i 0) : Calls Try.prog 86 #[.pointer (some ⟨g, 0, none⟩), .bool false] w fun e w' => e = .panicked [corruptP] ∧ w' = w := by
  have H := Aside0.mk h
  clear h
  go_enter Try.func86, Try.ntmps86
  go_wp2_with (go_at_call 22; go_must (refine (Err_any _ base g i xs 0 H.out).mono ?_; rintro e' _ ⟨rfl, rfl⟩))
  exact ⟨rfl, rfl, rfl⟩
/-- good: goes on just if there is no error and the fact holds. -/
theorem good_any (w : World) (base g i : Nat) (xs : List Int) (e : Int) (b : Bool) (h : Rdr w base g xs i e) : Calls Try.prog 86 #[.pointer (some ⟨g, 0, none⟩), .bool b] w fun e' w' => e' = (if e = 0 ∧ b = true then .returned (.tuple #[]) else .panicked [corruptP]) ∧ w' = w := by
  by_cases he : e = 0
  · subst he
    cases b with
    | true => rw [if_pos ⟨rfl, rfl⟩]; exact good_ok w base g i xs h
    | false => rw [if_neg (by simp)]; exact good_not w base g i xs h
  · rw [if_neg (fun hh => he hh.1)]
    exact good_err w base g i xs e he b h
end Go.Proofs.Ytchcimkmjoegdaa.C
namespace Go.Proofs.Ytchcimkmjoegdaa.C
open Go.RowKit Go.Proofs.YtchcimkmjoegdaaW.PrintWords Go.Proofs.YtchcimkmjoegdaaW.PrintMore Go.Proofs.Ytchcimkmjoegdaa.M
set_option linter.unusedVariables false
set_option linter.unusedSimpArgs false

theorem docs_any (w : World) (f t : Int) (v : Value) : Calls Try.prog 84 #[.agg #[.int .i64 f, .int .i64 t, v]] w fun e w' => e = .returned (.func (.func 112) #[] #[.pointer (some ⟨w.heap.size, 0, none⟩)]) ∧ w' = w.alloc (.cells #[.int .i64 f, .int .i64 t, v] 118) := by
  go_enter Try.func84, Try.ntmps84
  go_wp2_with fail
  go_ret
  exact ⟨rfl, rfl⟩
end Go.Proofs.Ytchcimkmjoegdaa.C
namespace Go.Proofs.Ytchcimkmjoegdaa.C
open Go.RowKit Go.Proofs.YtchcimkmjoegdaaW.PrintWords Go.Proofs.YtchcimkmjoegdaaW.PrintMore Go.Proofs.Ytchcimkmjoegdaa.M
set_option linter.unusedVariables false
set_option linter.unusedSimpArgs false

/-- n numbers read at p = (place, error). -/
def numsR (xs : List Int) : Nat → Nat × Int → List Int × Nat × Int
  | 0, p => ([], p)
  | n + 1, p => let r := rU xs p.1 p.2; let s := numsR xs n r.2; (unzig r.1 :: s.1, s.2)
/-- An entry read. -/
def entR (xs : List Int) (p : Nat × Int) : Ent × Nat × Int :=
  let a := rT xs p.1 p.2 24; let b := rT xs a.2.1 a.2.2 4096; let c := rS xs b.2.1 b.2.2 4; let d := numsR xs c.1 c.2; (⟨strOfNums a.1, strOfNums b.1, d.1⟩, d.2)
/-- n entries read, none at the first error. -/
def entsO (xs : List Int) : Nat → Nat → Option (List Ent × Nat)
  | 0, i => some ([], i)
  | n + 1, i => let r := entR xs (i, 0); if r.2.2 = 0 then (entsO xs n r.2.1).map fun q => (r.1 :: q.1, q.2) else none
def docO (xs : List Int) (i : Nat) : Option (List Ent × Nat) := let r := rS xs i 0 64; if r.2.2 = 0 then entsO xs r.1 r.2.1 else none
def docsO (xs : List Int) : Nat → Nat → Option (List (List Ent) × Nat)
  | 0, i => some ([], i)
  | n + 1, i => (docO xs i).bind fun r => (docsO xs n r.2).map fun q => (r.1 :: q.1, q.2)
theorem numsR_full (ns : List Int) (h : I64 ns) : ∀ (pre post : List Int), numsR (pre ++ numB ns ++ post) ns.length (pre.length, 0) = (ns, pre.length + (numB ns).length, 0) := by
  induction ns with
  | nil => intro pre post; simp [numsR, numB]
  | cons q ns ih =>
    intro pre post
    have hq := h q (by simp)
    have e : pre ++ numB (q :: ns) ++ post = pre ++ uenc (Lib.zigzag q) ++ (numB ns ++ post) := by simp [numB]
    have h1 := rU_full pre (numB ns ++ post) (Lib.zigzag q) (zig_64 q hq.1 hq.2)
    have h2 := ih (fun x hx => h x (List.mem_cons_of_mem _ hx)) (pre ++ uenc (Lib.zigzag q)) post
    rw [List.length_cons, numsR, e, h1]
    have e2 : pre ++ uenc (Lib.zigzag q) ++ (numB ns ++ post) = pre ++ uenc (Lib.zigzag q) ++ numB ns ++ post := by simp only [List.append_assoc]
    rw [List.length_append] at h2
    simp only
    rw [e2, h2, unzig_zig]
    simp [numB, Nat.add_assoc]
theorem entR_full (e : Ent) (ho : okE e = true) (h : I64 e.ns) (pre post : List Int) : entR (pre ++ entB e ++ post) (pre.length, 0) = (e, pre.length + (entB e).length, 0) := by
  obtain ⟨f, t, ns⟩ := e
  obtain ⟨h1, h2, h3⟩ := okE_iff.1 ho
  replace h1 : f.size ≤ 24 := h1
  replace h2 : t.size ≤ 4096 := h2
  replace h3 : ns.length ≤ 4 := h3
  have e1 : pre ++ entB ⟨f, t, ns⟩ ++ post = pre ++ (uenc f.size ++ bytesOf f) ++ (txtB t ++ uenc ns.length ++ numB ns ++ post) := by simp [entB, txtB]
  have e2 : pre ++ entB ⟨f, t, ns⟩ ++ post = (pre ++ (uenc f.size ++ bytesOf f)) ++ (uenc t.size ++ bytesOf t) ++ (uenc ns.length ++ numB ns ++ post) := by simp [entB, txtB]
  have e3 : pre ++ entB ⟨f, t, ns⟩ ++ post = (pre ++ (uenc f.size ++ bytesOf f) ++ (uenc t.size ++ bytesOf t)) ++ uenc ns.length ++ (numB ns ++ post) := by simp [entB, txtB]
  have e4 : pre ++ entB ⟨f, t, ns⟩ ++ post = (pre ++ (uenc f.size ++ bytesOf f) ++ (uenc t.size ++ bytesOf t) ++ uenc ns.length) ++ numB ns ++ post := by simp [entB, txtB]
  have r1 := rT_full pre (txtB t ++ uenc ns.length ++ numB ns ++ post) f 24 (by rw [M64_eq]; omega) (by omega)
  have r2 := rT_full (pre ++ (uenc f.size ++ bytesOf f)) (uenc ns.length ++ numB ns ++ post) t 4096 (by rw [M64_eq]; omega) (by omega)
  have r3 := rS_full (pre ++ (uenc f.size ++ bytesOf f) ++ (uenc t.size ++ bytesOf t)) (numB ns ++ post) ns.length 4 (by rw [M64_eq]; omega) (by omega)
  have r4 := numsR_full ns h (pre ++ (uenc f.size ++ bytesOf f) ++ (uenc t.size ++ bytesOf t) ++ uenc ns.length) post
  rw [← e1] at r1
  rw [← e2] at r2
  rw [← e3] at r3
  rw [← e4] at r4
  generalize pre ++ entB ⟨f, t, ns⟩ ++ post = xs at r1 r2 r3 r4 ⊢
  simp only [List.length_append, Nat.add_assoc] at r1 r2 r3 r4
  unfold entR
  simp only [r1, r2, r3, r4, str_back]
  simp [entB, txtB, Nat.add_assoc]
theorem entsO_full : ∀ (d : List Ent), (∀ e ∈ d, okE e = true ∧ I64 e.ns) → ∀ (pre post : List Int), entsO (pre ++ d.flatMap entB ++ post) d.length pre.length = some (d, pre.length + (d.flatMap entB).length)
  | [], _, pre, post => by simp [entsO]
  | e :: d, h, pre, post => by
    have h1 := entR_full e (h e (by simp)).1 (h e (by simp)).2 pre (d.flatMap entB ++ post)
    have h2 := entsO_full d (fun x hx => h x (List.mem_cons_of_mem _ hx)) (pre ++ entB e) post
    have e1 : pre ++ (e :: d).flatMap entB ++ post = pre ++ entB e ++ (d.flatMap entB ++ post) := by simp
    have e2 : pre ++ (e :: d).flatMap entB ++ post = pre ++ entB e ++ d.flatMap entB ++ post := by simp
    rw [← e1] at h1
    rw [← e2, List.length_append] at h2
    rw [List.length_cons, entsO, h1]
    simp only [if_true]
    rw [h2]
    simp [Nat.add_assoc]
theorem docO_full (d : List Ent) (ho : okD d = true) (h : ∀ e ∈ d, I64 e.ns) (pre post : List Int) : docO (pre ++ docB d ++ post) pre.length = some (d, pre.length + (docB d).length) := by
  unfold okD at ho
  rw [Bool.and_eq_true, decide_eq_true_eq, List.all_eq_true] at ho
  have h1 := rS_full pre (d.flatMap entB ++ post) d.length 64 (by rw [M64_eq]; omega) (by omega)
  have h2 := entsO_full d (fun e he => ⟨ho.2 e he, h e he⟩) (pre ++ uenc d.length) post
  have e1 : pre ++ docB d ++ post = pre ++ uenc d.length ++ (d.flatMap entB ++ post) := by simp [docB]
  have e2 : pre ++ docB d ++ post = pre ++ uenc d.length ++ d.flatMap entB ++ post := by simp [docB]
  rw [← e1] at h1
  rw [← e2, List.length_append] at h2
  generalize pre ++ docB d ++ post = xs at h1 h2 ⊢
  unfold docO
  simp only [h1, if_true]
  rw [h2]
  simp [docB, Nat.add_assoc]
theorem docsO_full : ∀ (D : List (List Ent)), (∀ d ∈ D, okD d = true ∧ ∀ e ∈ d, I64 e.ns) → ∀ (pre post : List Int), docsO (pre ++ D.flatMap docB ++ post) D.length pre.length = some (D, pre.length + (D.flatMap docB).length)
  | [], _, pre, post => by simp [docsO]
  | d :: D, h, pre, post => by
    have h1 := docO_full d (h d (by simp)).1 (h d (by simp)).2 pre (D.flatMap docB ++ post)
    have h2 := docsO_full D (fun x hx => h x (List.mem_cons_of_mem _ hx)) (pre ++ docB d) post
    have e1 : pre ++ (d :: D).flatMap docB ++ post = pre ++ docB d ++ (D.flatMap docB ++ post) := by simp
    have e2 : pre ++ (d :: D).flatMap docB ++ post = pre ++ docB d ++ D.flatMap docB ++ post := by simp
    rw [← e1] at h1
    rw [← e2, List.length_append] at h2
    rw [List.length_cons, docsO, h1]
    simp only [Option.bind_some]
    rw [h2]
    simp [Nat.add_assoc]
end Go.Proofs.Ytchcimkmjoegdaa.C
namespace Go.Proofs.Ytchcimkmjoegdaa.C
open Go.RowKit Go.Proofs.YtchcimkmjoegdaaW.PrintWords Go.Proofs.YtchcimkmjoegdaaW.PrintMore Go.Proofs.Ytchcimkmjoegdaa.M
set_option linter.unusedVariables false
set_option linter.unusedSimpArgs false

/-- From a to b, one chunk behind the other, none empty. -/
def Lk (a : Nat) : List Chk → Nat → Prop
  | [], b => a = b
  | c :: C, b => c.f = a ∧ c.f < c.t ∧ Lk c.t C b
theorem lk_snoc {x : Chk} : ∀ {P : List Chk} {a b : Nat}, Lk a (P ++ [x]) b ↔ Lk a P x.f ∧ x.f < x.t ∧ x.t = b
  | [], a, b => by
    show (x.f = a ∧ x.f < x.t ∧ x.t = b) ↔ (a = x.f ∧ x.f < x.t ∧ x.t = b)
    exact ⟨fun ⟨h1, h2⟩ => ⟨h1.symm, h2⟩, fun ⟨h1, h2⟩ => ⟨h1.symm, h2⟩⟩
  | c :: P, a, b => by
    show (c.f = a ∧ c.f < c.t ∧ Lk c.t (P ++ [x]) b) ↔ ((c.f = a ∧ c.f < c.t ∧ Lk c.t P x.f) ∧ x.f < x.t ∧ x.t = b)
    rw [lk_snoc]
    exact ⟨fun ⟨h1, h2, h3, h4⟩ => ⟨⟨h1, h2, h3⟩, h4⟩, fun ⟨⟨h1, h2, h3⟩, h4⟩ => ⟨h1, h2, h3, h4⟩⟩
/-- A chunk's bytes are the forms of its documents. -/
def Cut1 (B : List (List Int)) (c : Chk) : Prop := c.b = ((B.take c.t).drop c.f).flatten
theorem cutN_row (B : List (List Int)) : ∀ i, i ≤ B.length → Lk 0 (cutN B i) i ∧ ∀ c ∈ cutN B i, Cut1 B c
  | 0, _ => ⟨rfl, fun c hc => nomatch hc⟩
  | i + 1, hi => by
    obtain ⟨h1, h2⟩ := cutN_row B i (by omega)
    obtain ⟨b, hb⟩ := get_some' (xs := B) (i := i) (by omega)
    rw [cutN_succ hb]
    have ht : B.take (i + 1) = B.take i ++ [b] := by rw [List.take_add_one, hb]; rfl
    generalize cutN B i = C at h1 h2
    rcases hfull : fullC C with _ | _
    · obtain ⟨P, y, rfl, _⟩ := fullC_some hfull
      rw [cutStep_more hfull]
      obtain ⟨k1, k2, k3⟩ := lk_snoc.1 h1
      refine ⟨lk_snoc.2 ⟨k1, by show y.f < i + 1; omega, rfl⟩, fun c hc => ?_⟩
      rcases List.mem_append.1 hc with hc | hc
      · exact h2 c (List.mem_append_left _ hc)
      · simp only [List.mem_cons, List.mem_nil_iff, or_false] at hc
        subst hc
        have hy : y.b = ((B.take y.t).drop y.f).flatten := h2 y (by simp)
        show y.b ++ b = ((B.take (i + 1)).drop y.f).flatten
        rw [hy, k3, ht, List.drop_append_of_le_length (by rw [List.length_take]; omega), List.flatten_append]
        simp
    · rw [cutStep_full hfull]
      refine ⟨lk_snoc.2 ⟨h1, by show i < i + 1; omega, rfl⟩, fun c hc => ?_⟩
      rcases List.mem_append.1 hc with hc | hc
      · exact h2 c hc
      · simp only [List.mem_cons, List.mem_nil_iff, or_false] at hc
        subst hc
        show b = ((B.take (i + 1)).drop i).flatten
        rw [ht, List.drop_append_of_le_length (by rw [List.length_take]; omega)]
        have : (B.take i).drop i = [] := List.drop_eq_nil_of_le (by rw [List.length_take]; omega)
        rw [this]
        simp
theorem cutsF_row (d : List (List Ent)) : Lk 0 (cutsF d) d.length ∧ ∀ c ∈ cutsF d, c.b = ((d.take c.t).drop c.f).flatMap docB := by
  obtain ⟨h1, h2⟩ := cutN_row (d.map docB) d.length (by rw [List.length_map]; exact Nat.le_refl _)
  refine ⟨h1, fun c hc => ?_⟩
  have h := h2 c hc
  unfold Cut1 at h
  rw [h, ← List.map_take, ← List.map_drop, List.flatMap_def]
/-- A chunk is read again: its documents, and nothing behind them. -/
theorem chunk_back {d : List (List Ent)} (ho : okDs d = true) (h : ∀ x ∈ d, ∀ e ∈ x, I64 e.ns) {c : Chk} (hc : c ∈ cutsF d) : docsO c.b (c.t - c.f) 0 = some ((d.take c.t).drop c.f, c.b.length) := by
  have hft := cutsF_ft hc
  have hb := (cutsF_row d).2 c hc
  unfold okDs at ho
  rw [Bool.and_eq_true, List.all_eq_true] at ho
  have h1 := docsO_full ((d.take c.t).drop c.f) (fun x hx => by
    have hx' : x ∈ d := List.mem_of_mem_take (List.mem_of_mem_drop hx)
    exact ⟨ho.2 x hx', h x hx'⟩) [] []
  rw [List.nil_append, List.append_nil, ← hb, List.length_drop, List.length_take, Nat.min_eq_left hft.2] at h1
  simpa using h1
end Go.Proofs.Ytchcimkmjoegdaa.C
namespace Go.Proofs.Ytchcimkmjoegdaa.C
open Go.RowKit Go.Proofs.YtchcimkmjoegdaaW.PrintWords Go.Proofs.YtchcimkmjoegdaaW.PrintMore Go.Proofs.Ytchcimkmjoegdaa.M
set_option linter.unusedVariables false
set_option linter.unusedSimpArgs false

/-- k heads to go, from document a on, read at place i: each head's first document, the one behind its last, its size. -/
def headsO (xs : List Int) (n : Nat) : Nat → Nat → Nat → Option (List (Nat × Nat × Nat) × Nat × Nat)
  | 0, a, i => some ([], a, i)
  | k + 1, a, i => let r := rS xs i 0 16384; let s := rS xs r.2.1 r.2.2 xs.length; if s.2.2 = 0 ∧ a < a + r.1 ∧ a + r.1 ≤ n then (headsO xs n k (a + r.1) s.2.1).map fun q => ((a, a + r.1, s.1) :: q.1, q.2) else none
/-- A whole chunk's documents. -/
def chunkO (b : List Int) (n : Nat) : Option (List (List Ent)) := (docsO b n 0).bind fun q => if q.2 = b.length then some q.1 else none
def bodiesO (xs : List Int) : List (Nat × Nat × Nat) → Nat → Option (List Chk × List (List Ent) × Nat)
  | [], i => some ([], [], i)
  | h :: H, i => let r := rB xs i 0 (h.2.2 : Nat); if r.2.2 = 0 then (chunkO r.1 (h.2.1 - h.1)).bind fun D => (bodiesO xs H r.2.1).map fun q => (⟨h.1, h.2.1, r.1⟩ :: q.1, D ++ q.2.1, q.2.2) else none
/-- What Open makes of bytes. -/
def storeF (xs : List Int) : Option (List Chk × List (List Ent)) :=
  let n := rS xs 0 0 16384; let m := rS xs n.2.1 n.2.2 (n.1 : Nat)
  if m.2.2 = 0 then (headsO xs n.1 m.1 0 m.2.1).bind fun q => if q.2.1 = n.1 then (bodiesO xs q.1 q.2.2).bind fun r => if r.2.2 = xs.length ∧ okDs r.2.1 = true ∧ buildB r.2.1 = xs then some (r.1, r.2.1) else none else none else none
def Fine (d : List (List Ent)) : Prop := okDs d = true ∧ ∀ x ∈ d, ∀ e ∈ x, I64 e.ns
def hdC (c : Chk) : Nat × Nat × Nat := (c.f, c.t, c.b.length)
theorem headsO_full (xs : List Int) (n : Nat) (hn : n ≤ 16384) : ∀ (C : List Chk) (a b : Nat) (pre post : List Int), xs = pre ++ C.flatMap chkH ++ post → Lk a C b → b ≤ n → (∀ c ∈ C, c.b.length ≤ xs.length ∧ c.b.length < M64) →
    headsO xs n C.length a pre.length = some (C.map hdC, b, pre.length + (C.flatMap chkH).length)
  | [], a, b, pre, post, _, h, _, _ => by
    have h' : a = b := h
    subst h'
    rfl
  | c :: C, a, b, pre, post, hx, h, hb, hs => by
    obtain ⟨h1, h2, h3⟩ := h
    have hle : ∀ {C : List Chk} {a b : Nat}, Lk a C b → a ≤ b := by
      intro C
      induction C with
      | nil => intro a b h; exact Nat.le_of_eq h
      | cons x C ih => intro a b h; obtain ⟨k1, k2, k3⟩ := h; have := ih k3; omega
    have hct := hle h3
    obtain ⟨s, hs'⟩ : ∃ s, c.t = a + s := ⟨c.t - a, by omega⟩
    have hu : c.t - c.f = s := by omega
    have r1 := rS_full pre (uenc c.b.length ++ (C.flatMap chkH ++ post)) s 16384 (by rw [M64_eq]; omega) (by omega)
    have r2 := rS_full (pre ++ uenc s) (C.flatMap chkH ++ post) c.b.length (xs.length : Nat) (hs c (by simp)).2 (by have := (hs c (by simp)).1; omega)
    have e1 : xs = pre ++ uenc s ++ (uenc c.b.length ++ (C.flatMap chkH ++ post)) := by rw [hx, List.flatMap_cons]; unfold chkH; rw [hu]; simp only [List.append_assoc]
    have e2 : xs = pre ++ uenc s ++ uenc c.b.length ++ (C.flatMap chkH ++ post) := by rw [e1]; simp only [List.append_assoc]
    have e3 : xs = (pre ++ uenc s ++ uenc c.b.length) ++ C.flatMap chkH ++ post := by rw [e1]; simp only [List.append_assoc]
    have ih := headsO_full xs n hn C c.t b _ post e3 h3 hb (fun x hx => hs x (List.mem_cons_of_mem _ hx))
    rw [← e1] at r1
    rw [← e2] at r2
    simp only [List.length_append] at r2 ih
    rw [List.length_cons, headsO]
    simp only [r1, r2]
    rw [if_pos ⟨trivial, by omega, by omega⟩, ← hs', ih, List.flatMap_cons]
    unfold chkH
    rw [hu]
    simp [hdC, h1, Nat.add_assoc]
theorem bodiesO_full (xs : List Int) (dd : Chk → List (List Ent)) : ∀ (C : List Chk) (pre post : List Int), xs = pre ++ C.flatMap Chk.b ++ post → (∀ c ∈ C, chunkO c.b (c.t - c.f) = some (dd c)) →
    bodiesO xs (C.map hdC) pre.length = some (C, C.flatMap dd, pre.length + (C.flatMap Chk.b).length)
  | [], pre, post, _, _ => rfl
  | c :: C, pre, post, hx, h => by
    have e1 : xs = pre ++ c.b ++ (C.flatMap Chk.b ++ post) := by rw [hx, List.flatMap_cons]; simp only [List.append_assoc]
    have e2 : xs = (pre ++ c.b) ++ C.flatMap Chk.b ++ post := by rw [e1]; simp only [List.append_assoc]
    have r1 := rB_full pre (C.flatMap Chk.b ++ post) c.b
    have ih := bodiesO_full xs dd C _ post e2 (fun x hx => h x (List.mem_cons_of_mem _ hx))
    rw [← e1] at r1
    rw [List.length_append] at ih
    rw [List.map_cons, bodiesO]
    show (let r := rB xs pre.length 0 (c.b.length : Nat); _) = _
    simp only [r1, if_true, hdC, h c (by simp), Option.bind_some]
    rw [ih]
    simp [Nat.add_assoc]
theorem row_flat {d : List (List Ent)} : ∀ {C : List Chk} {a b : Nat}, Lk a C b → b ≤ d.length → C.flatMap (fun c => (d.take c.t).drop c.f) = (d.take b).drop a ∧ a ≤ b
  | [], a, b, h, hb => by
    have h' : a = b := h
    subst h'
    exact ⟨(List.drop_eq_nil_of_le (by rw [List.length_take]; omega)).symm, Nat.le_refl _⟩
  | c :: C, a, b, h, hb => by
    obtain ⟨h1, h2, h3⟩ := h
    obtain ⟨h4, h5⟩ := row_flat h3 hb
    refine ⟨?_, by omega⟩
    rw [List.flatMap_cons, h4, h1]
    have e : d.take c.t = (d.take b).take c.t := by rw [List.take_take, Nat.min_eq_left h5]
    rw [e]
    generalize d.take b = l
    have hac : a ≤ c.t := by omega
    have e2 : l.drop a = ((l.take c.t) ++ l.drop c.t).drop a := by rw [List.take_append_drop]
    rw [e2]
    rcases Nat.lt_or_ge a (l.take c.t).length with hlt | hge
    · rw [List.drop_append_of_le_length (by omega)]
    · rw [List.drop_eq_nil_of_le hge, List.drop_append]
      rw [List.drop_eq_nil_of_le hge, List.nil_append, List.nil_append]
      rw [List.length_take] at hge ⊢
      rcases Nat.lt_or_ge c.t l.length with h6 | h6
      · rw [Nat.min_eq_left (by omega)] at hge ⊢
        have : a - c.t = 0 := by omega
        rw [this]
        rfl
      · rw [List.drop_eq_nil_of_le h6]
        simp
theorem lk_len : ∀ {C : List Chk} {a b : Nat}, Lk a C b → C.length + a ≤ b
  | [], a, b, h => by have h' : a = b := h; simp [h']
  | c :: C, a, b, h => by
    obtain ⟨h1, h2, h3⟩ := h
    have := lk_len h3
    rw [List.length_cons]
    omega
/-- A store's own form is read again. -/
theorem storeF_build {d : List (List Ent)} (h : Fine d) (hs : ∀ c ∈ cutsF d, c.b.length ≤ 300000) : storeF (buildB d) = some (cutsF d, d) := by
  have hn : d.length ≤ 16384 := by
    have h := h.1
    unfold okDs at h
    rw [Bool.and_eq_true, decide_eq_true_eq] at h
    exact h.1
  have hrow := (cutsF_row d).1
  have hlen := lk_len hrow
  have hpart : ∀ c ∈ cutsF d, c.b.length ≤ (buildB d).length := fun c hc => by
    have h1 : c.b.length ≤ ((cutsF d).flatMap Chk.b).length := by
      have := mem_len_le (S := (cutsF d).map Chk.b) (s := c.b) (List.mem_map.2 ⟨c, hc, rfl⟩)
      rwa [← List.flatMap_def] at this
    unfold buildB
    simp only [List.length_append]
    omega
  have hch := fun c hc => chunk_back h.1 h.2 (c := c) hc
  obtain ⟨xs, hxs⟩ : ∃ xs, buildB d = xs := ⟨_, rfl⟩
  have e0 : xs = uenc d.length ++ uenc (cutsF d).length ++ (cutsF d).flatMap chkH ++ (cutsF d).flatMap Chk.b := hxs.symm
  have e1 : xs = [] ++ uenc d.length ++ (uenc (cutsF d).length ++ (cutsF d).flatMap chkH ++ (cutsF d).flatMap Chk.b) := by rw [e0]; simp only [List.append_assoc, List.nil_append]
  have e2 : xs = uenc d.length ++ uenc (cutsF d).length ++ ((cutsF d).flatMap chkH ++ (cutsF d).flatMap Chk.b) := by rw [e0]; simp only [List.append_assoc]
  have e3 : xs = (uenc d.length ++ uenc (cutsF d).length ++ (cutsF d).flatMap chkH) ++ (cutsF d).flatMap Chk.b ++ [] := by rw [e0, List.append_nil]
  have r1 := rS_full [] (uenc (cutsF d).length ++ (cutsF d).flatMap chkH ++ (cutsF d).flatMap Chk.b) d.length 16384 (by rw [M64_eq]; omega) (by omega)
  have r2 := rS_full (uenc d.length) ((cutsF d).flatMap chkH ++ (cutsF d).flatMap Chk.b) (cutsF d).length (d.length : Nat) (by rw [M64_eq]; omega) (by omega)
  have r3 := headsO_full xs d.length hn (cutsF d) 0 d.length _ _ e0 hrow (Nat.le_refl _) (fun c hc => ⟨by rw [← hxs]; exact hpart c hc, by have := hs c hc; rw [M64_eq]; omega⟩)
  have r4 := bodiesO_full xs (fun c => (d.take c.t).drop c.f) (cutsF d) _ _ e3 (fun c hc => by
    unfold chunkO
    rw [hch c hc]
    simp)
  rw [← e1] at r1
  rw [← e2] at r2
  simp only [List.length_nil, Nat.zero_add] at r1
  simp only [List.length_append] at r3 r4
  have hl : xs.length = (uenc d.length).length + (uenc (cutsF d).length).length + ((cutsF d).flatMap chkH).length + ((cutsF d).flatMap Chk.b).length := by rw [e0]; simp only [List.length_append]
  have hf : (cutsF d).flatMap (fun c => (d.take c.t).drop c.f) = d := by rw [(row_flat hrow (Nat.le_refl _)).1, List.take_length, List.drop_zero]
  rw [hxs]
  unfold storeF
  simp only [r1, r2, if_true, r3, Option.bind_some, r4, hf]
  rw [if_pos ⟨hl.symm, h.1, hxs⟩]
theorem numsR_len (xs : List Int) : ∀ (n : Nat) (p : Nat × Int), (numsR xs n p).1.length = n
  | 0, p => rfl
  | n + 1, p => by
    rw [numsR]
    simp only [List.length_cons]
    rw [numsR_len xs n]
theorem numsR_64 (xs : List Int) : ∀ (n : Nat) (p : Nat × Int), I64 (numsR xs n p).1
  | 0, p => fun q hq => nomatch hq
  | n + 1, p => fun q hq => by
    rw [numsR] at hq
    rcases List.mem_cons.1 hq with rfl | hq
    · exact unzig_range _ (rU_64 xs p.1 p.2)
    · exact numsR_64 xs n _ q hq
end Go.Proofs.Ytchcimkmjoegdaa.C
namespace Go.Proofs.Ytchcimkmjoegdaa.C
open Go.RowKit Go.Proofs.YtchcimkmjoegdaaW.PrintWords Go.Proofs.YtchcimkmjoegdaaW.PrintMore Go.Proofs.Ytchcimkmjoegdaa.M
set_option linter.unusedVariables false
set_option linter.unusedSimpArgs false

theorem info2 : (Try.prog.info? 2).map (fun i => (i.zero, i.size, i.bytes)) = some (some (.int .i64 0), 1, 8) := by kernel_rfl
theorem info134 : (Try.prog.info? 134).map (fun i => (i.zero, i.size, i.bytes)) = some (some (.agg #[.string ByteArray.empty, .string ByteArray.empty, .slice none 0 0]), 3, 56) := by kernel_rfl
theorem ent3 (p : Value × Ent) : (entCells p).length = 3 := rfl
/-- A document of its own memory. -/
structure DocW (W : World) (B : Nat) (v : Value) (D : List (Value × Ent)) : Prop where
  hdr : Win W B 134 3 v D.length (D.flatMap entCells)
  part : ∀ p ∈ D, Win W B 2 1 p.1 p.2.ns.length (nums .i64 p.2.ns)
  sep : ∀ (i j : Nat) (p q : Value × Ent) (k : Nat), i ≠ j → D[i]? = some p → D[j]? = some q → At p.1 k → ¬ At q.1 k
section
variable {W W1 : World} {B B' g : Nat} {v v1 : Value} {D : List (Value × Ent)}
theorem DocW.nil (W : World) (B : Nat) : DocW W B (.slice none 0 0) [] := ⟨Win.nil _ _ _ _, fun p hp => (nomatch hp), fun i j p q k _ h => (by simp at h)⟩
theorem DocW.lower (h : DocW W B v D) (hb : B' ≤ B) : DocW W B' v D := ⟨h.hdr.lower hb, fun p hp => (h.part p hp).lower hb, h.sep⟩
theorem DocW.below (h : DocW W B v D) (hb : Below W.heap.size W W1) : DocW W1 B v D := ⟨h.hdr.below hb, fun p hp => (h.part p hp).below hb, h.sep⟩
/-- A block of another type turned. -/
theorem DocW.one {cs : Array Value} {t : Nat} (h : DocW W B v D) (f : Fr (One g) W W1) (hg : W.heap[g]? = some (.cells cs t (0, 0))) (h1 : t ≠ 134) (h2 : t ≠ 2) : DocW W1 B v D :=
  ⟨h.hdr.fr f (fun k hk hs => by have hs' : k = g := hs; subst hs'; exact h1 (h.hdr.ne_type hk hg).symm), fun p hp => (h.part p hp).fr f (fun k hk hs => by have hs' : k = g := hs; subst hs'; exact h2 ((h.part p hp).ne_type hk hg).symm), h.sep⟩
theorem DocW.push {u : Value} {e : Ent} (h : DocW W B v D) (hu : Win W B 2 1 u e.ns.length (nums .i64 e.ns)) (hs : ∀ p ∈ D, ∀ k, At p.1 k → ¬ At u k)
    (g1 : Win W1 B 134 3 v1 (D.length + 1) (D.flatMap entCells ++ entCells (u, e))) (g3 : Fr (At v) W W1) : DocW W1 B v1 (D ++ [(u, e)]) := by
  have hmv : ∀ {x : Value} {n : Nat} {xs : List Value}, Win W B 2 1 x n xs → Win W1 B 2 1 x n xs := fun hx => hx.fr g3 (fun k hk hv => win_apart hx h.hdr (by decide) hk hv)
  refine ⟨by rw [List.length_append, List.flatMap_append]; simpa using g1, fun p hp => ?_, fun i j p q k hij hi hj hk => ?_⟩
  · rcases List.mem_append.1 hp with hp | hp
    · exact hmv (h.part p hp)
    · simp only [List.mem_cons, List.mem_nil_iff, or_false] at hp
      subst hp
      exact hmv hu
  · rcases snoc_get hi with ⟨hi1, hi2⟩ | ⟨hi1, rfl⟩
    · rcases snoc_get hj with ⟨hj1, hj2⟩ | ⟨hj1, rfl⟩
      · exact h.sep i j p q k hij hi2 hj2 hk
      · exact hs p (List.mem_of_getElem? hi2) k hk
    · rcases snoc_get hj with ⟨hj1, hj2⟩ | ⟨hj1, rfl⟩
      · exact fun hq => hs q (List.mem_of_getElem? hj2) k hq hk
      · omega
theorem DocW.docR {A : Option Addr} {n c : Nat} (h : DocW W B (.slice A n c) D) (ho : okD (D.map Prod.snd) = true) (hi : ∀ e ∈ D.map Prod.snd, I64 e.ns) : DocR W A n c D ∧ n ≤ 64 := by
  unfold okD at ho
  rw [Bool.and_eq_true, decide_eq_true_eq, List.all_eq_true, List.length_map] at ho
  obtain ⟨A', c', e, hc⟩ := h.hdr.shape
  injection e with e1 e2 e3
  subst e1; subst e2; subst e3
  refine ⟨⟨RdV.of_win h.hdr, rfl, hc, by omega, fun p hp => ?_⟩, ho.1⟩
  have hm : p.2 ∈ D.map Prod.snd := List.mem_map.2 ⟨p, hp, rfl⟩
  obtain ⟨k1, k2, k3⟩ := okE_iff.1 (ho.2 _ hm)
  obtain ⟨A2, c2, e2, hc2⟩ := (h.part p hp).shape
  have hw := h.part p hp
  rw [e2] at hw
  exact ⟨A2, c2, e2, hc2, RdV.of_win hw, hi _ hm, by omega, by omega, by omega⟩
end
/-- What an iterator does between two rounds: new blocks; its reader turns. -/
def Abd (B : Nat) (I : World → Prop) : Prop := ∀ (W W' : World) (g : Nat), I W → B ≤ g → (∀ o, W.heap[g]? = some o → o.isCells = false ∨ ∃ cs m, o = .cells cs 108 m) → Fr (One g) W W' → I W'
theorem Abd.no {B : Nat} {I : World → Prop} (h : Abd B I) {W W' : World} (hi : I W) (hB : B ≤ W.heap.size) (f : Fr No W W') : I W' :=
  h W W' W.heap.size hi hB (fun o ho => by rw [Array.getElem?_eq_none (Nat.le_refl _)] at ho; cases ho) (f.mono (fun _ _ h => h.elim))
theorem Abd.put {B : Nat} {I : World → Prop} (h : Abd B I) {W : World} {l : Nat} {o : Obj} (o' : Obj) (hi : I W) (hB : B ≤ l) (hl : W.heap[l]? = some o) (ho : o.isCells = false) : I (W.putObj l o') :=
  h W _ l hi hB (fun x hx => by rw [hl] at hx; cases hx; exact .inl ho) ⟨rfl, rfl, rfl, by simp, fun k _ hk => World.putObj_heap_other hk⟩
/-- What a round keeps for the iterator. -/
def Kp (W W' : World) : Prop := W.heap.size ≤ W'.heap.size ∧ ∀ (k : Nat) (cs : Array Value) (t : Nat) (m : Nat × Nat), (t = 5 ∨ t = 108 ∨ t = 118) → W.heap[k]? = some (.cells cs t m) → W'.heap[k]? = some (.cells cs t m)
theorem Kp.refl (W : World) : Kp W W := ⟨Nat.le_refl _, fun _ _ _ _ _ h => h⟩
theorem Kp.trans {a b c : World} (h : Kp a b) (k : Kp b c) : Kp a c := ⟨Nat.le_trans h.1 k.1, fun i cs t m ht hi => k.2 i cs t m ht (h.2 i cs t m ht hi)⟩
theorem Kp.put {W : World} {l : Nat} {o : Obj} (o' : Obj) (hl : W.heap[l]? = some o) (ho : o.isCells = false) : Kp W (W.putObj l o') :=
  ⟨by simp, fun k cs t m _ hk => by
    by_cases e : k = l
    · subst e; rw [hl] at hk; cases hk; cases ho
    · exact (World.putObj_heap_other e).trans hk⟩
theorem Kp.fr {S : Nat → Prop} {W W' : World} (f : Fr S W W') (hS : ∀ k cs t m, S k → W.heap[k]? = some (.cells cs t m) → t ≠ 5 ∧ t ≠ 108 ∧ t ≠ 118) : Kp W W' :=
  ⟨f.size, fun k cs t m ht hk => f.get hk (fun hs => by have := hS k cs t m hs hk; rcases ht with h | h | h <;> simp [h] at this)⟩
theorem Rdr.kp {W W' : World} {base g i : Nat} {xs : List Int} {e : Int} (h : Rdr W base g xs i e) (k : Kp W W') : Rdr W' base g xs i e := by
  obtain ⟨h1, h2, v, h3, h4⟩ := h
  refine ⟨h1, h2, v, k.2 g _ _ _ (.inr (.inl rfl)) h3, h4.move fun j hj _ => ?_⟩
  obtain ⟨_, _, cur, hc⟩ := h4.at_ hj
  rw [hc]
  exact k.2 j _ _ _ (.inl rfl) hc
theorem Rdr.ty {W : World} {base g i : Nat} {xs : List Int} {e : Int} (h : Rdr W base g xs i e) : ∃ cs, W.heap[g]? = some (.cells cs 108 (0, 0)) := by
  obtain ⟨h1, h2, v, h3, h4⟩ := h
  exact ⟨_, h3⟩
/-- The reader moves on: the iterator's step. -/
theorem Abd.rd {B base g i : Nat} {I : World → Prop} {W W' : World} {xs : List Int} {e : Int} (h : Abd B I) (hi : I W) (hr : Rdr W base g xs i e) (hB : B ≤ base) (f : Fr (One g) W W') : I W' :=
  h W W' g hi (Nat.le_trans hB hr.1) (fun o ho => by obtain ⟨cs, hc⟩ := hr.ty; rw [hc] at ho; cases ho; exact .inr ⟨cs, _, rfl⟩) f
/-- A row of numbers, a row of entries, a box of an entry turned: the reader stays. -/
theorem Rdr.stay {S : Nat → Prop} {W W' : World} {base g i : Nat} {xs : List Int} {e : Int} (h : Rdr W base g xs i e) (f : Fr S W W') (hS : ∀ k, S k → ∃ cs t, W.heap[k]? = some (.cells cs t (0, 0)) ∧ t ≠ 5 ∧ t ≠ 108) : Rdr W' base g xs i e := by
  refine h.fr f (fun hs => ?_) (fun k cur hs hc => ?_)
  · obtain ⟨cs, t, h1, _, h2⟩ := hS g hs
    obtain ⟨cs', h3⟩ := h.ty
    rw [h1] at h3
    injection h3 with h3
    injection h3 with _ h3
    exact h2 h3
  · obtain ⟨cs, t, h1, h2, _⟩ := hS k hs
    rw [h1] at hc
    injection hc with hc
    injection hc with _ hc
    exact h2 hc
/-! ### pure facts on what is read -/
theorem rT_len {xs : List Int} {i : Nat} {e m : Int} (hm : 0 ≤ m) : ((rT xs i e m).1.length : Int) ≤ m := by
  unfold rT
  split
  · split
    · simpa using hm
    · split
      · rename_i h
        simp only [List.length_take]
        omega
      · simpa using hm
  · simpa using hm
theorem strOfNums_size (l : List Int) : (strOfNums l).size = l.length := by
  unfold strOfNums
  simp [ByteArray.size]
theorem entR_fine (xs : List Int) (p : Nat × Int) : okE (entR xs p).1 = true ∧ I64 (entR xs p).1.ns := by
  constructor
  · refine okE_iff.2 ⟨?_, ?_, ?_⟩
    · show (strOfNums _).size ≤ 24
      rw [strOfNums_size]
      have := rT_len (xs := xs) (i := p.1) (e := p.2) (m := 24) (by decide)
      omega
    · show (strOfNums _).size ≤ 4096
      rw [strOfNums_size]
      have := rT_len (xs := xs) (i := (rT xs p.1 p.2 24).2.1) (e := (rT xs p.1 p.2 24).2.2) (m := 4096) (by decide)
      omega
    · show (numsR xs _ _).1.length ≤ 4
      rw [numsR_len]
      have := rS_max (ys := xs) (i := (rT xs (rT xs p.1 p.2 24).2.1 (rT xs p.1 p.2 24).2.2 4096).2.1) (e := (rT xs (rT xs p.1 p.2 24).2.1 (rT xs p.1 p.2 24).2.2 4096).2.2) (m := 4) (by decide)
      omega
  · exact numsR_64 xs _ _
theorem entsO_fine {xs : List Int} : ∀ {n i : Nat} {d : List Ent} {j : Nat}, entsO xs n i = some (d, j) → d.length = n ∧ ∀ e ∈ d, okE e = true ∧ I64 e.ns
  | 0, i, d, j, h => by
    rw [entsO] at h
    injection h with h
    injection h with h1 h2
    subst h1
    exact ⟨rfl, fun e he => nomatch he⟩
  | n + 1, i, d, j, h => by
    rw [entsO] at h
    skip
    split at h
    · rw [Option.map_eq_some_iff] at h
      obtain ⟨⟨d', j'⟩, h1, h2⟩ := h
      injection h2 with h2 h3
      subst h2
      obtain ⟨k1, k2⟩ := entsO_fine h1
      refine ⟨by rw [List.length_cons, k1], fun e he => ?_⟩
      rcases List.mem_cons.1 he with rfl | he
      · exact entR_fine xs (i, 0)
      · exact k2 e he
    · cases h
theorem docO_fine {xs : List Int} {i : Nat} {d : List Ent} {j : Nat} (h : docO xs i = some (d, j)) : okD d = true ∧ ∀ e ∈ d, I64 e.ns := by
  unfold docO at h
  simp only at h
  split at h
  · obtain ⟨h1, h2⟩ := entsO_fine h
    refine ⟨?_, fun e he => (h2 e he).2⟩
    unfold okD
    rw [Bool.and_eq_true, decide_eq_true_eq, List.all_eq_true]
    have := rS_max (ys := xs) (i := i) (e := 0) (m := 64) (by decide)
    exact ⟨by omega, fun e he => (h2 e he).1⟩
  · cases h
theorem docsO_fine {xs : List Int} : ∀ {n i : Nat} {D : List (List Ent)} {j : Nat}, docsO xs n i = some (D, j) → D.length = n ∧ ∀ d ∈ D, okD d = true ∧ ∀ e ∈ d, I64 e.ns
  | 0, i, D, j, h => by
    rw [docsO] at h
    injection h with h
    injection h with h1 h2
    subst h1
    exact ⟨rfl, fun e he => nomatch he⟩
  | n + 1, i, D, j, h => by
    rw [docsO, Option.bind_eq_some_iff] at h
    obtain ⟨⟨d, j1⟩, h1, h2⟩ := h
    rw [Option.map_eq_some_iff] at h2
    obtain ⟨⟨D', j'⟩, h2, h3⟩ := h2
    injection h3 with h3 h4
    subst h3
    obtain ⟨k1, k2⟩ := docsO_fine h2
    refine ⟨by rw [List.length_cons, k1], fun e he => ?_⟩
    rcases List.mem_cons.1 he with rfl | he
    · exact docO_fine h1
    · exact k2 e he
theorem docsO_take {xs : List Int} : ∀ {n k i : Nat} {D : List (List Ent)} {j : Nat}, docsO xs n i = some (D, j) → k ≤ n → ∃ j', docsO xs k i = some (D.take k, j')
  | n, 0, i, D, j, h, hk => ⟨i, by rw [docsO, List.take_zero]⟩
  | 0, k + 1, i, D, j, h, hk => by omega
  | n + 1, k + 1, i, D, j, h, hk => by
    rw [docsO, Option.bind_eq_some_iff] at h
    obtain ⟨⟨d, j1⟩, h1, h2⟩ := h
    rw [Option.map_eq_some_iff] at h2
    obtain ⟨⟨D', j'⟩, h2, h3⟩ := h2
    injection h3 with h3 h4
    subst h3
    obtain ⟨j2, h5⟩ := docsO_take (k := k) h2 (by omega)
    refine ⟨j2, ?_⟩
    rw [docsO, h1, Option.bind_some, h5]
    rfl
end Go.Proofs.Ytchcimkmjoegdaa.C
namespace Go.Proofs.Ytchcimkmjoegdaa.C
open Go.RowKit Go.Proofs.YtchcimkmjoegdaaW.PrintWords Go.Proofs.YtchcimkmjoegdaaW.PrintMore Go.Proofs.Ytchcimkmjoegdaa.M
set_option linter.unusedVariables false
set_option linter.unusedSimpArgs false

/-- Between two numbers of an entry: k to go, ns read. -/
structure NumS (W0 W : World) (B g : Nat) (b : List Int) (K : Nat) (p0 : Nat × Int) (bx : Nat) (sf st : ByteArray) (k : Nat) (u : Value) (ns : List Int) (i : Nat) (e : Int) : Prop where
  fr : Fr (One g) W0 W
  rd : Rdr W B g b i e
  box : W.heap[bx]? = some (.cells #[.string sf, .string st, u] 134 (0, 0))
  hb : W0.heap.size ≤ bx
  row : Win W W0.heap.size 2 1 u ns.length (nums .i64 ns)
  eq : numsR b K p0 = (ns ++ (numsR b k (i, e)).1, (numsR b k (i, e)).2)
section
variable {W0 W W1 W2 : World} {B g K bx k i : Nat} {b ns : List Int} {p0 : Nat × Int} {sf st : ByteArray} {u u1 : Value} {e : Int}
theorem NumS.cells (h : NumS W0 W B g b K p0 bx sf st k u ns i e) : W.cell? ⟨bx, 0, none⟩ = some (.string sf) ∧ W.cell? ⟨bx, 1, none⟩ = some (.string st) ∧ W.cell? ⟨bx, 2, none⟩ = some u ∧ W.frozen? ⟨bx, 2, none⟩ = false := by
  have := h.box
  simp [World.cell?, World.frozen?, this]
theorem NumS.ne (h : NumS W0 W B g b K p0 bx sf st k u ns i e) : bx ≠ g := fun hs => by
  obtain ⟨cs, hc⟩ := h.rd.ty
  have := h.box
  rw [hs, hc] at this
  injection this with this
  injection this with _ this
  exact absurd this (by decide)
theorem NumS.len (h : NumS W0 W B g b K p0 bx sf st k u ns i e) : ns.length + k = K := by
  have := congrArg (fun q => q.1.length) h.eq
  simp only [List.length_append, numsR_len] at this
  omega
theorem NumS.last (h : NumS W0 W B g b K p0 bx sf st 0 u ns i e) : numsR b K p0 = (ns, i, e) := by
  have := h.eq
  rw [numsR] at this
  simpa using this
theorem NumS.no (h : NumS W0 W B g b K p0 bx sf st k u ns i e) (f : Fr No W W1) : NumS W0 W1 B g b K p0 bx sf st k u ns i e :=
  ⟨h.fr.trans f (fun _ _ h => h) (fun _ _ h => h.elim), h.rd.below f.no, f.get h.box (fun h => h), h.hb, h.row.below f.no, h.eq⟩
/-- Behind the read of a number: the box stands. -/
theorem NumS.box1 (h : NumS W0 W B g b K p0 bx sf st k u ns i e) (f : Fr (One g) W W1) : W1.heap[bx]? = some (.cells #[.string sf, .string st, u] 134 (0, 0)) := f.get h.box (fun hs => h.ne hs)
theorem NumS.row1 (h : NumS W0 W B g b K p0 bx sf st k u ns i e) (f : Fr (One g) W W1) : Win W1 W0.heap.size 2 1 u ns.length (nums .i64 ns) := by
  obtain ⟨cs, hc⟩ := h.rd.ty
  exact h.row.fr f (fun j hj hs => by
    have hs' : j = g := hs
    subst hs'
    exact absurd (h.row.ne_type hj hc) (by decide))
/-- Behind the append: the box stands. -/
theorem NumS.box2 (h : NumS W0 W B g b K p0 bx sf st k u ns i e) (f : Fr (One g) W W1) (f2 : Fr (At u) W1 W2) : W2.heap[bx]? = some (.cells #[.string sf, .string st, u] 134 (0, 0)) := f2.get (h.box1 f) (fun hs => absurd ((h.row1 f).ne_type hs (h.box1 f)) (by decide))
theorem boxc {W : World} {bx : Nat} {a c u : Value} (h : W.heap[bx]? = some (.cells #[a, c, u] 134 (0, 0))) : W.cell? ⟨bx, 2, none⟩ = some u ∧ W.frozen? ⟨bx, 2, none⟩ = false := by
  simp [World.cell?, World.frozen?, h]
theorem NumS.step (h : NumS W0 W B g b K p0 bx sf st (k + 1) u ns i e) (f : Fr (One g) W W1) (hr : Rdr W1 B g b (rU b i e).2.1 (rU b i e).2.2)
    (g1 : Win W2 W0.heap.size 2 1 u1 (ns.length + 1) (nums .i64 ns ++ [.int .i64 (unzig (rU b i e).1)])) (f2 : Fr (At u) W1 W2) :
    NumS W0 (W2.setCell ⟨bx, 2, none⟩ u1) B g b K p0 bx sf st k u1 (ns ++ [unzig (rU b i e).1]) (rU b i e).2.1 (rU b i e).2.2 := by
  have hb2 := h.box2 f f2
  have hF : Fr (One bx) W2 (W2.setCell ⟨bx, 2, none⟩ u1) := Fr.setCell W2 _ _ rfl
  have hrow := h.row1 f
  refine ⟨?_, ?_, ?_, h.hb, ?_, ?_⟩
  · refine ((h.fr.trans f (fun _ _ h => h) (fun _ _ h => h)).trans f2 (fun _ _ h => h) (fun j hj hs => ?_)).trans hF (fun _ _ h => h) (fun j hj hs => ?_)
    · have := (hrow.at_ hs).1; omega
    · have hs' : j = bx := hs
      have := h.hb
      omega
  · refine (hr.stay f2 (fun j hj => ?_)).stay hF (fun j hj => ?_)
    · obtain ⟨_, _, cur, hc⟩ := hrow.at_ hj
      exact ⟨_, _, hc, by decide, by decide⟩
    · have hj' : j = bx := hj
      subst hj'
      exact ⟨_, _, hb2, by decide, by decide⟩
  · simp [World.setCell, Array.getElem?_modify, hb2]
  · rw [List.length_append, ← nums_snoc]
    exact g1.fr hF (fun j hj hs => by
      have hs' : j = bx := hs
      subst hs'
      exact absurd (g1.ne_type hj hb2) (by decide))
  · have := h.eq
    rw [numsR] at this
    simpa using this
end
theorem entR_eq {b : List Int} {ii i2 i3 i4 j K : Nat} {e2 e3 e4 e : Int} {s1 s2 ns : List Int} (h1 : rT b ii 0 24 = (s1, i2, e2)) (h2 : rT b i2 e2 4096 = (s2, i3, e3)) (h3 : rS b i3 e3 4 = (K, i4, e4)) (h4 : numsR b K (i4, e4) = (ns, j, e)) : entR b (ii, 0) = (⟨strOfNums s1, strOfNums s2, ns⟩, j, e) := by
  unfold entR
  simp only [h1, h2, h3, h4]
theorem doc_bound {n : Nat} (h : n ≤ 64) : n + 1 ≤ maxLen ∧ (n + 1 + (n + 1) / 4 + 700) * 56 ≤ 281474976710656 := by
  constructor
  · simp only [maxLen]; omega
  · omega
theorem nums_bound {n : Nat} (h : n ≤ 64) : n + 1 ≤ maxLen ∧ (n + 1 + (n + 1) / 4 + 700) * 8 ≤ 281474976710656 := by
  constructor
  · simp only [maxLen]; omega
  · omega
theorem src_one (W : World) (t : TypeId) (x : Value) (hx : x.oneCell' = true) : Src Try.prog (W.alloc (.cells #[x] t)) 1 (.slice (some ⟨W.heap.size, 0, none⟩) 1 1) 1 [x] :=
  Src.of_rd (rdv_lit_at W t [x] rfl) rfl (by intro u hu; simp at hu; rw [hu]; exact hx)
theorem box_kept {W W' : World} {gb B g i : Nat} {cs : Array Value} {b : List Int} {e : Int} (h : W.heap[gb]? = some (.cells cs 118 (0, 0))) (hr : Rdr W B g b i e) (f : Fr (One g) W W') : W'.heap[gb]? = some (.cells cs 118 (0, 0)) := by
  refine f.get h (fun hs => ?_)
  have hs' : gb = g := hs
  subst hs'
  obtain ⟨cs', hc⟩ := hr.ty
  rw [h] at hc
  injection hc with hc
  injection hc with _ hc
  exact absurd hc (by decide)
/-- Between two entries of a document: n to go, D read. Wr: where the document was begun. -/
structure EntS (Wr W : World) (B g : Nat) (b : List Int) (N i1 n : Nat) (v : Value) (D : List (Value × Ent)) (i : Nat) : Prop where
  fr : Fr (One g) Wr W
  rd : Rdr W B g b i 0
  doc : DocW W Wr.heap.size v D
  eq : entsO b N i1 = (entsO b n i).map fun q => (D.map Prod.snd ++ q.1, q.2)
  len : D.length + n = N
section
variable {Wr W W1 W2 : World} {B g N i1 n i bx : Nat} {b : List Int} {v v1 u : Value} {D : List (Value × Ent)}
/-- The strings and the count of an entry's numbers were read, the box laid: the numbers begin. -/
theorem EntS.start {W3 : World} {sf st : ByteArray} {K j : Nat} {e : Int} (h : EntS Wr W B g b N i1 n v D i) (f1 : Fr (One g) W W1) (hb : bx = W1.heap.size) (f2 : Fr (One g) (W1.alloc (.cells #[.string sf, .string st, .slice none 0 0] 134)) W3) (hr : Rdr W3 B g b j e) :
    NumS W W3 B g b K (j, e) bx sf st K (.slice none 0 0) [] j e := by
  subst hb
  obtain ⟨cs, hc⟩ := hr.ty
  refine ⟨?_, hr, ?_, f1.size, Win.nil _ _ _ _, by simp⟩
  · exact (f1.trans (Fr.alloc (S := One g) W1 _) (fun _ _ h => h) (fun _ _ h => h)).trans f2 (fun _ _ h => h) (fun _ _ h => h)
  · refine f2.get (heap_alloc_new W1 _) (fun hs => ?_)
    have hs' : W1.heap.size = g := hs
    obtain ⟨cs0, hc0⟩ := h.rd.ty
    have := blk_lt hc0
    have := f1.size
    omega
theorem EntS.at_ {sf st : ByteArray} {K j k : Nat} {p0 : Nat × Int} {e : Int} {ns : List Int} (h : EntS Wr W B g b N i1 n v D i) (hn : NumS W W2 B g b K p0 bx sf st k u ns j e) : DocW W2 Wr.heap.size v D := by
  obtain ⟨cs, hc⟩ := h.rd.ty
  exact h.doc.one hn.fr hc (by decide) (by decide)
/-- The entry is read, laid behind the others. -/
theorem EntS.step {W3 : World} {sf st : ByteArray} {K j : Nat} {p0 : Nat × Int} {ns : List Int} (h : EntS Wr W B g b N i1 (n + 1) v D i) (hn : NumS W W2 B g b K p0 bx sf st 0 u ns j 0)
    (he : entR b (i, 0) = (⟨sf, st, ns⟩, j, 0)) (g1 : Win W3 Wr.heap.size 134 3 v1 (D.length + 1) (D.flatMap entCells ++ [.string sf, .string st, u])) (g3 : Fr (At v) W2 W3) : EntS Wr W3 B g b N i1 n v1 (D ++ [(u, ⟨sf, st, ns⟩)]) j := by
  obtain ⟨cs, hc⟩ := h.rd.ty
  have hd := h.doc.one hn.fr hc (by decide) (by decide)
  have hu : Win W2 Wr.heap.size 2 1 u ns.length (nums .i64 ns) := hn.row.lower h.fr.size
  refine ⟨?_, ?_, hd.push (e := ⟨sf, st, ns⟩) hu (fun p hp k hk hk2 => ?_) g1 g3, ?_, ?_⟩
  · exact (h.fr.trans hn.fr (fun _ _ h => h) (fun _ _ h => h)).trans g3 (fun _ _ h => h) (fun k hk hv => by have := (hd.hdr.at_ hv).1; omega)
  · exact hn.rd.stay g3 (fun k hk => by
      obtain ⟨_, _, cur, hc⟩ := hd.hdr.at_ hk
      exact ⟨_, _, hc, by decide, by decide⟩)
  · have := ((h.doc.part p hp).at_ hk).2.1
    have := (hn.row.at_ hk2).1
    omega
  · have := h.eq
    rw [entsO, he] at this
    simp only [if_true] at this
    rw [this, Option.map_map]
    congr 1
    funext q
    simp
  · have := h.len
    rw [List.length_append]
    simp
    omega
theorem EntS.bad {sf st : ByteArray} {ns : List Int} {j : Nat} {e : Int} (h : EntS Wr W B g b N i1 (n + 1) v D i) (he : entR b (i, 0) = (⟨sf, st, ns⟩, j, e)) (h0 : e ≠ 0) : entsO b N i1 = none := by
  rw [h.eq, entsO, he]
  simp only
  rw [if_neg h0]
  rfl
end
theorem docO_of {Wr W : World} {B g N i i1 ii : Nat} {b : List Int} {v : Value} {D : List (Value × Ent)} (hs : rS b i 0 64 = (N, i1, 0)) (h : EntS Wr W B g b N i1 0 v D ii) : docO b i = some (D.map Prod.snd, ii) := by
  unfold docO
  simp only [hs, if_true]
  rw [h.eq, entsO]
  simp
theorem docO_none {b : List Int} {i N i1 : Nat} {e : Int} (hs : rS b i 0 64 = (N, i1, e)) (h : e ≠ 0) : docO b i = none := by
  unfold docO
  simp only [hs]
  rw [if_neg h]
theorem docO_none2 {b : List Int} {i N i1 : Nat} (hs : rS b i 0 64 = (N, i1, 0)) (h : entsO b N i1 = none) : docO b i = none := by
  unfold docO
  simp only [hs, if_true]
  rw [h]
theorem docsO_snoc {b : List Int} : ∀ (k i0 : Nat), docsO b (k + 1) i0 = (docsO b k i0).bind fun q => (docO b q.2).map fun r => (q.1 ++ [r.1], r.2)
  | 0, i0 => by
    rw [docsO, docsO, Option.bind_some]
    cases docO b i0 with
    | none => rfl
    | some r => rfl
  | k + 1, i0 => by
    rw [docsO]
    conv => rhs; rw [docsO]
    cases docO b i0 with
    | none => rfl
    | some r =>
      simp only [Option.bind_some]
      rw [docsO_snoc k r.2]
      cases docsO b k r.2 with
      | none => rfl
      | some q =>
        simp only [Option.bind_some, Option.map_some]
        cases docO b q.2 with
        | none => rfl
        | some s => rfl
/-- Between two documents: pre read, of N. -/
structure DocS (w W : World) (g : Nat) (b : List Int) (N : Nat) (J : List (Value × List (Value × Ent)) → World → Prop) (pre : List (Value × List (Value × Ent))) (i : Nat) : Prop where
  j : J pre W
  rd : Rdr W w.heap.size g b i 0
  got : docsO b pre.length 0 = some (pre.map docOf, i)
  len : pre.length ≤ N
  size : w.heap.size ≤ W.heap.size
section
variable {w W W1 W2 : World} {g N m i : Nat} {b : List Int} {J : List (Value × List (Value × Ent)) → World → Prop} {pre : List (Value × List (Value × Ent))}
theorem chunkO_none {b : List Int} {N : Nat} (h : docsO b N 0 = none) : chunkO b N = none := by rw [chunkO, h]; rfl
theorem DocS.bad (h : DocS w W g b N J pre i) (hl : pre.length < N) (hd : docO b i = none) : chunkO b N = none := by
  refine chunkO_none ?_
  cases hc : docsO b N 0 with
  | none => rfl
  | some q =>
    obtain ⟨j', h1⟩ := docsO_take (k := pre.length + 1) hc (by omega)
    rw [docsO_snoc, h.got, Option.bind_some, hd] at h1
    cases h1
theorem DocS.stop {x : Value × List (Value × Ent)} {j : Nat} (h : DocS w W g b N J pre i) (hd : docO b i = some (docOf x, j)) : docsO b (pre ++ [x]).length 0 = some ((pre ++ [x]).map docOf, j) := by
  rw [List.length_append]
  show docsO b (pre.length + 1) 0 = _
  rw [docsO_snoc, h.got, Option.bind_some, hd]
  simp
theorem DocS.next {x : Value × List (Value × Ent)} {j : Nat} (h : DocS w W g b N J pre i) (hl : pre.length < N) (hd : docO b i = some (docOf x, j)) (hj : J (pre ++ [x]) W1) (hr : Rdr W1 w.heap.size g b j 0) (hs : w.heap.size ≤ W1.heap.size) : DocS w W1 g b N J (pre ++ [x]) j :=
  ⟨hj, hr, h.stop hd, by rw [List.length_append]; simp; omega, hs⟩
theorem DocS.done (h : DocS w W g b N J pre i) (hl : pre.length = N) : chunkO b N = if i = b.length then some (pre.map docOf) else none := by
  rw [chunkO, ← hl, h.got]
  rfl
end
end Go.Proofs.Ytchcimkmjoegdaa.C
