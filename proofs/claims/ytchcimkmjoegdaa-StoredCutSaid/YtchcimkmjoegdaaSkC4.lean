/- Stored documents: the data, how they lie in memory; form's closure (120). Conditions: as each theorem states. | stored.form (115). Conditions: as the theorem states. | Stored chunks: the pure cutting, chunks in memory. Conditions: as each theorem states. | stored.cut (93). Conditions: as the theorem states. (Several texts of mine laid into one by prune.py.) -/
import Derived.Test.YtchcimkmjoegdaaSkC3
namespace Go.Proofs.Ytchcimkmjoegdaa.C
open Go.RowKit Go.Proofs.YtchcimkmjoegdaaW.PrintWords Go.Proofs.YtchcimkmjoegdaaW.PrintMore Go.Proofs.Ytchcimkmjoegdaa.M
set_option linter.unusedVariables false
set_option linter.unusedSimpArgs false

/-- An entry: its field, its text, its numbers. -/
structure Ent where
  f : ByteArray
  t : ByteArray
  ns : List Int
def txtB (s : ByteArray) : List Int := uenc s.size ++ bytesOf s
def numB (ns : List Int) : List Int := ns.flatMap fun q => uenc (Lib.zigzag q)
/-- An entry's form. -/
def entB (e : Ent) : List Int := txtB e.f ++ txtB e.t ++ uenc e.ns.length ++ numB e.ns
def docB (d : List Ent) : List Int := uenc d.length ++ d.flatMap entB
def okE (e : Ent) : Bool := decide (e.f.size ≤ 24) && decide (e.t.size ≤ 4096) && decide (e.ns.length ≤ 4)
def okD (d : List Ent) : Bool := decide (d.length ≤ 64) && d.all okE
theorem okE_iff {e : Ent} : okE e = true ↔ e.f.size ≤ 24 ∧ e.t.size ≤ 4096 ∧ e.ns.length ≤ 4 := by
  unfold okE
  simp only [Bool.and_eq_true, decide_eq_true_eq]
  exact ⟨fun ⟨⟨a, b⟩, c⟩ => ⟨a, b, c⟩, fun ⟨a, b, c⟩ => ⟨⟨a, b⟩, c⟩⟩
/-- An entry's cells: p.1 is the value of its numbers' slice. -/
def entCells (p : Value × Ent) : List Value := [.string p.2.f, .string p.2.t, p.1]
def I64 (ns : List Int) : Prop := ∀ q ∈ ns, -9223372036854775808 ≤ q ∧ q ≤ 9223372036854775807
/-- An entry's parts are read. -/
def EntR (w : World) (p : Value × Ent) : Prop := ∃ A c, p.1 = .slice A p.2.ns.length c ∧ p.2.ns.length ≤ c ∧ RdV w A (nums .i64 p.2.ns) ∧ I64 p.2.ns ∧ p.2.ns.length ≤ 17592186043904 ∧ p.2.f.size ≤ 140737488351232 ∧ p.2.t.size ≤ 140737488351232
theorem EntR.below {w w' : World} {p : Value × Ent} (h : EntR w p) (hb : Below w.heap.size w w') : EntR w' p := by
  obtain ⟨A, c, h1, h2, h3, h4⟩ := h
  exact ⟨A, c, h1, h2, h3.below hb, h4⟩
/-- A document is read. -/
structure DocR (w : World) (A : Option Addr) (n c : Nat) (D : List (Value × Ent)) : Prop where
  hdr : RdV w A (D.flatMap entCells)
  len : D.length = n
  cap : n ≤ c
  max : n ≤ 2513169434845
  part : ∀ p ∈ D, EntR w p
theorem DocR.below {w w' : World} {A : Option Addr} {n c : Nat} {D : List (Value × Ent)} (h : DocR w A n c D) (hb : Below w.heap.size w w') : DocR w' A n c D := ⟨h.hdr.below hb, h.len, h.cap, h.max, fun p hp => (h.part p hp).below hb⟩
theorem entCells_get {D : List (Value × Ent)} {j k : Nat} {p : Value × Ent} (hp : D[j]? = some p) (hk : k < 3) : (D.flatMap entCells)[j * 3 + k]? = (entCells p)[k]? := by
  induction D generalizing j with
  | nil => simp at hp
  | cons x D ih =>
    rw [List.flatMap_cons]
    cases j with
    | zero =>
      obtain rfl := Option.some.inj hp
      rw [Nat.zero_mul, Nat.zero_add, List.getElem?_append_left (by show k < 3; exact hk)]
    | succ j =>
      rw [List.getElem?_append_right (by show 3 ≤ _; omega)]
      show (D.flatMap entCells)[(j + 1) * 3 + k - 3]? = _
      rw [show (j + 1) * 3 + k - 3 = j * 3 + k from by omega]
      exact ih hp
theorem add_off (ad : Addr) (i k : Nat) (hk : 0 < k) : ad.add (i + k) = ⟨(ad.add i).block, (ad.add i).off + k, none⟩ := by
  unfold Addr.add
  by_cases h1 : i = 0
  · subst h1
    simp [show ¬ (k = 0) by omega]
  · simp [h1, show ¬ (i + k = 0) by omega, Nat.add_assoc]
theorem ent_at {w : World} {A : Option Addr} {D : List (Value × Ent)} {j : Nat} {p : Value × Ent} (h : RdV w A (D.flatMap entCells)) (hp : D[j]? = some p) : ∃ ad, A = some ad ∧ w.cell? (ad.add (j * 3)) = some (.string p.2.f) ∧ w.cell? ⟨(ad.add (j * 3)).block, (ad.add (j * 3)).off + 1, none⟩ = some (.string p.2.t) ∧ w.cell? ⟨(ad.add (j * 3)).block, (ad.add (j * 3)).off + 2, none⟩ = some p.1 := by
  have h0 := entCells_get (k := 0) hp (by decide)
  have h1 := entCells_get (k := 1) hp (by decide)
  have h2 := entCells_get (k := 2) hp (by decide)
  obtain ⟨ad, e, hc⟩ := h (by intro h0'; rw [h0'] at h0; simp [entCells] at h0)
  refine ⟨ad, e, hc _ _ h0, ?_, ?_⟩
  · rw [← add_off _ _ _ (by decide)]
    exact hc _ _ h1
  · rw [← add_off _ _ _ (by decide)]
    exact hc _ _ h2
/-- A boxed list of bytes. -/
def BoxB (W : World) (base gb : Nat) (ys : List Int) : Prop := base ≤ gb ∧ ∃ v, W.heap[gb]? = some (.cells #[v] 22 (0, 0)) ∧ Acc W base v ys
theorem BoxB.below {W W' : World} {base gb : Nat} {ys : List Int} (h : BoxB W base gb ys) (hb : Below W.heap.size W W') : BoxB W' base gb ys := by
  obtain ⟨h1, v, h2, h3⟩ := h
  exact ⟨h1, v, (hb.block gb (blk_lt h2)).trans h2, h3.below hb⟩
set_option maxHeartbeats 1000000 in
theorem put_closure (W : World) (base gb : Nat) (ys : List Int) (A : Option Addr) (n c : Nat) (xs : List Int) (h : BoxB W base gb ys) (hB : base ≤ W.heap.size) (hr : RdV W A (nums .u8 xs)) (hl : xs.length = n) (hm : ys.length + n ≤ 140737488355328) :
    Calls Try.prog 120 #[.slice A n c, .pointer (some ⟨gb, 0, none⟩)] W fun e W' => (∃ r, e = .returned r) ∧ BoxB W' base gb (ys ++ xs) ∧ Below base W W' ∧ ∀ (k : Nat) (cs : Array Value), W.heap[k]? = some (Obj.cells cs 134 (0, 0)) → W'.heap[k]? = some (.cells cs 134 (0, 0)) := by
  obtain ⟨h1, v, h2, h3⟩ := h
  have hc : W.cell? ⟨gb, 0, none⟩ = some v := by simp [World.cell?, h2]
  obtain ⟨A0, c0, rfl, hc0⟩ := Win.shape h3
  have HS := Aside0.mk (Src.of_rd (P := Try.prog) (size := 1) (m := n) (c := c) hr (by simp [nums, hl]) (nums_one _ _))
  have HB := Aside0.mk (small_bound (n := ys.length + n) hm)
  have H2 := Aside0.mk h2
  have H3 := Aside0.mk h3
  have HL := Aside0.mk hB
  clear hr hl hm h2 h3 hB
  go_enter Try.func120, Try.ntmps120
  go_wp2_with (at_builtin; go_must (refine wpl_append W base rfl (.tmp 3) (.tmp 4) 22 22 5 (.int .u8 0) 1 1 (.slice 5) rfl Try.underlying22 Try.underlying22 (.inl ⟨_, rfl⟩) info5 rfl _ _ _ (.slice A n c) n (nums .u8 xs) rfl rfl H3.out HS.out HL.out HB.out.1 HB.out.2 ?_; intro v1 w1 g1 _ g3 _; obtain ⟨A1, c1, e1, l1⟩ := g1.shape; subst e1; have G1 := Aside0.mk g1; have G3 := Aside0.mk g3; have GB := Aside0.mk (g3.get H2.out (fun hk => by obtain ⟨_, _, cur, hcur⟩ := Win.at_ H3.out hk; rw [H2.out] at hcur; injection hcur with hcur; injection hcur with _ hcur; exact absurd hcur (by decide))); have hf1 : w1.frozen? ⟨gb, 0, none⟩ = false := (by simp [World.frozen?, GB.out]); have hc1 : w1.cell? ⟨gb, 0, none⟩ = some (.slice A0 ys.length c0) := (by simp [World.cell?, GB.out]); clear g1 g3))
  go_end0
  have hg : ∀ k, At (.slice A1 (ys.length + n) c1) k → k ≠ gb := fun k hk e => by
    obtain ⟨_, _, cur, hcur⟩ := Win.at_ G1.out hk
    rw [e, GB.out] at hcur
    injection hcur with hcur
    injection hcur with _ hcur
    exact absurd hcur (by decide)
  have hb1 : Below base W w1 := G3.out.below HL.out (fun k hk => (Win.at_ H3.out hk).1)
  refine ⟨⟨_, rfl⟩, ⟨h1, .slice A1 (ys.length + n) c1, by simp [World.setCell, Array.getElem?_modify, GB.out], ?_⟩, acc hb1 HL.out (Fr.setCell (S := One gb) w1 ⟨gb, 0, none⟩ _ rfl) (fun i hi => by have hi' : i = gb := hi; omega), ?_⟩
  rotate_left
  · intro k cs hk
    have hk1 := G3.out.get hk (fun hk' => by
      obtain ⟨_, _, cur, hcur⟩ := Win.at_ H3.out hk'
      rw [hk] at hcur
      injection hcur with hcur
      injection hcur with _ hcur
      exact absurd hcur (by decide))
    refine (Fr.setCell (S := One gb) w1 ⟨gb, 0, none⟩ _ rfl).get hk1 (fun e => ?_)
    have e' : k = gb := e
    rw [e', GB.out] at hk1
    injection hk1 with hk1
    injection hk1 with _ hk1
    exact absurd hk1 (by decide)
  refine Acc.of (n := ys.length + n) (Win.fr (S := One gb) (by rw [nums_append]; exact G1.out) (Fr.setCell (S := One gb) w1 ⟨gb, 0, none⟩ _ rfl) (fun k hk hi => hg k hk hi))
end Go.Proofs.Ytchcimkmjoegdaa.C
namespace Go.Proofs.Ytchcimkmjoegdaa.C
open Go.RowKit Go.Proofs.YtchcimkmjoegdaaW.PrintWords Go.Proofs.YtchcimkmjoegdaaW.PrintMore Go.Proofs.Ytchcimkmjoegdaa.M
set_option linter.unusedVariables false
set_option linter.unusedSimpArgs false

/-- A document's form up to its i-th entry. -/
def pfx (d : List Ent) (i : Nat) : List Int := uenc d.length ++ (d.take i).flatMap entB
theorem pfx_succ {d : List Ent} {i : Nat} {e : Ent} (h : d[i]? = some e) : pfx d (i + 1) = pfx d i ++ entB e := by
  unfold pfx
  rw [List.take_add_one, h]
  simp
theorem pfx_all {d : List Ent} {i : Nat} (h : d.length ≤ i) : pfx d i = docB d := by
  unfold pfx docB
  rw [List.take_of_length_le h]
theorem bytesOf_len (s : ByteArray) : (bytesOf s).length = s.size := by
  have h := congrArg List.length (strCells_nums s)
  rw [nums_length] at h
  rw [← h]
  simp [Lib.strCells]
theorem numB_len {ns : List Int} (h : I64 ns) : (numB ns).length ≤ 10 * ns.length := by
  have := flat_len (fun q : Int => uenc (Lib.zigzag q)) 10 ns (fun x hx => uenc_10 _ (by have := zig_64 x (h x hx).1 (h x hx).2; rwa [M64_eq] at this))
  unfold numB
  omega
theorem entB_len {e : Ent} (h : okE e = true) (hi : I64 e.ns) : (entB e).length ≤ 4190 := by
  obtain ⟨h1, h2, h3⟩ := okE_iff.1 h
  have a := uenc_10 e.f.size (by omega)
  have b := uenc_10 e.t.size (by omega)
  have c := uenc_10 e.ns.length (by omega)
  have d := numB_len hi
  unfold entB txtB
  simp only [List.length_append, bytesOf_len]
  omega
/-- form's state: the box, and what was there. -/
structure FormS (w W : World) (gb : Nat) (ys : List Int) : Prop where
  box : BoxB W w.heap.size gb ys
  bel : Below w.heap.size w W
theorem FormS.no {w W W' : World} {gb : Nat} {ys : List Int} (h : FormS w W gb ys) (hf : Fr No W W') : FormS w W' gb ys :=
  ⟨h.box.below hf.no, accNo h.bel (Nat.le_refl _) hf⟩
theorem FormS.put {w W : World} {gb : Nat} {ys xs : List Int} {v : Value} {b : Nat} (h : FormS w W gb ys) (q : Acc W b v xs) (hm : ys.length + xs.length ≤ 140737488355328) :
    Calls Try.prog 120 #[v, .pointer (some ⟨gb, 0, none⟩)] W fun e W' => (∃ r, e = .returned r) ∧ FormS w W' gb (ys ++ xs) ∧ ∀ (k : Nat) (cs : Array Value), W.heap[k]? = some (Obj.cells cs 134 (0, 0)) → W'.heap[k]? = some (.cells cs 134 (0, 0)) := by
  obtain ⟨A, c, rfl, hc⟩ := Win.shape q
  refine (put_closure W w.heap.size gb ys A xs.length c xs h.box h.bel.size (RdV.of_win q) rfl hm).mono ?_
  rintro e W' ⟨h1, h2, h3, h4⟩
  exact ⟨h1, ⟨h2, h.bel.trans h3⟩, h4⟩
theorem form_start (w : World) : FormS w (w.alloc (.cells #[.slice none 0 0] 22)) w.heap.size [] :=
  ⟨⟨Nat.le_refl _, _, heap_alloc_new w _, Win.nil _ _ _ _⟩, below_alloc (Below.refl _ _) _⟩
theorem ent_cells {W : World} {k : Nat} {a b c : Value} (h : W.heap[k]? = some (Obj.cells #[a, b, c] 134 (0, 0))) : W.cell? ⟨k, 0, none⟩ = some a ∧ W.cell? ⟨k, 1, none⟩ = some b ∧ W.cell? ⟨k, 2, none⟩ = some c := by
  simp [World.cell?, h]
/-- form's loop. -/
def FormL (w : World) (n : Nat) (d : List Ent) (i : Nat) (wr : World) : Prop := FormS w wr w.heap.size (pfx d i) ∧ (pfx d i).length ≤ 10 + i * 4190 ∧ (i ≠ 0 → n ≤ 64) ∧ ∀ e ∈ d.take i, okE e = true
set_option maxRecDepth 100000 in
set_option maxHeartbeats 4000000 in
theorem form_any (w : World) (A : Option Addr) (n c : Nat) (D : List (Value × Ent)) (h : DocR w A n c D) :
    Calls Try.prog 115 #[.slice A n c] w fun e W' => ((okD (D.map Prod.snd) = true ∧ ∃ v, e = .returned (.tuple #[v, .bool true]) ∧ Acc W' w.heap.size v (docB (D.map Prod.snd))) ∨ (okD (D.map Prod.snd) = false ∧ e = .returned (.tuple #[.slice none 0 0, .bool false]))) ∧ Fr No w W' := by
  obtain ⟨d, hd⟩ : ∃ d, D.map Prod.snd = d := ⟨_, rfl⟩
  rw [hd]
  have HD := Aside0.mk h
  have hc := h.cap
  have hn := h.max
  have HDL := Aside0.mk (show d.length = n from by rw [← hd, List.length_map]; exact h.len)
  have HM := Aside0.mk (show ∀ (i : Nat) (p : Value × Ent), D[i]? = some p → d[i]? = some p.2 from fun i p h => by rw [← hd, List.getElem?_map, h]; rfl)
  have HBAD := Aside0.mk (show 64 < n → okD d = false from fun h64 => by
    unfold okD
    rw [decide_eq_false (by rw [HDL.out]; omega)]
    rfl)
  have HBE := Aside0.mk (show ∀ (i : Nat) (e : Ent), d[i]? = some e → okE e = false → okD d = false from fun i e he hf => by
    unfold okD
    rw [Bool.and_eq_false_iff]
    refine .inr (Bool.eq_false_iff.2 fun ha => ?_)
    rw [List.all_eq_true.1 ha e (List.mem_of_getElem? he)] at hf
    exact absurd hf (by decide))
  clear h hd
  go_enter Try.func115, Try.ntmps115
  go_wp2_with (first | (go_at_call 120; go_must (refine (FormS.put FS1.out Q1.out (by have := uenc_10 n (by omega); simp; omega)).mono ?_; rintro e' w2 ⟨⟨r2, rfl⟩, q1, q2⟩; have FS2 := Aside0.mk q1; clear q1 q2)) | (go_at_call 25; go_must (refine (put_step_u _ 0 (.slice none 0 0) [] (n : Int) (Win.nil _ _ _ _) (Nat.zero_le _) (by omega) (by simp)).mono ?_; rintro e' w1 ⟨v1, rfl, q1, q2⟩; rw [List.nil_append, Int.toNat_natCast] at q1; have Q1 := Aside0.mk q1; have FS1 := Aside0.mk ((form_start w).no q2); clear q1 q2)))
  go_loopw [19] (fun v19 wr => ∃ i : Nat, v19 = .int .i64 i ∧ i ≤ n ∧ Aside0 (FormL w n d i wr)) (fun v19 _ => n - (intOf v19).toNat)
  case atStart => exact ⟨0, rfl, by omega, ⟨by have q := FS2.out; unfold pfx; rw [HDL.out]; simpa using q, by have := uenc_10 n (by omega); unfold pfx; rw [HDL.out]; simpa using this, fun h => absurd rfl h, by simp⟩⟩
  case round =>
    obtain ⟨i, rfl, hi, HF⟩ := hrel
    by_cases hlt : i < n
    · obtain ⟨p, hp⟩ := get_some' (xs := D) (i := i) (by have := HD.out.len; omega)
      have hr := HD.out.below HF.out.1.bel
      obtain ⟨ad, eA, hc0, hc1, hc2⟩ := ent_at hr.hdr hp
      obtain ⟨Ai, ci, he, hci, hri, h64, hnm, hfm, htm⟩ := HD.out.part p (List.mem_of_getElem? hp)
      have HP := Aside0.mk (HM.out i p hp)
      subst eA
      obtain ⟨pv, pe⟩ := p
      simp only at he hci hri h64 hnm hfm htm hc0 hc1 hc2
      subst he
      obtain ⟨f, t, ns⟩ := pe
      simp only at hci hri h64 hnm hfm htm hc0 hc1 hc2
      obtain ⟨nf, hnf⟩ : ∃ k, f.size = k := ⟨_, rfl⟩
      obtain ⟨nt, hnt⟩ : ∃ k, t.size = k := ⟨_, rfl⟩
      obtain ⟨nn, hnn⟩ : ∃ k, ns.length = k := ⟨_, rfl⟩
      rw [hnn] at hci hnm hc2
      clear hr hp
      have HA := Aside0.mk hri
      have HI := Aside0.mk h64
      have HFW := Aside0.mk HF.out.1.bel
      clear hri h64
      by_cases hbad : 64 < n
      · have HR := Aside0.mk (HBAD.out hbad)
        go_wp2_with fail
        go_ret2
        exact ⟨.inr ⟨HR.out, rfl⟩, Fr.of_No (accAlloc HFW.out (Nat.le_refl _) _)⟩
      by_cases hbf : 24 < f.size
      · have HR := Aside0.mk (HBE.out i _ HP.out (Bool.eq_false_iff.2 fun h => by have h1 : f.size ≤ 24 := (okE_iff.1 h).1; omega))
        go_wp2_with fail
        go_ret2
        exact ⟨.inr ⟨HR.out, rfl⟩, Fr.of_No (accAlloc HFW.out (Nat.le_refl _) _)⟩
      by_cases hbt : 4096 < t.size
      · have HR := Aside0.mk (HBE.out i _ HP.out (Bool.eq_false_iff.2 fun h => by have h1 : t.size ≤ 4096 := (okE_iff.1 h).2.1; omega))
        go_wp2_with fail
        go_ret2
        exact ⟨.inr ⟨HR.out, rfl⟩, Fr.of_No (accAlloc HFW.out (Nat.le_refl _) _)⟩
      by_cases hbn : 4 < nn
      · have HR := Aside0.mk (HBE.out i _ HP.out (Bool.eq_false_iff.2 fun h => by have h1 : ns.length ≤ 4 := (okE_iff.1 h).2.2; omega))
        go_wp2_with fail
        go_ret2
        exact ⟨.inr ⟨HR.out, rfl⟩, Fr.of_No (accAlloc HFW.out (Nat.le_refl _) _)⟩
      have HOK := Aside0.mk (show okE ⟨f, t, ns⟩ = true from okE_iff.2 ⟨by show f.size ≤ 24; omega, by show t.size ≤ 4096; omega, by show ns.length ≤ 4; omega⟩)
      have hf2 : f.size ≤ 24 := by omega
      have ht2 : t.size ≤ 4096 := by omega
      have hn2 : nn ≤ 4 := by omega
      have HTF := Aside0.mk (show (txtB f).length ≤ 34 from by have := uenc_10 f.size (by omega); unfold txtB; rw [List.length_append, bytesOf_len]; omega)
      have HTT := Aside0.mk (show (txtB t).length ≤ 4106 from by have := uenc_10 t.size (by omega); unfold txtB; rw [List.length_append, bytesOf_len]; omega)
      have HTN := Aside0.mk (show (uenc nn).length ≤ 10 from uenc_10 nn (by omega))
      have HPL := Aside0.mk (show (pfx d i).length ≤ 10 + i * 4190 from HF.out.2.1)
      have HAL := Aside0.mk (show ∀ j, (numB (ns.take j)).length ≤ 40 from fun j => by
        have := numB_len (ns := ns.take j) (fun q hq => HI.out q (List.mem_of_mem_take hq))
        rw [List.length_take] at this
        omega)
      have FA := Aside0.mk (HF.out.1.no (Fr.alloc wr (.cells #[.string f, .string t, .slice Ai nn ci] 134)))
      have HK := Aside0.mk (heap_alloc_new wr (.cells #[.string f, .string t, .slice Ai nn ci] 134))
      have h64 : n ≤ 64 := by omega
      have HNN := Aside0.mk hnn
      clear hbad hbf hbt hbn hfm htm hnf hnt hnn nf nt
      go_wp2_with (first | (go_at_call_of 120 v5; go_must (refine (FormS.put FS5.out Q5.out (by have := HTN.out; have := HTT.out; have := HTF.out; have := HPL.out; simp only [List.length_append]; omega)).mono ?_; rintro e' w6 ⟨⟨r6, rfl⟩, q1, q2⟩; have FS6 := Aside0.mk q1; have k6 := q2 _ _ K5.out; obtain ⟨_, _, kc6⟩ := ent_cells k6; clear q1 q2 k6)) | (go_at_call 25; go_must (refine (put_step_u _ 0 (.slice none 0 0) [] (nn : Int) (Win.nil _ _ _ _) (Nat.zero_le _) (by omega) (by simp)).mono ?_; rintro e' w5 ⟨v5, rfl, q1, q2⟩; rw [List.nil_append, Int.toNat_natCast] at q1; have Q5 := Aside0.mk q1; have FS5 := Aside0.mk (FS4.out.no q2); have K5 := Aside0.mk (q2.get K4.out (fun h => h)); clear q1 q2)) | (go_at_call_of 120 v3; go_must (refine (FormS.put FS3.out Q3.out (by have := HTT.out; have := HTF.out; have := HPL.out; simp only [List.length_append]; omega)).mono ?_; rintro e' w4 ⟨⟨r4, rfl⟩, q1, q2⟩; have FS4 := Aside0.mk q1; have k4 := q2 _ _ K3.out; obtain ⟨_, _, kc4⟩ := ent_cells k4; have K4 := Aside0.mk k4; clear q1 q2 k4)) | (go_at_call_of 28 t; go_must (refine (put_step_t _ 0 (.slice none 0 0) [] t (Win.nil _ _ _ _) (Nat.zero_le _) (by omega) (by simp)).mono ?_; rintro e' w3 ⟨v3, rfl, q1, q2⟩; have Q3 := Aside0.mk (show Acc w3 0 v3 (txtB t) from q1); have FS3 := Aside0.mk (FS2.out.no q2); have K3 := Aside0.mk (q2.get K2.out (fun h => h)); clear q1 q2)) | (go_at_call_of 120 v1; go_must (refine (FormS.put FS1.out Q1.out (by have := HTF.out; have := HPL.out; omega)).mono ?_; rintro e' w2 ⟨⟨r2, rfl⟩, q1, q2⟩; have FS2 := Aside0.mk q1; have k2 := q2 _ _ K1.out; obtain ⟨_, kc2, _⟩ := ent_cells k2; have K2 := Aside0.mk k2; clear q1 q2 k2)) | (go_at_call_of 28 f; go_must (refine (put_step_t _ 0 (.slice none 0 0) [] f (Win.nil _ _ _ _) (Nat.zero_le _) (by omega) (by simp)).mono ?_; rintro e' w1 ⟨v1, rfl, q1, q2⟩; have Q1 := Aside0.mk (show Acc w1 0 v1 (txtB f) from q1); have FS1 := Aside0.mk (FA.out.no q2); have K1 := Aside0.mk (q2.get HK.out (fun h => h)); clear q1 q2)))
      go_loopw [64] (fun v64 W2 => ∃ j : Nat, v64 = .int .i64 j ∧ j ≤ nn ∧ Aside0 (FormS w W2 w.heap.size (pfx d i ++ txtB f ++ txtB t ++ uenc nn ++ numB (ns.take j)))) (fun v64 _ => nn - (intOf v64).toNat)
      case atStart => exact ⟨0, rfl, by omega, ⟨by have q := FS6.out; simpa [numB] using q⟩⟩
      case round =>
        obtain ⟨j, rfl, hj, HS⟩ := hrel
        have hlen : (pfx d i ++ txtB f ++ txtB t ++ uenc nn ++ numB (ns.take j)).length ≤ 1000000 := by
          have := HTN.out; have := HTT.out; have := HTF.out; have := HPL.out; have := HAL.out j
          simp only [List.length_append]
          omega
        have HLN := Aside0.mk hlen
        clear hlen
        by_cases hlt2 : j < nn
        · obtain ⟨x, hx⟩ := get_some' (xs := ns) (i := j) (by have := HNN.out; omega)
          obtain ⟨ad2, e2, hh⟩ := rdv_at (f := Value.int .i64) (show RdV wr (Ai) (ns.map (Value.int .i64)) from HA.out.below HS.out.bel) hx
          subst e2
          have hx2 := HI.out x (List.mem_of_getElem? hx)
          have HX := Aside0.mk hx
          clear hx
          go_wp2_with (first | (go_at_call_of 120 v7; go_must (refine (FormS.put FS7.out Q7.out (by have := HLN.out; have := uenc_10 _ (by have := zig_64 x hx2.1 hx2.2; rwa [M64_eq] at this); omega)).mono ?_; rintro e' w8 ⟨⟨r8, rfl⟩, q1, q2⟩; have FS8 := Aside0.mk q1; clear q1 q2)) | (go_at_call 26; go_must (refine (put_step_i _ 0 (.slice none 0 0) [] x (Win.nil _ _ _ _) (Nat.zero_le _) hx2 (by simp)).mono ?_; rintro e' w7 ⟨v7, rfl, q1, q2⟩; rw [List.nil_append] at q1; have Q7 := Aside0.mk q1; have FS7 := Aside0.mk (HS.out.no q2); clear q1 q2)))
          go_roundw
          case rel => exact ⟨j + 1, by simp, by omega, ⟨by have q := FS8.out; rw [show numB (ns.take (j + 1)) = numB (ns.take j) ++ uenc (Lib.zigzag x) from flat_take _ HX.out]; simpa only [List.append_assoc] using q⟩⟩
          case measure => simp [intOf]; omega
        · obtain rfl : nn = j := by omega
          have HFIN := Aside0.mk (show pfx d i ++ txtB f ++ txtB t ++ uenc nn ++ numB (ns.take nn) = pfx d (i + 1) from by
            rw [pfx_succ HP.out, List.take_of_length_le (by have := HNN.out; omega)]
            unfold entB
            simp only [List.append_assoc, HNN.out])
          have HEL := Aside0.mk (entB_len HOK.out HI.out)
          go_wp2_with fail
          go_roundw
          case rel => exact ⟨i + 1, by simp, by omega, ⟨by have q := HS.out; rwa [HFIN.out] at q, by rw [pfx_succ HP.out, List.length_append]; have := HEL.out; have := HPL.out; omega, fun _ => h64, fun e he => by
            rw [List.take_add_one, HP.out] at he
            rcases List.mem_append.1 he with he | he
            · exact HF.out.2.2.2 e he
            · have : e = ⟨f, t, ns⟩ := by simpa using he
              rw [this]
              exact HOK.out⟩⟩
          case measure => simp [intOf]; omega
    · obtain rfl : n = i := by omega
      have HE := Aside0.mk (show okD d = true from by
        unfold okD
        rw [Bool.and_eq_true, decide_eq_true_eq, List.all_eq_true]
        have h := HF.out
        refine ⟨by rw [HDL.out]; by_cases h0 : n = 0; · omega
                   exact h.2.2.1 h0, fun e he => h.2.2.2 e (by rw [List.take_of_length_le (by have := HDL.out; omega)]; exact he)⟩)
      have HBx := HF.out.1.box
      obtain ⟨hb1, v, hb2, hb3⟩ := HBx
      have hbc : wr.cell? ⟨w.heap.size, 0, none⟩ = some v := by simp [World.cell?, hb2]
      have HV := Aside0.mk hb3
      have HFW := Aside0.mk HF.out.1.bel
      clear hb1 hb2 hb3
      go_wp2_with fail
      go_ret2
      exact ⟨.inl ⟨HE.out, v, rfl, by have h := HV.out; rwa [pfx_all (by have := HDL.out; omega)] at h⟩, Fr.of_No HFW.out⟩
end Go.Proofs.Ytchcimkmjoegdaa.C
namespace Go.Proofs.Ytchcimkmjoegdaa.C
open Go.RowKit Go.Proofs.YtchcimkmjoegdaaW.PrintWords Go.Proofs.YtchcimkmjoegdaaW.PrintMore Go.Proofs.Ytchcimkmjoegdaa.M
set_option linter.unusedVariables false
set_option linter.unusedSimpArgs false

/-- A chunk: its first document, the one behind its last, its bytes. -/
structure Chk where
  f : Nat
  t : Nat
  b : List Int
/-- The next chunk begins a new one. -/
def fullC (C : List Chk) : Bool := match C.getLast? with
  | none => true
  | some x => decide (256 ≤ x.b.length)
/-- A document's form laid behind i documents. -/
def cutStep (C : List Chk) (i : Nat) (b : List Int) : List Chk := match C.getLast? with
  | none => [⟨i, i + 1, b⟩]
  | some x => if 256 ≤ x.b.length then C ++ [⟨i, i + 1, b⟩] else C.dropLast ++ [⟨x.f, i + 1, x.b ++ b⟩]
def cutN (B : List (List Int)) : Nat → List Chk
  | 0 => []
  | i + 1 => match B[i]? with
    | none => cutN B i
    | some b => cutStep (cutN B i) i b
theorem cutN_succ {B : List (List Int)} {i : Nat} {b : List Int} (h : B[i]? = some b) : cutN B (i + 1) = cutStep (cutN B i) i b := by rw [cutN, h]
theorem cutStep_full {C : List Chk} {i : Nat} {b : List Int} (h : fullC C = true) : cutStep C i b = C ++ [⟨i, i + 1, b⟩] := by
  unfold cutStep
  unfold fullC at h
  cases hl : C.getLast? with
  | none => rw [List.getLast?_eq_none_iff.1 hl]; rfl
  | some x =>
    rw [hl] at h
    simp only [decide_eq_true_eq] at h
    simp only
    rw [if_pos h]
theorem cutStep_more {P : List Chk} {x : Chk} {i : Nat} {b : List Int} (h : fullC (P ++ [x]) = false) : cutStep (P ++ [x]) i b = P ++ [⟨x.f, i + 1, x.b ++ b⟩] := by
  unfold cutStep
  unfold fullC at h
  simp only [List.getLast?_append, List.getLast?_singleton, Option.some_or, decide_eq_false_iff_not] at h
  simp only [List.getLast?_append, List.getLast?_singleton, Option.some_or, List.dropLast_concat]
  rw [if_neg h]
theorem fullC_last (P : List Chk) (x : Chk) : fullC (P ++ [x]) = decide (256 ≤ x.b.length) := by
  unfold fullC
  simp
theorem fullC_some {C : List Chk} (h : fullC C = false) : ∃ P x, C = P ++ [x] ∧ x.b.length < 256 := by
  rcases List.eq_nil_or_concat C with rfl | ⟨P, x, rfl⟩
  · exact absurd h (by decide)
  · rw [List.concat_eq_append] at h ⊢
    rw [fullC_last] at h
    exact ⟨P, x, rfl, by have := of_decide_eq_false h; omega⟩
theorem flat3_get {α : Type} {f : α → List Value} (hf : ∀ x, (f x).length = 3) {D : List α} {j k : Nat} {p : α} (hp : D[j]? = some p) (hk : k < 3) : (D.flatMap f)[j * 3 + k]? = (f p)[k]? := by
  induction D generalizing j with
  | nil => simp at hp
  | cons x D ih =>
    rw [List.flatMap_cons]
    cases j with
    | zero =>
      obtain rfl := Option.some.inj hp
      rw [Nat.zero_mul, Nat.zero_add, List.getElem?_append_left (by rw [hf]; exact hk)]
    | succ j =>
      rw [List.getElem?_append_right (by rw [hf]; omega), hf, show (j + 1) * 3 + k - 3 = j * 3 + k from by omega]
      exact ih hp
theorem flat3_len {α : Type} {f : α → List Value} (hf : ∀ x, (f x).length = 3) (D : List α) : (D.flatMap f).length = D.length * 3 := by
  induction D with
  | nil => rfl
  | cons x D ih => rw [List.flatMap_cons, List.length_append, hf, ih, List.length_cons]; omega
section
variable {w w' : World} {base n c g off size : Nat} {e : TypeId} {xs : List Value}
/-- A cell of a window of wide elements: it is there, and may be written. -/
theorem Win.cellN (h : Win w base e size (.slice (some ⟨g, off, none⟩) n c) n xs) {j : Nat} {u : Value} (hj : xs[j]? = some u) : w.cell? ⟨g, off + j, none⟩ = some u ∧ w.frozen? ⟨g, off + j, none⟩ = false := by
  rcases h.2 with ⟨h0, A, he⟩ | ⟨g', off', cap, cur, he, hg, hh, hnc, hm, hcs, ht⟩
  · have : xs = [] := List.eq_nil_of_length_eq_zero (by rw [h.1, h0, Nat.zero_mul])
    subst this
    simp at hj
  · injection he with ha _ hc
    injection ha with ha
    injection ha with h1 h2
    subst h1; subst h2; subst hc
    constructor
    · rw [cell_of_row w g _ cur e (0, 0) hh]
      rw [← ht, List.getElem?_take] at hj
      split at hj
      · rw [List.getElem?_drop] at hj
        rw [← Array.getElem?_toList]
        exact hj
      · cases hj
    · simp [World.frozen?, hh]
theorem Win.storeN (h : Win w base e size (.slice (some ⟨g, off, none⟩) n c) n xs) (hn : 0 < n) (j : Nat) (hj : j < n * size) (u : Value) : Win (w.setCell ⟨g, off + j, none⟩ u) base e size (.slice (some ⟨g, off, none⟩) n c) n (xs.set j u) ∧ Fr (At (.slice (some ⟨g, off, none⟩) n c)) w (w.setCell ⟨g, off + j, none⟩ u) := by
  rcases h.2 with ⟨h0, A, he⟩ | ⟨g', off', cap, cur, he, hg, hh, hnc, hm, hcs, ht⟩
  · omega
  · injection he with ha _ hc
    injection ha with ha
    injection ha with h1 h2
    subst h1; subst h2; subst hc
    refine ⟨⟨by rw [List.length_set]; exact h.1, .inr ⟨g, off, c, cur.setIfInBounds (off + j) u, rfl, hg, ?_, hnc, hm, by simpa using hcs, ?_⟩⟩, Fr.setCell w _ u (rb_slice _ _ _ (by omega))⟩
    · simp [World.setCell, Array.getElem?_modify, hh]
    · rw [← ht, Array.toList_setIfInBounds]
      have hcc : n * size ≤ c * size := Nat.mul_le_mul_right _ hnc
      apply List.ext_getElem?
      intro q
      simp only [List.getElem?_take, List.getElem?_drop, List.getElem?_set, List.length_take, List.length_drop, Array.length_toList]
      by_cases hq : q < n * size
      · by_cases hqj : j = q
        · subst hqj
          rw [if_pos hq, if_pos rfl, if_pos (by omega), if_pos rfl, if_pos (by omega)]
        · rw [if_pos hq, if_neg (by omega), if_neg hqj, if_pos hq]
      · rw [if_neg hq, if_neg (by omega), if_neg hq]
end
/-- A chunk's cells: p.1 is the value of its bytes' slice. -/
def chkCells (p : Value × Chk) : List Value := [.int .i64 p.2.f, .int .i64 p.2.t, p.1]
theorem chk3 (p : Value × Chk) : (chkCells p).length = 3 := rfl
/-- Chunks of its own memory. -/
structure Chks (W : World) (base : Nat) (v : Value) (C : List (Value × Chk)) : Prop where
  hdr : Win W base 118 3 v C.length (C.flatMap chkCells)
  part : ∀ p ∈ C, Acc W base p.1 p.2.b
  sep : ∀ (i j : Nat) (p q : Value × Chk) (k : Nat), i ≠ j → C[i]? = some p → C[j]? = some q → At p.1 k → ¬ At q.1 k
theorem Chks.nil (W : World) (base : Nat) : Chks W base (.slice none 0 0) [] := ⟨Win.nil _ _ _ _, fun p hp => (nomatch hp), fun i j p q k _ h => (by simp at h)⟩
theorem Chks.below {W W' : World} {base : Nat} {v : Value} {C : List (Value × Chk)} (h : Chks W base v C) (hb : Below W.heap.size W W') : Chks W' base v C := ⟨h.hdr.below hb, fun p hp => (h.part p hp).below hb, h.sep⟩
theorem snoc_get {α : Type} {P : List α} {x q : α} {i : Nat} (h : (P ++ [x])[i]? = some q) : (i < P.length ∧ P[i]? = some q) ∨ (i = P.length ∧ q = x) := by
  by_cases hi : i < P.length
  · rw [List.getElem?_append_left hi] at h
    exact .inl ⟨hi, h⟩
  · rw [List.getElem?_append_right (by omega)] at h
    have h0 : i - P.length = 0 := by
      cases hk : i - P.length with
      | zero => rfl
      | succ m => rw [hk] at h; simp at h
    rw [h0] at h
    exact .inr ⟨by omega, (by simpa using h.symm)⟩
theorem acc_not_hdr {W : World} {b1 b2 n : Nat} {v u : Value} {xs : List Value} {ys : List Int} {k : Nat} (h : Win W b1 118 3 v n xs) (hu : Acc W b2 u ys) (hk : At u k) : ¬ At v k := fun hv => by
  obtain ⟨_, _, c1, e1⟩ := h.at_ hv
  exact absurd (hu.ne_type hk e1) (by decide)
/-- An empty chunk behind the others. -/
theorem Chks.push {W W1 : World} {base : Nat} {v v1 : Value} {C : List (Value × Chk)} {i : Nat} (h : Chks W base v C) (g1 : Win W1 base 118 3 v1 (C.length + 1) (C.flatMap chkCells ++ [.int .i64 i, .int .i64 (0 : Nat), .slice none 0 0])) (g3 : Fr (At v) W W1) :
    Chks W1 base v1 (C ++ [(.slice none 0 0, ⟨i, 0, []⟩)]) := by
  refine ⟨?_, fun q hq => ?_, fun a b p q k hne hp hq hk => ?_⟩
  · rw [List.flatMap_append, List.length_append]
    exact g1
  · rcases List.mem_append.1 hq with hq | hq
    · exact Win.fr (h.part q hq) g3 (fun k hk hv => acc_not_hdr h.hdr (h.part q hq) hk hv)
    · simp only [List.mem_cons, List.mem_nil_iff, or_false] at hq
      subst hq
      exact Win.nil _ _ _ _
  · rcases snoc_get hp with ⟨_, hp⟩ | ⟨_, rfl⟩
    · rcases snoc_get hq with ⟨_, hq⟩ | ⟨_, rfl⟩
      · exact h.sep a b p q k hne hp hq hk
      · exact fun h => h.none
    · exact hk.none.elim
/-- The last chunk's bytes grow; its cells are written. -/
theorem Chks.grow {W W1 : World} {base g off n c : Nat} {P : List (Value × Chk)} {u u1 : Value} {f t t1 : Nat} {b b1 : List Int} (h : Chks W base (.slice (some ⟨g, off, none⟩) n c) (P ++ [(u, Chk.mk f t b)])) (hn : P.length + 1 = n)
    (g1 : Acc W1 base u1 b1) (g3 : Fr (At u) W W1) (g4 : rb u1 = rb u ∨ rb u1 = some W.heap.size) :
    Chks ((W1.setCell ⟨g, off + P.length * 3 + 2, none⟩ u1).setCell ⟨g, off + P.length * 3 + 1, none⟩ (.int .i64 t1)) base (.slice (some ⟨g, off, none⟩) n c) (P ++ [(u1, Chk.mk f t1 b1)]) ∧ Fr (At (.slice (some ⟨g, off, none⟩) n c)) W1 ((W1.setCell ⟨g, off + P.length * 3 + 2, none⟩ u1).setCell ⟨g, off + P.length * 3 + 1, none⟩ (.int .i64 t1)) := by
  subst hn
  rw [Nat.add_assoc off, Nat.add_assoc off]
  have hd := h.hdr
  rw [List.length_append] at hd
  have hu := h.part (u, Chk.mk f t b) (by simp)
  have hd1 : Win W1 base 118 3 (.slice (some ⟨g, off, none⟩) (P.length + 1) c) (P.length + 1) ((P ++ [(u, Chk.mk f t b)]).flatMap chkCells) := Win.fr hd g3 (fun k hk hv => acc_not_hdr hd hu hv hk)
  obtain ⟨s1, f1⟩ := Win.storeN hd1 (by omega) (P.length * 3 + 2) (by omega) u1
  obtain ⟨s2, f2⟩ := Win.storeN s1 (by omega) (P.length * 3 + 1) (by omega) (.int .i64 t1)
  have hl : (P.flatMap chkCells).length = P.length * 3 := flat3_len chk3 P
  have e : ((((P ++ [(u, Chk.mk f t b)]).flatMap chkCells).set (P.length * 3 + 2) u1).set (P.length * 3 + 1) (.int .i64 t1)) = (P ++ [(u1, Chk.mk f t1 b1)]).flatMap chkCells := by
    rw [List.flatMap_append, List.flatMap_append, List.set_append_right _ _ (by omega), List.set_append_right _ _ (by omega), hl]
    rw [show P.length * 3 + 2 - P.length * 3 = 2 from by omega, show P.length * 3 + 1 - P.length * 3 = 1 from by omega]
    rfl
  rw [e] at s2
  have keep : ∀ {q : Value} {ys : List Int}, Acc W1 base q ys → Acc ((W1.setCell ⟨g, off + (P.length * 3 + 2), none⟩ u1).setCell ⟨g, off + (P.length * 3 + 1), none⟩ (.int .i64 t1)) base q ys := fun hq =>
    have h1 := Win.fr hq f1 (fun k hk hv => acc_not_hdr hd1 hq hk hv)
    Win.fr h1 f2 (fun k hk hv => acc_not_hdr s1 h1 hk hv)
  refine ⟨⟨?_, fun q hq => ?_, fun a a' p q k hne hp hq hk hk' => ?_⟩, f1.trans f2 (fun _ _ h => h) (fun _ _ h => h)⟩
  · rw [List.length_append]
    exact s2
  · rcases List.mem_append.1 hq with hq | hq
    · obtain ⟨j, hj⟩ := List.mem_iff_getElem?.1 hq
      have hjl := (List.getElem?_eq_some_iff.1 hj).1
      exact keep (Win.fr (h.part q (List.mem_append_left _ hq)) g3 (fun k hk hv => h.sep j P.length q ((u, Chk.mk f t b) : Value × Chk) k (by omega) (by rw [List.getElem?_append_left hjl]; exact hj) (by simp) hk hv))
    · simp only [List.mem_cons, List.mem_nil_iff, or_false] at hq
      subst hq
      exact keep g1
  · have new : ∀ {j : Nat} {p : Value × Chk} {k : Nat}, j < P.length → P[j]? = some p → At p.1 k → At u1 k → False := fun {j p k} hj hp h1 h2 => by
      unfold At at h2
      rcases g4 with g4 | g4
      · rw [g4] at h2
        exact h.sep j P.length p ((u, Chk.mk f t b) : Value × Chk) k (by omega) (by rw [List.getElem?_append_left hj]; exact hp) (by simp) h1 h2
      · rw [g4] at h2
        have := (Win.at_ (h.part p (List.mem_append_left _ (List.mem_of_getElem? hp))) h1).2.1
        injection h2 with h2
        omega
    rcases snoc_get hp with ⟨ha, hp⟩ | ⟨ha, rfl⟩
    · rcases snoc_get hq with ⟨ha', hq⟩ | ⟨hb, rfl⟩
      · exact h.sep a a' p q k hne (by rw [List.getElem?_append_left ha]; exact hp) (by rw [List.getElem?_append_left ha']; exact hq) hk hk'
      · exact new ha hp hk hk'
    · rcases snoc_get hq with ⟨ha', hq⟩ | ⟨hb, rfl⟩
      · exact new ha' hq hk' hk
      · omega
theorem Win.shape1 {w : World} {base e size n : Nat} {v : Value} {xs : List Value} (h : Win w base e size v n xs) (hn : 0 < n) : ∃ g off c, v = .slice (some ⟨g, off, none⟩) n c ∧ n ≤ c := by
  rcases h.2 with ⟨h0, _⟩ | ⟨g, off, cap, _, he, _, _, hnc, _⟩
  · omega
  · exact ⟨g, off, cap, he, hnc⟩
theorem Chks.cells {W : World} {base g off n c j : Nat} {C : List (Value × Chk)} {u : Value} {f t : Nat} {b : List Int} (h : Chks W base (.slice (some ⟨g, off, none⟩) n c) C) (hn : C.length = n) (hp : C[j]? = some (u, Chk.mk f t b)) :
    (W.cell? ⟨g, off + j * 3, none⟩ = some (.int .i64 f) ∧ W.frozen? ⟨g, off + j * 3, none⟩ = false) ∧ (W.cell? ⟨g, off + j * 3 + 1, none⟩ = some (.int .i64 t) ∧ W.frozen? ⟨g, off + j * 3 + 1, none⟩ = false) ∧ W.cell? ⟨g, off + j * 3 + 2, none⟩ = some u ∧ W.frozen? ⟨g, off + j * 3 + 2, none⟩ = false := by
  have hd := h.hdr
  rw [hn] at hd
  have h0 := flat3_get (k := 0) chk3 hp (by decide)
  have h1 := flat3_get (k := 1) chk3 hp (by decide)
  have h2 := flat3_get (k := 2) chk3 hp (by decide)
  exact ⟨Win.cellN hd h0, Win.cellN hd h1, Win.cellN hd h2⟩
theorem Chks.cells1 {W W1 : World} {base g off n c j : Nat} {P : List (Value × Chk)} {u : Value} {f t : Nat} {b : List Int} (h : Chks W base (.slice (some ⟨g, off, none⟩) n c) (P ++ [(u, Chk.mk f t b)])) (hn : P.length + 1 = n) (hj : P.length = j) (g3 : Fr (At u) W W1) :
    (W1.cell? ⟨g, off + j * 3, none⟩ = some (.int .i64 f) ∧ W1.frozen? ⟨g, off + j * 3, none⟩ = false) ∧ (W1.cell? ⟨g, off + j * 3 + 1, none⟩ = some (.int .i64 t) ∧ W1.frozen? ⟨g, off + j * 3 + 1, none⟩ = false) ∧ W1.cell? ⟨g, off + j * 3 + 2, none⟩ = some u ∧ W1.frozen? ⟨g, off + j * 3 + 2, none⟩ = false := by
  subst hn
  subst hj
  have hd := h.hdr
  rw [List.length_append] at hd
  have hu := h.part (u, Chk.mk f t b) (by simp)
  have hd1 : Win W1 base 118 3 (.slice (some ⟨g, off, none⟩) (P.length + 1) c) (P.length + 1) ((P ++ [(u, Chk.mk f t b)]).flatMap chkCells) := Win.fr hd g3 (fun k hk hv => acc_not_hdr hd hu hv hk)
  have hp : (P ++ [(u, Chk.mk f t b)])[P.length]? = some (u, Chk.mk f t b) := by simp
  exact ⟨Win.cellN hd1 (flat3_get (k := 0) chk3 hp (by decide)), Win.cellN hd1 (flat3_get (k := 1) chk3 hp (by decide)), Win.cellN hd1 (flat3_get (k := 2) chk3 hp (by decide))⟩
end Go.Proofs.Ytchcimkmjoegdaa.C
namespace Go.Proofs.Ytchcimkmjoegdaa.C
open Go.RowKit Go.Proofs.YtchcimkmjoegdaaW.PrintWords Go.Proofs.YtchcimkmjoegdaaW.PrintMore Go.Proofs.Ytchcimkmjoegdaa.M
set_option linter.unusedVariables false
set_option linter.unusedSimpArgs false

def docOf (p : Value × List (Value × Ent)) : List Ent := p.2.map Prod.snd
/-- Documents are read. -/
structure DocsR (w : World) (A : Option Addr) (n c : Nat) (L : List (Value × List (Value × Ent))) : Prop where
  hdr : RdV w A (L.map Prod.fst)
  len : L.length = n
  cap : n ≤ c
  max : n ≤ 9223372036854775807
  part : ∀ p ∈ L, ∃ A' c', p.1 = .slice A' p.2.length c' ∧ DocR w A' p.2.length c' p.2
theorem DocsR.below {w w' : World} {A : Option Addr} {n c : Nat} {L : List (Value × List (Value × Ent))} (h : DocsR w A n c L) (hb : Below w.heap.size w w') : DocsR w' A n c L :=
  ⟨h.hdr.below hb, h.len, h.cap, h.max, fun p hp => by obtain ⟨a, b, h1, h2⟩ := h.part p hp; exact ⟨a, b, h1, h2.below hb⟩⟩
/-- The documents may be stored. -/
def okDs (d : List (List Ent)) : Bool := decide (d.length ≤ 16384) && d.all okD
theorem docB_len {w : World} {A : Option Addr} {n c : Nat} {D : List (Value × Ent)} (h : DocR w A n c D) (ho : okD (D.map Prod.snd) = true) : (docB (D.map Prod.snd)).length ≤ 268170 := by
  unfold okD at ho
  rw [Bool.and_eq_true, decide_eq_true_eq, List.all_eq_true] at ho
  obtain ⟨h1, h2⟩ := ho
  unfold docB
  rw [List.length_append]
  have a := uenc_10 (D.map Prod.snd).length (by omega)
  have b := flat_len entB 4190 (D.map Prod.snd) (fun e he => by
    obtain ⟨p, hp, rfl⟩ := List.mem_map.1 he
    obtain ⟨_, _, _, _, _, h64, _⟩ := h.part p hp
    exact entB_len (h2 _ he) h64)
  omega
theorem info118 : (Try.prog.info? 118).map (fun i => (i.zero, i.size, i.bytes)) = some (some (.agg #[.int .i64 0, .int .i64 0, .slice none 0 0]), 3, 40) := by kernel_rfl
theorem chunk_bound {n : Nat} (h : n ≤ 16384) : n + 1 ≤ maxLen ∧ (n + 1 + (n + 1) / 4 + 700) * 40 ≤ 281474976710656 := by
  constructor
  · simp only [maxLen]; omega
  · omega
theorem cutN_ft (B : List (List Int)) : ∀ (i : Nat), ∀ x ∈ cutN B i, x.f ≤ x.t ∧ x.t ≤ i
  | 0 => fun x hx => nomatch hx
  | i + 1 => fun x hx => by
    rw [cutN] at hx
    have ih := cutN_ft B i
    cases hb : B[i]? with
    | none => rw [hb] at hx; have := ih x hx; omega
    | some b =>
      rw [hb] at hx
      simp only at hx
      generalize cutN B i = C at hx ih
      rcases hfull : fullC C with _ | _
      · obtain ⟨P, y, rfl, _⟩ := fullC_some hfull
        rw [cutStep_more hfull] at hx
        rcases List.mem_append.1 hx with hx | hx
        · have := ih x (List.mem_append_left _ hx); omega
        · simp only [List.mem_cons, List.mem_nil_iff, or_false] at hx
          subst hx
          have := ih y (by simp)
          show y.f ≤ i + 1 ∧ i + 1 ≤ i + 1
          omega
      · rw [cutStep_full hfull] at hx
        rcases List.mem_append.1 hx with hx | hx
        · have := ih x hx; omega
        · simp only [List.mem_cons, List.mem_nil_iff, or_false] at hx
          subst hx
          show i ≤ i + 1 ∧ i + 1 ≤ i + 1
          omega
/-- cut's loop behind i documents. -/
structure CutS (w : World) (d : List (List Ent)) (i : Nat) (W : World) (v : Value) (C : List (Value × Chk)) : Prop where
  ch : Chks W w.heap.size v C
  eq : C.map Prod.snd = cutN (d.map docB) i
  bel : Below w.heap.size w W
  ok : ∀ x ∈ d.take i, okD x = true
  small : ∀ p ∈ C, p.2.b.length ≤ 300000
  len : C.length ≤ i
theorem CutS.no {w W W' : World} {d : List (List Ent)} {i : Nat} {v : Value} {C : List (Value × Chk)} (h : CutS w d i W v C) (hf : Fr No W W') : CutS w d i W' v C :=
  ⟨h.ch.below hf.no, h.eq, accNo h.bel (Nat.le_refl _) hf, h.ok, h.small, h.len⟩
theorem cut_full {w W : World} {d : List (List Ent)} {i : Nat} {x : List Ent} {v v1 u : Value} {C : List (Value × Chk)} (h0 : fullC (C.map Prod.snd) = true) (hx : d[i]? = some x) (ho : okD x = true) (hl : (docB x).length ≤ 268170) {W0 : World} (h : CutS w d i W0 v C)
    (hc : Chks W w.heap.size v1 (C ++ [(u, Chk.mk i (i + 1) (docB x))])) (hb : Below w.heap.size w W) : CutS w d (i + 1) W v1 (C ++ [(u, Chk.mk i (i + 1) (docB x))]) := by
  refine ⟨hc, ?_, hb, fun y hy => ?_, fun p hp => ?_, by rw [List.length_append]; have := h.len; simp; omega⟩
  · rw [cutN_succ (b := docB x) (by rw [List.getElem?_map, hx]; rfl), ← h.eq, cutStep_full h0, List.map_append]
    rfl
  · rw [List.take_add_one, hx] at hy
    rcases List.mem_append.1 hy with hy | hy
    · exact h.ok y hy
    · have : y = x := by simpa using hy
      rw [this]
      exact ho
  · rcases List.mem_append.1 hp with hp | hp
    · exact h.small p hp
    · simp only [List.mem_cons, List.mem_nil_iff, or_false] at hp
      subst hp
      show (docB x).length ≤ 300000
      omega
theorem cut_more {w W : World} {d : List (List Ent)} {i f t : Nat} {x : List Ent} {v v1 u u1 : Value} {b : List Int} {P : List (Value × Chk)} (h0 : b.length < 256) (hx : d[i]? = some x) (ho : okD x = true) (hl : (docB x).length ≤ 268170) {W0 : World} (h : CutS w d i W0 v (P ++ [(u, Chk.mk f t b)]))
    (hc : Chks W w.heap.size v1 (P ++ [(u1, Chk.mk f (i + 1) (b ++ docB x))])) (hb : Below w.heap.size w W) : CutS w d (i + 1) W v1 (P ++ [(u1, Chk.mk f (i + 1) (b ++ docB x))]) := by
  have hlen := h.len
  rw [List.length_append] at hlen
  refine ⟨hc, ?_, hb, fun y hy => ?_, fun p hp => ?_, by rw [List.length_append]; simp at hlen ⊢; omega⟩
  · have he := h.eq
    rw [List.map_append] at he
    rw [cutN_succ (b := docB x) (by rw [List.getElem?_map, hx]; rfl), ← he, List.map_append]
    show _ = cutStep (P.map Prod.snd ++ [Chk.mk f t b]) i (docB x)
    rw [cutStep_more (by rw [fullC_last]; exact decide_eq_false (by show ¬ 256 ≤ b.length; omega))]
    rfl
  · rw [List.take_add_one, hx] at hy
    rcases List.mem_append.1 hy with hy | hy
    · exact h.ok y hy
    · have : y = x := by simpa using hy
      rw [this]
      exact ho
  · rcases List.mem_append.1 hp with hp | hp
    · exact h.small p (List.mem_append_left _ hp)
    · simp only [List.mem_cons, List.mem_nil_iff, or_false] at hp
      subst hp
      show (b ++ docB x).length ≤ 300000
      rw [List.length_append]
      omega
set_option maxRecDepth 100000 in
set_option maxHeartbeats 4000000 in
theorem cut_any (w : World) (A : Option Addr) (n c : Nat) (L : List (Value × List (Value × Ent))) (h : DocsR w A n c L) :
    Calls Try.prog 93 #[.slice A n c] w fun e W' => ((okDs (L.map docOf) = true ∧ ∃ v C, e = .returned (.tuple #[v, .bool true]) ∧ CutS w (L.map docOf) (L.map docOf).length W' v C) ∨ (okDs (L.map docOf) = false ∧ e = .returned (.tuple #[.slice none 0 0, .bool false]))) ∧ Fr No w W' := by
  obtain ⟨d, hd⟩ : ∃ d, L.map docOf = d := ⟨_, rfl⟩
  rw [hd]
  have HD := Aside0.mk h
  have hc := h.cap
  have hn := h.max
  have HDL := Aside0.mk (show d.length = n from by rw [← hd, List.length_map]; exact h.len)
  have HM := Aside0.mk (show ∀ (i : Nat) (p : Value × List (Value × Ent)), L[i]? = some p → d[i]? = some (docOf p) from fun i p h => by rw [← hd, List.getElem?_map, h]; rfl)
  have HBE := Aside0.mk (show ∀ (i : Nat) (x : List Ent), d[i]? = some x → okD x = false → okDs d = false from fun i e he hf => by
    unfold okDs
    rw [Bool.and_eq_false_iff]
    refine .inr (Bool.eq_false_iff.2 fun ha => ?_)
    rw [List.all_eq_true.1 ha e (List.mem_of_getElem? he)] at hf
    exact absurd hf (by decide))
  by_cases hbig : 16384 < n
  · have HR := Aside0.mk (show okDs d = false from by
      unfold okDs
      rw [decide_eq_false (by have := HDL.out; omega)]
      rfl)
    clear h hd
    go_enter Try.func93, Try.ntmps93
    go_wp2_with fail
    go_ret2
    exact ⟨.inr ⟨HR.out, rfl⟩, Fr.refl _ _⟩
  have hn2 : n ≤ 16384 := by omega
  clear h hd hbig hn
  go_enter Try.func93, Try.ntmps93
  go_wp2_with fail
  go_loopw [4, 5, 16] (fun v4 v5 v16 wr => ∃ (i : Nat) (C : List (Value × Chk)), v16 = .int .i64 i ∧ v5 = .bool (fullC (C.map Prod.snd)) ∧ i ≤ n ∧ Aside0 (CutS w d i wr v4 C)) (fun _ _ v16 _ => n - (intOf v16).toNat)
  case atStart => exact ⟨0, [], rfl, rfl, by omega, ⟨Chks.nil _ _, rfl, Below.refl _ _, by simp, fun p hp => (nomatch hp), Nat.le_refl _⟩⟩
  case round =>
    obtain ⟨i, C, rfl, rfl, hi, HC⟩ := hrel
    by_cases hlt : i < n
    · obtain ⟨p, hp⟩ := get_some' (xs := L) (i := i) (by have := HD.out.len; omega)
      have hr := HD.out.below HC.out.bel
      obtain ⟨ad, eA, hcell⟩ := rdv_at (f := Prod.fst) hr.hdr hp
      obtain ⟨Ai, ci, he, hdoc⟩ := hr.part p (List.mem_of_getElem? hp)
      rw [he] at hcell
      have HP := Aside0.mk (HM.out i p hp)
      subst eA
      obtain ⟨ni, hni⟩ : ∃ k, p.2.length = k := ⟨_, rfl⟩
      rw [hni] at hcell hdoc
      have hcap := hdoc.cap
      have hmax := hdoc.max
      have HF := Aside0.mk (form_any wr Ai ni ci p.2 hdoc)
      have HLN := Aside0.mk (docB_len hdoc)
      obtain ⟨x, hx⟩ : ∃ x, docOf p = x := ⟨_, rfl⟩
      rw [show p.2.map Prod.snd = x from hx] at HF HLN
      rw [hx] at HP
      clear hr hp he hdoc hni hx
      by_cases hok : okD x = true
      · have HOK := Aside0.mk hok
        have HF2 := Aside0.mk (show Calls Try.prog 115 #[.slice Ai ni ci] wr fun e W' => ∃ v, e = .returned (.tuple #[v, .bool true]) ∧ Acc W' wr.heap.size v (docB x) ∧ Fr No wr W' from HF.out.mono (by
          rintro e W' ⟨⟨_, v, h1, h2⟩ | ⟨h0, _⟩, h3⟩
          · exact ⟨v, h1, h2, h3⟩
          · rw [hok] at h0; exact absurd h0 (by decide)))
        have HLX := Aside0.mk (HLN.out hok)
        clear hok HF HLN
        cases hfull : fullC (C.map Prod.snd) with
        | true =>
          have HFU := Aside0.mk hfull
          obtain ⟨A4, c4, e4, hc4⟩ := Win.shape HC.out.ch.hdr
          subst e4
          obtain ⟨k, hk⟩ : ∃ k, C.length = k := ⟨_, rfl⟩
          have hk2 : k ≤ 16384 := by have := HC.out.len; omega
          have HK := Aside0.mk hk
          rw [hk] at hc4
          have HB := Aside0.mk (chunk_bound hk2)
          have HCk := Aside0.mk (show CutS w d i wr (.slice A4 k c4) C from by have h := HC.out; rwa [hk] at h)
          rw [hk]
          clear hfull hk
          go_wp2_with (first | ((with_reducible refine gate_builtin (b := .append) (xs := #[.tmp 44, .tmp 45]) rfl ?_); at_builtin; go_must (refine wpl_append w2 w.heap.size rfl (.tmp 44) (.tmp 45) 22 22 5 (.int .u8 0) 1 1 (.slice 5) rfl Try.underlying22 Try.underlying22 (.inl ⟨_, rfl⟩) info5 rfl (.slice none 0 0) 0 [] (.slice A1 (docB x).length c1) (docB x).length (nums .u8 (docB x)) rfl rfl (Win.nil _ _ _ _) (Src.of_rd (RdV.of_win G3.out) (by rw [nums_length, Nat.mul_one]) (nums_one _ _)) GS.out.size (small_bound (n := 0 + (docB x).length) (by have := HLX.out; omega)).1 (small_bound (n := 0 + (docB x).length) (by have := HLX.out; omega)).2 ?_; intro v3 w3 g1 _ g3 g4; obtain ⟨⟨j0, j0f⟩, ⟨j1, j1f⟩, j2, j2f⟩ := Chks.cells1 G2.out (by rw [HK.out]) HK.out g3; obtain ⟨A3, c3, e3, l3⟩ := Win.shape g1; subst e3; have G4 := Aside0.mk g1; have G5 := Aside0.mk g3; have G6 := Aside0.mk g4; clear g1 g3 g4)) | ((with_reducible refine gate_builtin (b := .append) (xs := #[.tmp 29, .tmp 32]) rfl ?_); at_builtin; go_must (refine wpl_append1 w1 w.heap.size rfl (.tmp 29) (.tmp 32) 119 118 (.agg #[.int .i64 0, .int .i64 0, .slice none 0 0]) 3 40 rfl Try.underlying119 info118 rfl (.slice A4 k c4) k (C.flatMap chkCells) [.int .i64 i, .int .i64 0, .slice none 0 0] rfl rfl (by have h := HC1.out.ch.hdr; rwa [HK.out] at h) rfl (by simp [Value.oneCell']) HC1.out.bel.size HB.out.1 HB.out.2 ?_; intro v2 w2 g1 _ g3 _; obtain ⟨g, off, c2, e2, l2⟩ := Win.shape1 g1 (Nat.succ_pos _); subst e2; have G3 := Aside0.mk (Win.fr Q1.out g3 (fun k hk hv => acc_not_hdr HC1.out.ch.hdr Q1.out hk hv) : Acc w2 wr.heap.size _ _); have GS := Aside0.mk (acc HC1.out.bel (Nat.le_refl _) g3 (fun k hk => (Win.at_ HC1.out.ch.hdr hk).1)); have G2 := Aside0.mk (Chks.push HC1.out.ch (by rw [HK.out]; exact g1) g3); obtain ⟨⟨k0, k0f⟩, ⟨k1, k1f⟩, k2, k2f⟩ := Chks.cells (j := k) (u := .slice none 0 0) (f := i) (t := 0) (b := []) G2.out (by rw [List.length_append, HK.out]; rfl) (by rw [← HK.out]; simp); clear g1 g3)) | (go_at_call 115; go_must (refine HF2.out.mono ?_; rintro e' w1 ⟨v1, rfl, q1, q2⟩; obtain ⟨A1, c1, e1, l1⟩ := Win.shape q1; subst e1; have Q1 := Aside0.mk q1; have HC1 := Aside0.mk (HCk.out.no q2); have Q2 := Aside0.mk q2; clear q1 q2)))
          go_roundw
          case rel =>
            obtain ⟨g1, g2⟩ := Chks.grow (t1 := i + 1) (b1 := docB x) G2.out (by rw [HK.out]) (by have h := G4.out; rw [List.nil_append] at h; exact Acc.of h) G5.out G6.out
            rw [HK.out, Nat.zero_add] at g1
            rw [HK.out, Nat.zero_add] at g2
            refine ⟨i + 1, C ++ [(_, Chk.mk i (i + 1) (docB x))], by simp, ?_, by omega, ⟨cut_full HFU.out HP.out HOK.out HLX.out HC.out g1 (acc (acc GS.out (Nat.le_refl _) G5.out (fun k hk => hk.none.elim)) (Nat.le_refl _) g2 (fun k hk => by obtain rfl := At.eq hk; exact (Win.at_ G2.out.hdr (rb_slice _ _ _ (by omega))).1))⟩⟩
            rw [List.map_append]
            show _ = Value.bool (fullC (C.map Prod.snd ++ [Chk.mk i (i + 1) (docB x)]))
            rw [fullC_last]
            simp
            omega
          case measure => simp [intOf]; omega
        | false =>
          obtain ⟨P, q, rfl⟩ : ∃ P q, C = P ++ [q] := by
            rcases List.eq_nil_or_concat C with rfl | ⟨P, q, rfl⟩
            · exact absurd hfull (by decide)
            · exact ⟨P, q, List.concat_eq_append⟩
          obtain ⟨u, f, t, b⟩ := q
          have hb256 : b.length < 256 := by
            rw [List.map_append] at hfull
            have := (fullC_last (P.map Prod.snd) (Chk.mk f t b)).symm.trans hfull
            have := of_decide_eq_false this
            exact Nat.lt_of_not_le this
          obtain ⟨Au, cu, eu, hcu⟩ := Win.shape (HC.out.ch.part (u, Chk.mk f t b) (by simp))
          obtain rfl : u = .slice Au b.length cu := eu
          replace hcu : b.length ≤ cu := hcu
          obtain ⟨k, hk⟩ : ∃ k, P.length = k := ⟨_, rfl⟩
          have hkl : (P ++ [(Value.slice Au b.length cu, Chk.mk f t b)]).length = k + 1 := by rw [List.length_append, hk]; rfl
          have hk2 : k ≤ 16384 := by have := HC.out.len; omega
          obtain ⟨g, off, c4, e4, hc4⟩ := Win.shape1 HC.out.ch.hdr (by omega)
          subst e4
          rw [hkl] at hc4
          have HK := Aside0.mk hk
          have HCk := Aside0.mk (show CutS w d i wr (.slice (some ⟨g, off, none⟩) (k + 1) c4) (P ++ [(Value.slice Au b.length cu, Chk.mk f t b)]) from by have h := HC.out; rwa [hkl] at h)
          rw [hkl]
          obtain ⟨nb, hnb⟩ : ∃ k, b.length = k := ⟨_, rfl⟩
          have HNB := Aside0.mk hnb
          have HSB := Aside0.mk (small_bound (n := nb + (docB x).length) (by have := HLX.out; omega))
          rw [hnb] at hb256 hcu
          rw [hnb] at HCk
          clear hfull hk hkl hnb HC
          go_wp2_with (first | ((with_reducible refine gate_builtin (b := .append) (xs := #[.tmp 44, .tmp 45]) rfl ?_); at_builtin; go_must (refine wpl_append w1 w.heap.size rfl (.tmp 44) (.tmp 45) 22 22 5 (.int .u8 0) 1 1 (.slice 5) rfl Try.underlying22 Try.underlying22 (.inl ⟨_, rfl⟩) info5 rfl (.slice Au nb cu) nb (nums .u8 b) (.slice A1 (docB x).length c1) (docB x).length (nums .u8 (docB x)) rfl rfl (by have h := HC1.out.ch.part (Value.slice Au nb cu, Chk.mk f t b) (by simp); unfold Acc at h; rwa [HNB.out] at h) (Src.of_rd (RdV.of_win Q1.out) (by rw [nums_length, Nat.mul_one]) (nums_one _ _)) HC1.out.bel.size HSB.out.1 HSB.out.2 ?_; intro v3 w3 g1 _ g3 g4; obtain ⟨⟨j0, j0f⟩, ⟨j1, j1f⟩, j2, j2f⟩ := Chks.cells1 HC1.out.ch (by rw [HK.out]) HK.out g3; obtain ⟨A3, c3, e3, l3⟩ := Win.shape g1; subst e3; have G4 := Aside0.mk g1; have G5 := Aside0.mk g3; have G6 := Aside0.mk g4; clear g1 g3 g4)) | (go_at_call 115; go_must (refine HF2.out.mono ?_; rintro e' w1 ⟨v1, rfl, q1, q2⟩; obtain ⟨A1, c1, e1, l1⟩ := Win.shape q1; subst e1; have Q1 := Aside0.mk q1; have hc1 := HCk.out.no q2; obtain ⟨⟨k0, k0f⟩, ⟨k1, k1f⟩, k2, k2f⟩ := Chks.cells1 hc1.ch (by rw [HK.out]) HK.out (Fr.refl _ _); have HC1 := Aside0.mk hc1; have Q2 := Aside0.mk q2; clear q1 q2 hc1)))
          go_roundw
          case rel =>
            obtain ⟨g1, g2⟩ := Chks.grow (t1 := i + 1) (b1 := b ++ docB x) HC1.out.ch (by rw [HK.out]) (by have h := G4.out; rw [← nums_append] at h; exact Acc.of h) G5.out G6.out
            rw [HK.out] at g1
            rw [HK.out] at g2
            refine ⟨i + 1, P ++ [(_, Chk.mk f (i + 1) (b ++ docB x))], by simp, ?_, by omega, ⟨cut_more (by rw [HNB.out]; exact hb256) HP.out HOK.out HLX.out HC1.out g1 (acc (acc HC1.out.bel (Nat.le_refl _) G5.out (fun k hk => (Win.at_ (HC1.out.ch.part (Value.slice Au nb cu, Chk.mk f t b) (by simp)) hk).1)) (Nat.le_refl _) g2 (fun k hk => by obtain rfl := At.eq hk; exact (Win.at_ HC1.out.ch.hdr (rb_slice _ _ _ (by omega))).1))⟩⟩
            rw [List.map_append]
            show _ = Value.bool (fullC (P.map Prod.snd ++ [Chk.mk f (i + 1) (b ++ docB x)]))
            rw [fullC_last]
            have := HNB.out
            simp
            omega
          case measure => simp [intOf]; omega
      · have HFB := Aside0.mk (show Calls Try.prog 115 #[.slice Ai ni ci] wr fun e W' => e = .returned (.tuple #[.slice none 0 0, .bool false]) ∧ Fr No wr W' from HF.out.mono (by
          rintro e W' ⟨⟨h0, _⟩ | ⟨_, h1⟩, h3⟩
          · exact absurd h0 hok
          · exact ⟨h1, h3⟩))
        have HR := Aside0.mk (HBE.out i x HP.out (by simpa using hok))
        clear hok HF HLN
        go_wp2_with (first | (go_at_call 115; go_must (refine HFB.out.mono ?_; rintro e' w1 ⟨rfl, q2⟩; have Q2 := Aside0.mk q2; clear q2)))
        go_ret2
        exact ⟨.inr ⟨HR.out, rfl⟩, Fr.of_No (accNo HC.out.bel (Nat.le_refl _) Q2.out)⟩
    · obtain rfl : n = i := by omega
      have HE := Aside0.mk (show okDs d = true from by
        unfold okDs
        rw [Bool.and_eq_true, decide_eq_true_eq, List.all_eq_true]
        have h := HC.out.ok
        exact ⟨by rw [HDL.out]; omega, fun e he => h e (by rw [List.take_of_length_le (by have := HDL.out; omega)]; exact he)⟩)
      go_wp2_with fail
      go_ret2
      exact ⟨.inl ⟨HE.out, _, C, rfl, by rw [HDL.out]; exact HC.out⟩, Fr.of_No HC.out.bel⟩
end Go.Proofs.Ytchcimkmjoegdaa.C
