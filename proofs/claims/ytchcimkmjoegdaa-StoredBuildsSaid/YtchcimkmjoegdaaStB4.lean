/- The states of Open's two loops: sizes read, blocks read. Conditions: as each theorem states. | The frame's plain law: what was sealed is opened again, what is opened is sealed in the same bytes. No program here. Conditions: bytes are 0 to 255. | Chapter 4's awake (55) is true, in memory of its own. Conditions: none. | Stored documents: the data, how they lie in memory; form's closure (120). Conditions: as each theorem states. | stored.form (115). Conditions: as the theorem states. | Stored chunks: the pure cutting, chunks in memory. Conditions: as each theorem states. (Several texts of mine laid into one by prune.py.) -/
import Derived.Test.YtchcimkmjoegdaaStB3
namespace Go.Proofs.Ytchcimkmjoegdaa.C
open Go.RowKit Go.Proofs.YtchcimkmjoegdaaW.PrintWords Go.Proofs.YtchcimkmjoegdaaW.PrintMore Go.Proofs.Ytchcimkmjoegdaa.M
set_option linter.unusedVariables false
set_option linter.unusedSimpArgs false

theorem rS_max {ys : List Int} {i : Nat} {e m : Int} (hm : 0 ≤ m) : ((rS ys i e m).1 : Int) ≤ m := by
  unfold rS
  split
  · split
    · exact hm
    · split
      · assumption
      · exact hm
  · exact hm
theorem info3 : (Try.prog.info? 3).map (fun i => (i.zero, i.size, i.bytes)) = some (some (.int .i64 0), 1, 8) := by kernel_rfl
theorem info22 : (Try.prog.info? 22).map (fun i => (i.zero, i.size, i.bytes)) = some (some (.slice none 0 0), 1, 24) := by kernel_rfl
theorem lit_winT (w : World) (t : TypeId) (xs : List Value) (hx : xs.length ≤ 1048576) : Win (w.alloc (.cells xs.toArray t)) w.heap.size t 1 (.slice (some ⟨w.heap.size, 0, none⟩) xs.length xs.length) xs.length xs :=
  ⟨by rw [Nat.mul_one], .inr ⟨w.heap.size, 0, xs.length, _, rfl, Nat.le_refl _, heap_alloc_new w _, Nat.le_refl _, by simp only [maxLen]; omega, by simp, by simp⟩⟩
theorem make_ints (W : World) (K : Nat) (hK : K ≤ 1048576) : (Instr.makeSlice 99 (.int .i64 (K : Int)) (.int .i64 (K : Int))).run Try.prog W = .ok (.slice (some ⟨W.heap.size, 0, none⟩) K K) (W.alloc (.cells (nums .i64 (List.replicate K 0)).toArray 3)) := by
  obtain ⟨i0, hi, hz, hs, hb⟩ := info_parts info3
  have h := run_makeSlice (P := Try.prog) W 99 3 i0 (.int .i64 0) Try.underlying99 hi hz .i64 .i64 K K (by omega) (Int.le_refl _) (by rw [hs]; simp; omega) (by rw [hb]; omega) (by omega)
  rw [hs, Nat.mul_one, Int.toNat_natCast] at h
  rw [h]
  have e : madeCells (Value.cells (.int .i64 0)) K = (nums .i64 (List.replicate K 0)).toArray := by
    apply Array.ext
    · simp [madeCells, nums]
    · intro j h1 h2
      simp [madeCells, nums, Value.cells, Nat.mod_one]
  rw [e]
theorem szN_len (ys : List Int) (m : Int) (p : Nat × Int) : ∀ j, (szN ys m p j).1.length = j
  | 0 => rfl
  | j + 1 => by rw [szN, List.length_append, szN_len ys m p j]; rfl
theorem szN_max (ys : List Int) (m : Int) (p : Nat × Int) (hm : 0 ≤ m) : ∀ j, ∀ x ∈ (szN ys m p j).1, (x : Int) ≤ m
  | 0, x, hx => nomatch hx
  | j + 1, x, hx => by
    rw [szN] at hx
    rcases List.mem_append.1 hx with hx | hx
    · exact szN_max ys m p hm j x hx
    · simp only [List.mem_cons, List.mem_nil_iff, or_false] at hx
      subst hx
      exact rS_max hm
theorem innerF_eq {ys : List Int} {K i3 : Nat} {p1 p2 : Nat × Int} {z : List Nat} {e3 : Int} {L : List (List Int)} (h1 : rS ys 0 0 1024 = (K, p1)) (h2 : szN ys 16777216 p1 K = (z, p2)) (h3 : blN ys p2 z K = (L, i3, e3)) :
    innerF ys = if rE ys i3 e3 = 0 then (L, 0) else ([], 20) := by
  unfold innerF
  simp only [h1, h2, h3]
/-- A reader's predicate: whose block it is, and what leaves it alone. -/
structure RdP (g : Nat) (R : World → Nat → Int → Prop) : Prop where
  fr : ∀ {S : Nat → Prop} {W W' : World} {i : Nat} {e : Int}, R W i e → Fr S W W' → ¬ S g → (∀ k cur, S k → W.heap[k]? ≠ some (.cells cur 5 (0, 0))) → R W' i e
  ty : ∀ {W : World} {i : Nat} {e : Int}, R W i e → ∃ cur t, W.heap[g]? = some (.cells cur t (0, 0)) ∧ t ≠ 5 ∧ t ≠ 22 ∧ t ≠ 3
theorem rdP_cod (base g : Nat) (ys : List Int) : RdP g (fun W i e => Rdr W base g ys i e) :=
  ⟨fun h f hg hS => h.fr f hg hS, fun h => by
    obtain ⟨_, _, v, h3, _⟩ := h
    exact ⟨_, _, h3, by decide, by decide, by decide⟩⟩
theorem rdP_mod (g : Nat) (v : Value) : RdP g (fun W i e => W.heap[g]? = some (.cells #[v, .int .i64 (i : Nat), .int .i64 e] 67 (0, 0))) :=
  ⟨fun h f hg _ => f.get h hg, fun h => ⟨_, _, h, by decide, by decide, by decide⟩⟩
/-- A window whose type is not a block's. -/
theorem win_not_at {w : World} {base size n t e : Nat} {v : Value} {xs : List Value} {cur : Array Value} {g : Nat} (h : Win w base e size v n xs) (hg : w.heap[g]? = some (.cells cur t (0, 0))) (ht : t ≠ e) : ¬ At v g := fun hk => ht (h.ne_type hk hg).symm
section
variable {g base : Nat} {R : World → Nat → Int → Prop} {w W W1 W2 : World}
/-- Behind j sizes, laid into a slice that was made. -/
structure SzSt (R : World → Nat → Int → Prop) (base : Nat) (gs K : Nat) (ys : List Int) (m : Int) (p : Nat × Int) (w W : World) (j : Nat) : Prop where
  rd : R W (szN ys m p j).2.1 (szN ys m p j).2.2
  sz : Win W base 3 1 (.slice (some ⟨gs, 0, none⟩) K K) K (nums .i64 ((szN ys m p j).1.map Int.ofNat ++ List.replicate (K - j) 0))
  bel : Below base w W
theorem SzSt.step (P : RdP g R) (hg : base ≤ g) (hw : base ≤ w.heap.size) {gs K j : Nat} {ys : List Int} {m : Int} {p : Nat × Int} (h : SzSt R base gs K ys m p w W j) (hj : j < K) (f1 : Fr (One g) W W1) (hr : R W1 (rS ys (szN ys m p j).2.1 (szN ys m p j).2.2 m).2.1 (rS ys (szN ys m p j).2.1 (szN ys m p j).2.2 m).2.2) :
    W1.cell? ⟨gs, j, none⟩ = some (.int .i64 0) ∧ W1.frozen? ⟨gs, j, none⟩ = false ∧ SzSt R base gs K ys m p w (W1.setCell ⟨gs, j, none⟩ (.int .i64 ((rS ys (szN ys m p j).2.1 (szN ys m p j).2.2 m).1 : Nat))) (j + 1) := by
  obtain ⟨cur, t, hb, ht5, ht22, ht3⟩ := P.ty h.rd
  have hsz := h.sz.fr f1 (fun k hk hS => win_not_at h.sz hb ht3 (by have : k = g := hS; subst this; exact hk))
  obtain ⟨cur1, t1, hb1, ht51, _, ht31⟩ := P.ty hr
  have hx : (nums .i64 ((szN ys m p j).1.map Int.ofNat ++ List.replicate (K - j) 0))[j]? = some (.int .i64 0) := by
    unfold nums
    rw [List.getElem?_map, List.getElem?_append_right (by rw [List.length_map, szN_len]; exact Nat.le_refl _), List.length_map, szN_len, Nat.sub_self]
    have : 0 < K - j := by omega
    simp [List.getElem?_replicate, this]
  obtain ⟨c1, c2⟩ := hsz.cell hx
  rw [Nat.zero_add] at c1 c2
  obtain ⟨s1, s2⟩ := hsz.store j hj (.int .i64 ((rS ys (szN ys m p j).2.1 (szN ys m p j).2.2 m).1 : Nat))
  rw [Nat.zero_add] at s1 s2
  refine ⟨c1, c2, P.fr hr s2 (win_not_at hsz hb1 ht31) (fun k cur hk hc => by have := hsz.ne_type hk hc; exact absurd this (by decide)), ?_, ?_⟩
  · have e : (nums .i64 ((szN ys m p j).1.map Int.ofNat ++ List.replicate (K - j) 0)).set j (.int .i64 ((rS ys (szN ys m p j).2.1 (szN ys m p j).2.2 m).1 : Nat)) = nums .i64 ((szN ys m p (j + 1)).1.map Int.ofNat ++ List.replicate (K - (j + 1)) 0) := by
      have hl := szN_len ys m p j
      rw [szN]
      generalize (szN ys m p j).1 = l at hl
      generalize (rS ys (szN ys m p j).2.1 (szN ys m p j).2.2 m).1 = x
      subst hl
      rw [show K - l.length = (K - (l.length + 1)) + 1 from by omega, List.replicate_succ]
      simp [nums, List.set_append_right]
    rw [← e]
    exact s1
  · exact acc (acc h.bel hw f1 (fun i hi => by have : i = g := hi; omega)) hw s2 (fun i hi => (hsz.at_ hi).1)
/-- Behind j blocks. -/
structure BlSt (R : World → Nat → Int → Prop) (base : Nat) (vs : Value) (ys : List Int) (z : List Nat) (p : Nat × Int) (w W : World) (v : Value) (B : List (Value × List Int)) (j : Nat) : Prop where
  rd : R W (blN ys p z j).2.1 (blN ys p z j).2.2
  sz : Win W base 3 1 vs z.length (nums .i64 (z.map Int.ofNat))
  bl : Blks W base v B
  eq : B.map Prod.snd = (blN ys p z j).1
  bel : Below base w W
theorem BlSt.hdr1 (P : RdP g R) {j : Nat} {ys : List Int} {z : List Nat} {p : Nat × Int} {vs v : Value} {B : List (Value × List Int)} (h : BlSt R base vs ys z p w W v B j) (hj : B.length = j) (f1 : Fr (One g) W W1) : Win W1 base 22 1 v j (B.map Prod.fst) := by
  obtain ⟨cur, t, hb, _, ht, _⟩ := P.ty h.rd
  have h := h.bl.hdr
  rw [hj] at h
  exact h.fr f1 (fun k hk hS => win_not_at h hb ht (by have : k = g := hS; subst this; exact hk))
theorem BlSt.step (P : RdP g R) (hg : base ≤ g) (hw : base ≤ w.heap.size) {j len : Nat} {ys : List Int} {z : List Nat} {p : Nat × Int} {vs v v' x : Value} {B : List (Value × List Int)} (h : BlSt R base vs ys z p w W v B j) (f1 : Fr (One g) W W1)
    (hr : R W1 (rB ys (blN ys p z j).2.1 (blN ys p z j).2.2 (z.getD j 0 : Nat)).2.1 (rB ys (blN ys p z j).2.1 (blN ys p z j).2.2 (z.getD j 0 : Nat)).2.2)
    (hx : Win W1 W.heap.size 5 1 x len (nums .u8 (rB ys (blN ys p z j).2.1 (blN ys p z j).2.2 (z.getD j 0 : Nat)).1))
    (hv : Win W2 base 22 1 v' (B.length + 1) (B.map Prod.fst ++ [x])) (f2 : Fr (At v) W1 W2) :
    BlSt R base vs ys z p w W2 v' (B ++ [(x, (rB ys (blN ys p z j).2.1 (blN ys p z j).2.2 (z.getD j 0 : Nat)).1)]) (j + 1) := by
  obtain ⟨cur, t, hb, ht5, ht22, ht3⟩ := P.ty h.rd
  obtain ⟨cur1, t1, hb1, ht51, ht221, ht31⟩ := P.ty hr
  have one : ∀ {e n : Nat} {u : Value} {xs : List Value}, Win W base e 1 u n xs → t ≠ e → Win W1 base e 1 u n xs := fun hu he => hu.fr f1 (fun k hk hS => win_not_at hu hb he (by have : k = g := hS; subst this; exact hk))
  have hdr1 := one h.bl.hdr ht22
  have two : ∀ {b e n : Nat} {u : Value} {xs : List Value}, Win W1 b e 1 u n xs → e ≠ 22 → Win W2 b e 1 u n xs := fun hu he => hu.fr f2 (fun k hk hS => by
    obtain ⟨_, _, c1, hc1⟩ := hdr1.at_ hS
    exact he (hu.ne_type hk hc1))
  have hbW : base ≤ W.heap.size := Nat.le_trans hw h.bel.size
  refine ⟨P.fr hr f2 (win_not_at hdr1 hb1 ht221) (fun k c hk hc => absurd (hdr1.ne_type hk hc) (by decide)), two (one h.sz ht3) (by decide), ⟨?_, fun q hq => ?_, fun i i' q q' k hne hi hi' hk hk' => ?_⟩, ?_, ?_⟩
  · rw [List.map_append, List.length_append]
    exact hv
  · rcases List.mem_append.1 hq with hq | hq
    · exact two (one (h.bl.win q hq) ht5) (by decide)
    · simp only [List.mem_cons, List.mem_nil_iff, or_false] at hq
      subst hq
      exact Acc.of ((two hx (by decide)).lower hbW)
  · have old : ∀ {i : Nat} {q : Value × List Int}, i < B.length → (B ++ [(x, (rB ys (blN ys p z j).2.1 (blN ys p z j).2.2 (z.getD j 0 : Nat)).1)])[i]? = some q → B[i]? = some q := fun hi hq => by rwa [List.getElem?_append_left hi] at hq
    have new : ∀ {i : Nat} {q : Value × List Int}, ¬ i < B.length → (B ++ [(x, (rB ys (blN ys p z j).2.1 (blN ys p z j).2.2 (z.getD j 0 : Nat)).1)])[i]? = some q → q.1 = x ∧ i = B.length := fun {i q} hi hq => by
      have := (List.getElem?_eq_some_iff.1 hq).1
      rw [List.length_append] at this
      simp at this
      obtain rfl : i = B.length := by omega
      simp at hq
      exact ⟨by rw [← hq], rfl⟩
    by_cases hl : i < B.length
    · have q1 := old hl hi
      by_cases hl' : i' < B.length
      · exact h.bl.sep i i' q q' k hne q1 (old hl' hi') hk hk'
      · obtain ⟨e1, _⟩ := new hl' hi'
        rw [e1] at hk'
        have a1 := ((h.bl.win q (List.mem_of_getElem? q1)).at_ hk).2.1
        have a2 := (hx.at_ hk').1
        omega
    · obtain ⟨e1, e2⟩ := new hl hi
      by_cases hl' : i' < B.length
      · rw [e1] at hk
        have a1 := ((h.bl.win q' (List.mem_of_getElem? (old hl' hi'))).at_ hk').2.1
        have a2 := (hx.at_ hk).1
        omega
      · obtain ⟨_, e3⟩ := new hl' hi'
        exact hne (e2.trans e3.symm)
  · rw [List.map_append, h.eq]
    rfl
  · exact acc (acc h.bel hw f1 (fun i hi => by have : i = g := hi; omega)) hw f2 (fun i hi => (hdr1.at_ hi).1)
end
end Go.Proofs.Ytchcimkmjoegdaa.C
namespace Go.Proofs.Ytchcimkmjoegdaa.C
open Go.RowKit Go.Proofs.YtchcimkmjoegdaaW.PrintWords Go.Proofs.YtchcimkmjoegdaaW.PrintMore Go.Proofs.Ytchcimkmjoegdaa.M
set_option linter.unusedVariables false

theorem rS_full (pre post : List Int) (u : Nat) (m : Int) (h : u < M64) (hm : (u : Int) ≤ m) : rS (pre ++ uenc u ++ post) pre.length 0 m = (u, pre.length + (uenc u).length, 0) := by
  rw [rS, if_pos rfl, List.append_assoc, List.drop_left, num_uenc u post h]
  simp only
  rw [if_pos hm]
theorem rB_full (pre post s : List Int) : rB (pre ++ s ++ post) pre.length 0 (s.length : Nat) = (s, pre.length + s.length, 0) := by
  rw [rB, if_pos rfl, if_pos ⟨by omega, by simp only [List.length_append]; omega⟩, List.append_assoc, List.drop_left, Int.toNat_natCast, List.take_left]
/-- The lengths' forms. -/
def lens (S : List (List Int)) : List Int := S.flatMap fun s => uenc s.length
theorem lens_take {S : List (List Int)} {i : Nat} {s : List Int} (h : S[i]? = some s) : lens (S.take (i + 1)) = lens (S.take i) ++ uenc s.length := flat_take _ h
theorem szN_fwd (S : List (List Int)) (hl : ∀ s ∈ S, s.length ≤ 16777216) (post : List Int) : ∀ j, j ≤ S.length → szN (uenc S.length ++ lens S ++ post) 16777216 ((uenc S.length).length, 0) j = ((S.take j).map List.length, (uenc S.length).length + (lens (S.take j)).length, 0)
  | 0, _ => by simp [szN, lens]
  | j + 1, h => by
    obtain ⟨s, hs⟩ : ∃ s, S[j]? = some s := ⟨_, List.getElem?_eq_getElem h⟩
    have hsp : lens S = lens (S.take j) ++ uenc s.length ++ lens (S.drop (j + 1)) := flat_split _ hs
    have hsl := hl s (List.mem_of_getElem? hs)
    have hr := rS_full (uenc S.length ++ lens (S.take j)) (lens (S.drop (j + 1)) ++ post) s.length 16777216 (by rw [M64_eq]; omega) (by omega)
    have he : uenc S.length ++ lens (S.take j) ++ uenc s.length ++ (lens (S.drop (j + 1)) ++ post) = uenc S.length ++ lens S ++ post := by rw [hsp]; simp only [List.append_assoc]
    rw [he, List.length_append] at hr
    rw [szN, szN_fwd S hl post j (by omega)]
    simp only [hr]
    rw [lens_take hs, List.take_add_one, hs]
    simp [Nat.add_assoc]
theorem blN_fwd (S : List (List Int)) (pre : List Int) : ∀ j, j ≤ S.length → blN (pre ++ S.flatten) (pre.length, 0) (S.map List.length) j = (S.take j, pre.length + (S.take j).flatten.length, 0)
  | 0, _ => by simp [blN]
  | j + 1, h => by
    obtain ⟨s, hs⟩ : ∃ s, S[j]? = some s := ⟨_, List.getElem?_eq_getElem h⟩
    have hsp : S.flatten = (S.take j).flatten ++ s ++ (S.drop (j + 1)).flatten := by
      have h1 := flat_split (fun s : List Int => s) hs
      simpa [List.flatMap_id'] using h1
    have hr := rB_full (pre ++ (S.take j).flatten) (S.drop (j + 1)).flatten s
    have he : pre ++ (S.take j).flatten ++ s ++ (S.drop (j + 1)).flatten = pre ++ S.flatten := by rw [hsp]; simp only [List.append_assoc]
    rw [he, List.length_append] at hr
    have hg : (S.map List.length).getD j 0 = s.length := by rw [List.getD_eq_getElem?_getD, List.getElem?_map, hs]; rfl
    rw [blN, blN_fwd S pre j (by omega)]
    simp only [hg, hr]
    rw [List.take_add_one, hs]
    simp [Nat.add_assoc]
theorem inner_fwd (S : List (List Int)) (hN : S.length ≤ 1024) (hl : ∀ s ∈ S, s.length ≤ 16777216) : innerF (uenc S.length ++ lens S ++ S.flatten) = (S, 0) := by
  have h1 : rS (uenc S.length ++ lens S ++ S.flatten) 0 0 1024 = (S.length, (uenc S.length).length, 0) := by
    have := rS_full [] (lens S ++ S.flatten) S.length 1024 (by rw [M64_eq]; omega) (by omega)
    simpa using this
  have h2 := szN_fwd S hl S.flatten S.length (Nat.le_refl _)
  rw [List.take_length] at h2
  have h3 := blN_fwd S (uenc S.length ++ lens S) S.length (Nat.le_refl _)
  rw [List.take_length, List.length_append] at h3
  rw [innerF_eq h1 h2 h3, if_pos]
  unfold rE
  rw [if_neg]
  simp only [List.length_append]
  omega
theorem body_split (k : Int) (S : List (List Int)) : bodyS k S = [76, 84, 1, k] ++ (uenc S.length ++ lens S ++ S.flatten) := by
  unfold bodyS hd lens
  rw [List.take_length]
  simp only [List.append_assoc]
theorem mem_len_le {S : List (List Int)} {s : List Int} (h : s ∈ S) : s.length ≤ S.flatten.length := by
  obtain ⟨i, hi⟩ := List.getElem?_of_mem h
  have := take_flatten_len S (i + 1)
  rw [take_flatten_succ hi, List.length_append] at this
  omega
theorem rS_inv {xs : List Int} {i : Nat} {e m : Int} (hb : Byt xs) (h : (rS xs i e m).2.2 = 0) : e = 0 ∧ xs.take (rS xs i e m).2.1 = xs.take i ++ uenc (rS xs i e m).1 := by
  unfold rS at h ⊢
  by_cases he : e = 0
  · subst he
    simp only [if_true] at h ⊢
    rcases hq : num (xs.drop i) with _ | ⟨u, n⟩
    · rw [hq] at h
      exact absurd (show (20 : Int) = 0 from h) (by decide)
    · rw [hq] at h
      simp only at h ⊢
      by_cases hm : (u : Int) ≤ m
      · rw [if_pos hm]
        refine ⟨trivial, ?_⟩
        rw [num_enc (fun x hx => hb x (List.mem_of_mem_drop hx)) hq]
        exact List.take_add
      · rw [if_neg hm] at h
        exact absurd (show (20 : Int) = 0 from h) (by decide)
  · rw [if_neg he] at h
    exact absurd h he
theorem rB_inv {xs : List Int} {i z : Nat} {e : Int} (h : (rB xs i e (z : Nat)).2.2 = 0) : e = 0 ∧ xs.take (rB xs i e (z : Nat)).2.1 = xs.take i ++ (rB xs i e (z : Nat)).1 ∧ (rB xs i e (z : Nat)).1.length = z := by
  unfold rB at h ⊢
  by_cases he : e = 0
  · subst he
    simp only [if_true] at h ⊢
    by_cases hm : (0 : Int) ≤ (z : Int) ∧ (i : Int) + (z : Int) ≤ xs.length
    · rw [if_pos hm, Int.toNat_natCast]
      refine ⟨trivial, List.take_add, ?_⟩
      simp only [List.length_take, List.length_drop]
      omega
    · rw [if_neg hm] at h
      exact absurd (show (20 : Int) = 0 from h) (by decide)
  · rw [if_neg he] at h
    exact absurd h he
theorem szN_inv {ys : List Int} {m : Int} {p : Nat × Int} (hb : Byt ys) : ∀ j, (szN ys m p j).2.2 = 0 → p.2 = 0 ∧ ys.take (szN ys m p j).2.1 = ys.take p.1 ++ (szN ys m p j).1.flatMap fun n => uenc n
  | 0, h => ⟨h, by simp [szN]⟩
  | j + 1, h => by
    rw [szN] at h ⊢
    obtain ⟨h1, h2⟩ := rS_inv hb h
    obtain ⟨h3, h4⟩ := szN_inv hb j h1
    refine ⟨h3, ?_⟩
    simp only
    rw [h2, h4, List.flatMap_append]
    simp
theorem blN_inv {ys : List Int} {z : List Nat} {p : Nat × Int} : ∀ j, j ≤ z.length → (blN ys p z j).2.2 = 0 → p.2 = 0 ∧ ys.take (blN ys p z j).2.1 = ys.take p.1 ++ (blN ys p z j).1.flatten ∧ (blN ys p z j).1.map List.length = z.take j
  | 0, _, h => ⟨h, by simp [blN], by simp [blN]⟩
  | j + 1, hj, h => by
    rw [blN] at h ⊢
    obtain ⟨h1, h2, h5⟩ := rB_inv h
    obtain ⟨h3, h4, h6⟩ := blN_inv j (by omega) h1
    refine ⟨h3, ?_, ?_⟩
    · simp only
      rw [h2, h4]
      simp
    · simp only
      rw [List.map_append, h6, List.take_add_one, List.getElem?_eq_getElem (show j < z.length by omega)]
      simp only [List.map_cons, List.map_nil, h5]
      rw [List.getD_eq_getElem?_getD, List.getElem?_eq_getElem (show j < z.length by omega)]
      rfl
theorem inner_inv {ys : List Int} {L : List (List Int)} (hb : Byt ys) (h : innerF ys = (L, 0)) : ys = uenc L.length ++ lens L ++ L.flatten ∧ L.length ≤ 1024 := by
  rcases h1 : rS ys 0 0 1024 with ⟨K, i1, e1⟩
  rcases h2 : szN ys 16777216 (i1, e1) K with ⟨z, i2, e2⟩
  rcases h3 : blN ys (i2, e2) z K with ⟨L', i3, e3⟩
  rw [innerF_eq h1 h2 h3] at h
  split at h
  · rename_i h0
    have hL : L' = L := (Prod.mk.inj h).1
    subst hL
    have hzl : z.length = K := by have := szN_len ys 16777216 (i1, e1) K; rw [h2] at this; exact this
    have he3 : e3 = 0 ∧ ys.length ≤ i3 := by
      unfold rE at h0
      split at h0
      · exact absurd h0 (by decide)
      · rename_i hc
        subst h0
        exact ⟨rfl, Nat.le_of_not_lt fun h => hc ⟨rfl, h⟩⟩
    obtain ⟨rfl, hi3⟩ := he3
    obtain ⟨b1, b2, b3⟩ := blN_inv (ys := ys) (z := z) (p := (i2, e2)) K (by omega) (by rw [h3])
    rw [h3] at b2 b3
    obtain ⟨s1, s2⟩ := szN_inv (ys := ys) (m := 16777216) (p := (i1, e1)) hb K (by rw [h2]; exact b1)
    rw [h2] at s2
    obtain ⟨r1, r2⟩ := rS_inv (xs := ys) (i := 0) (e := 0) (m := 1024) hb (by rw [h1]; exact s1)
    rw [h1] at r2
    simp only [List.take_zero, List.nil_append] at b2 s2 r2 b3
    rw [List.take_of_length_le hi3, s2, r2] at b2
    have hKL : L'.length = K := by have := congrArg List.length b3; rw [List.length_map, List.length_take] at this; omega
    rw [List.take_of_length_le (by omega)] at b3
    have hz : (z.flatMap fun n => uenc n) = lens L' := by rw [← b3]; unfold lens; rw [List.flatMap_map]
    rw [hz, ← hKL] at b2
    refine ⟨b2, ?_⟩
    have := rS_max (ys := ys) (i := 0) (e := 0) (m := 1024) (by decide)
    rw [h1] at this
    simp only at this
    omega
  · exact absurd (Prod.mk.inj h).2 (by decide)
end Go.Proofs.Ytchcimkmjoegdaa.C
namespace Go.Proofs.Ytchcimkmjoegdaa.C
open Go.RowKit Go.Proofs.YtchcimkmjoegdaaW.PrintWords Go.Proofs.YtchcimkmjoegdaaW.PrintMore Go.Proofs.Ytchcimkmjoegdaa.M
set_option linter.unusedVariables false
set_option linter.unusedSimpArgs false

theorem rdv_lit_at (w : World) (t : TypeId) (xs : List Value) {g : Nat} (h : g = w.heap.size) : RdV (w.alloc (.cells xs.toArray t)) (some ⟨g, 0, none⟩) xs := by
  subst h
  exact fun _ => ⟨_, rfl, by simpa using World.news_of_block (cs := xs.toArray) (t := t) (fr := (0, 0)) (heap_alloc_new w (.cells xs.toArray t))⟩
theorem rd_row_at (w : World) (k : IntKind) (t : TypeId) (xs : List Int) (fr : Nat × Nat) {g : Nat} (h : g = w.heap.size) : RdV (w.alloc (.cells (nums k xs).toArray t fr)) (some ⟨g, 0, none⟩) (nums k xs) := by
  subst h
  exact rd_row w k t xs fr
def AwS : List (List Int) := [[5, 6], [], [7]]
def AwC : List Int := [76, 84, 1, 1, 3, 2, 0, 1, 5, 6, 7]
def b9 : List Int := [49, 50, 51, 52, 53, 54, 55, 56, 57]
theorem aw_body : bodyS 1 AwS = AwC := by
  rw [body_split]
  show [76, 84, 1, 1] ++ (uenc 3 ++ (uenc 2 ++ (uenc 0 ++ (uenc 1 ++ []))) ++ [5, 6, 7]) = AwC
  rw [uenc_small (by decide), uenc_small (by decide), uenc_small (by decide), uenc_small (by decide)]
  rfl
theorem byt_dec {l : List Int} (h : l.all (fun x => decide (0 ≤ x) && decide (x ≤ 255)) = true) : Byt l := fun x hx => by
  have := List.all_eq_true.1 h x hx
  simpa using this
theorem aw_bytC : Byt AwC := byt_dec (by decide)
theorem aw_len {B : List (Value × List Int)} (h : AwS = B.map Prod.snd) : B.length = 3 := by have := congrArg List.length h; rw [List.length_map] at this; exact this.symm
theorem aw_small {B : List (Value × List Int)} (h : AwS = B.map Prod.snd) : ∀ p ∈ B, p.2.length ≤ 140737488355328 ∧ Byt p.2 := fun p hp => by
  have hm : p.2 ∈ AwS := by rw [h]; exact List.mem_map.2 ⟨p, hp, rfl⟩
  simp only [AwS, List.mem_cons, List.mem_nil_iff, or_false] at hm
  rcases hm with e | e | e <;> rw [e] <;> exact ⟨by decide, byt_dec (by decide)⟩
theorem Blks.below {w w' : World} {base : Nat} {v : Value} {B : List (Value × List Int)} (h : Blks w base v B) (hb : Below w.heap.size w w') : Blks w' base v B := ⟨h.hdr.below hb, fun p hp => (h.win p hp).below hb, h.sep⟩
theorem fr3 (w : World) (a b c : Obj) : Fr No w (((w.alloc a).alloc b).alloc c) := Fr.of_No (accAlloc (accAlloc (accAlloc (Below.refl _ _) (Nat.le_refl _) a) (Nat.le_refl _) b) (Nat.le_refl _) c)
theorem frt {a b c : World} (h : Fr No a b) (k : Fr No b c) : Fr No a c := h.trans k (fun _ _ h => h) (fun _ _ h => h)
end Go.Proofs.Ytchcimkmjoegdaa.C
namespace Go.Proofs.Ytchcimkmjoegdaa.C
open Go.RowKit Go.Proofs.YtchcimkmjoegdaaW.PrintWords Go.Proofs.YtchcimkmjoegdaaW.PrintMore Go.Proofs.Ytchcimkmjoegdaa.M
set_option linter.unusedVariables false
set_option linter.unusedSimpArgs false

/-- An entry: its field, its text, its numbers. -/
structure Ent where
  f : ByteArray
  t : ByteArray
  ns : List Int
def txtB (s : ByteArray) : List Int := uenc s.size ++ bytesOf s
def numB (ns : List Int) : List Int := ns.flatMap fun q => uenc (Lib.zigzag q)
/-- An entry's form. -/
def entB (e : Ent) : List Int := txtB e.f ++ txtB e.t ++ uenc e.ns.length ++ numB e.ns
def docB (d : List Ent) : List Int := uenc d.length ++ d.flatMap entB
def okE (e : Ent) : Bool := decide (e.f.size ≤ 24) && decide (e.t.size ≤ 4096) && decide (e.ns.length ≤ 4)
def okD (d : List Ent) : Bool := decide (d.length ≤ 64) && d.all okE
theorem okE_iff {e : Ent} : okE e = true ↔ e.f.size ≤ 24 ∧ e.t.size ≤ 4096 ∧ e.ns.length ≤ 4 := by
  unfold okE
  simp only [Bool.and_eq_true, decide_eq_true_eq]
  exact ⟨fun ⟨⟨a, b⟩, c⟩ => ⟨a, b, c⟩, fun ⟨a, b, c⟩ => ⟨⟨a, b⟩, c⟩⟩
/-- An entry's cells: p.1 is the value of its numbers' slice. -/
def entCells (p : Value × Ent) : List Value := [.string p.2.f, .string p.2.t, p.1]
def I64 (ns : List Int) : Prop := ∀ q ∈ ns, -9223372036854775808 ≤ q ∧ q ≤ 9223372036854775807
/-- An entry's parts are read. -/
def EntR (w : World) (p : Value × Ent) : Prop := ∃ A c, p.1 = .slice A p.2.ns.length c ∧ p.2.ns.length ≤ c ∧ RdV w A (nums .i64 p.2.ns) ∧ I64 p.2.ns ∧ p.2.ns.length ≤ 17592186043904 ∧ p.2.f.size ≤ 140737488351232 ∧ p.2.t.size ≤ 140737488351232
theorem EntR.below {w w' : World} {p : Value × Ent} (h : EntR w p) (hb : Below w.heap.size w w') : EntR w' p := by
  obtain ⟨A, c, h1, h2, h3, h4⟩ := h
  exact ⟨A, c, h1, h2, h3.below hb, h4⟩
/-- A document is read. -/
structure DocR (w : World) (A : Option Addr) (n c : Nat) (D : List (Value × Ent)) : Prop where
  hdr : RdV w A (D.flatMap entCells)
  len : D.length = n
  cap : n ≤ c
  max : n ≤ 2513169434845
  part : ∀ p ∈ D, EntR w p
theorem DocR.below {w w' : World} {A : Option Addr} {n c : Nat} {D : List (Value × Ent)} (h : DocR w A n c D) (hb : Below w.heap.size w w') : DocR w' A n c D := ⟨h.hdr.below hb, h.len, h.cap, h.max, fun p hp => (h.part p hp).below hb⟩
theorem entCells_get {D : List (Value × Ent)} {j k : Nat} {p : Value × Ent} (hp : D[j]? = some p) (hk : k < 3) : (D.flatMap entCells)[j * 3 + k]? = (entCells p)[k]? := by
  induction D generalizing j with
  | nil => simp at hp
  | cons x D ih =>
    rw [List.flatMap_cons]
    cases j with
    | zero =>
      obtain rfl := Option.some.inj hp
      rw [Nat.zero_mul, Nat.zero_add, List.getElem?_append_left (by show k < 3; exact hk)]
    | succ j =>
      rw [List.getElem?_append_right (by show 3 ≤ _; omega)]
      show (D.flatMap entCells)[(j + 1) * 3 + k - 3]? = _
      rw [show (j + 1) * 3 + k - 3 = j * 3 + k from by omega]
      exact ih hp
theorem add_off (ad : Addr) (i k : Nat) (hk : 0 < k) : ad.add (i + k) = ⟨(ad.add i).block, (ad.add i).off + k, none⟩ := by
  unfold Addr.add
  by_cases h1 : i = 0
  · subst h1
    simp [show ¬ (k = 0) by omega]
  · simp [h1, show ¬ (i + k = 0) by omega, Nat.add_assoc]
theorem ent_at {w : World} {A : Option Addr} {D : List (Value × Ent)} {j : Nat} {p : Value × Ent} (h : RdV w A (D.flatMap entCells)) (hp : D[j]? = some p) : ∃ ad, A = some ad ∧ w.cell? (ad.add (j * 3)) = some (.string p.2.f) ∧ w.cell? ⟨(ad.add (j * 3)).block, (ad.add (j * 3)).off + 1, none⟩ = some (.string p.2.t) ∧ w.cell? ⟨(ad.add (j * 3)).block, (ad.add (j * 3)).off + 2, none⟩ = some p.1 := by
  have h0 := entCells_get (k := 0) hp (by decide)
  have h1 := entCells_get (k := 1) hp (by decide)
  have h2 := entCells_get (k := 2) hp (by decide)
  obtain ⟨ad, e, hc⟩ := h (by intro h0'; rw [h0'] at h0; simp [entCells] at h0)
  refine ⟨ad, e, hc _ _ h0, ?_, ?_⟩
  · rw [← add_off _ _ _ (by decide)]
    exact hc _ _ h1
  · rw [← add_off _ _ _ (by decide)]
    exact hc _ _ h2
/-- A boxed list of bytes. -/
def BoxB (W : World) (base gb : Nat) (ys : List Int) : Prop := base ≤ gb ∧ ∃ v, W.heap[gb]? = some (.cells #[v] 22 (0, 0)) ∧ Acc W base v ys
theorem BoxB.below {W W' : World} {base gb : Nat} {ys : List Int} (h : BoxB W base gb ys) (hb : Below W.heap.size W W') : BoxB W' base gb ys := by
  obtain ⟨h1, v, h2, h3⟩ := h
  exact ⟨h1, v, (hb.block gb (blk_lt h2)).trans h2, h3.below hb⟩
set_option maxHeartbeats 1000000 in
theorem put_closure (W : World) (base gb : Nat) (ys : List Int) (A : Option Addr) (n c : Nat) (xs : List Int) (h : BoxB W base gb ys) (hB : base ≤ W.heap.size) (hr : RdV W A (nums .u8 xs)) (hl : xs.length = n) (hm : ys.length + n ≤ 140737488355328) :
    Calls Try.prog 120 #[.slice A n c, .pointer (some ⟨gb, 0, none⟩)] W fun e W' => (∃ r, e = .returned r) ∧ BoxB W' base gb (ys ++ xs) ∧ Below base W W' ∧ ∀ (k : Nat) (cs : Array Value), W.heap[k]? = some (Obj.cells cs 134 (0, 0)) → W'.heap[k]? = some (.cells cs 134 (0, 0)) := by
  obtain ⟨h1, v, h2, h3⟩ := h
  have hc : W.cell? ⟨gb, 0, none⟩ = some v := by simp [World.cell?, h2]
  obtain ⟨A0, c0, rfl, hc0⟩ := Win.shape h3
  have HS := Aside0.mk (Src.of_rd (P := Try.prog) (size := 1) (m := n) (c := c) hr (by simp [nums, hl]) (nums_one _ _))
  have HB := Aside0.mk (small_bound (n := ys.length + n) hm)
  have H2 := Aside0.mk h2
  have H3 := Aside0.mk h3
  have HL := Aside0.mk hB
  clear hr hl hm h2 h3 hB
  go_enter Try.func120, Try.ntmps120
  go_wp2_with (at_builtin; go_must (refine wpl_append W base rfl (.tmp 3) (.tmp 4) 22 22 5 (.int .u8 0) 1 1 (.slice 5) rfl Try.underlying22 Try.underlying22 (.inl ⟨_, rfl⟩) info5 rfl _ _ _ (.slice A n c) n (nums .u8 xs) rfl rfl H3.out HS.out HL.out HB.out.1 HB.out.2 ?_; intro v1 w1 g1 _ g3 _; obtain ⟨A1, c1, e1, l1⟩ := g1.shape; subst e1; have G1 := Aside0.mk g1; have G3 := Aside0.mk g3; have GB := Aside0.mk (g3.get H2.out (fun hk => by obtain ⟨_, _, cur, hcur⟩ := Win.at_ H3.out hk; rw [H2.out] at hcur; injection hcur with hcur; injection hcur with _ hcur; exact absurd hcur (by decide))); have hf1 : w1.frozen? ⟨gb, 0, none⟩ = false := (by simp [World.frozen?, GB.out]); have hc1 : w1.cell? ⟨gb, 0, none⟩ = some (.slice A0 ys.length c0) := (by simp [World.cell?, GB.out]); clear g1 g3))
  go_end0
  have hg : ∀ k, At (.slice A1 (ys.length + n) c1) k → k ≠ gb := fun k hk e => by
    obtain ⟨_, _, cur, hcur⟩ := Win.at_ G1.out hk
    rw [e, GB.out] at hcur
    injection hcur with hcur
    injection hcur with _ hcur
    exact absurd hcur (by decide)
  have hb1 : Below base W w1 := G3.out.below HL.out (fun k hk => (Win.at_ H3.out hk).1)
  refine ⟨⟨_, rfl⟩, ⟨h1, .slice A1 (ys.length + n) c1, by simp [World.setCell, Array.getElem?_modify, GB.out], ?_⟩, acc hb1 HL.out (Fr.setCell (S := One gb) w1 ⟨gb, 0, none⟩ _ rfl) (fun i hi => by have hi' : i = gb := hi; omega), ?_⟩
  rotate_left
  · intro k cs hk
    have hk1 := G3.out.get hk (fun hk' => by
      obtain ⟨_, _, cur, hcur⟩ := Win.at_ H3.out hk'
      rw [hk] at hcur
      injection hcur with hcur
      injection hcur with _ hcur
      exact absurd hcur (by decide))
    refine (Fr.setCell (S := One gb) w1 ⟨gb, 0, none⟩ _ rfl).get hk1 (fun e => ?_)
    have e' : k = gb := e
    rw [e', GB.out] at hk1
    injection hk1 with hk1
    injection hk1 with _ hk1
    exact absurd hk1 (by decide)
  refine Acc.of (n := ys.length + n) (Win.fr (S := One gb) (by rw [nums_append]; exact G1.out) (Fr.setCell (S := One gb) w1 ⟨gb, 0, none⟩ _ rfl) (fun k hk hi => hg k hk hi))
end Go.Proofs.Ytchcimkmjoegdaa.C
namespace Go.Proofs.Ytchcimkmjoegdaa.C
open Go.RowKit Go.Proofs.YtchcimkmjoegdaaW.PrintWords Go.Proofs.YtchcimkmjoegdaaW.PrintMore Go.Proofs.Ytchcimkmjoegdaa.M
set_option linter.unusedVariables false
set_option linter.unusedSimpArgs false

/-- A document's form up to its i-th entry. -/
def pfx (d : List Ent) (i : Nat) : List Int := uenc d.length ++ (d.take i).flatMap entB
theorem pfx_succ {d : List Ent} {i : Nat} {e : Ent} (h : d[i]? = some e) : pfx d (i + 1) = pfx d i ++ entB e := by
  unfold pfx
  rw [List.take_add_one, h]
  simp
theorem pfx_all {d : List Ent} {i : Nat} (h : d.length ≤ i) : pfx d i = docB d := by
  unfold pfx docB
  rw [List.take_of_length_le h]
theorem bytesOf_len (s : ByteArray) : (bytesOf s).length = s.size := by
  have h := congrArg List.length (strCells_nums s)
  rw [nums_length] at h
  rw [← h]
  simp [Lib.strCells]
theorem numB_len {ns : List Int} (h : I64 ns) : (numB ns).length ≤ 10 * ns.length := by
  have := flat_len (fun q : Int => uenc (Lib.zigzag q)) 10 ns (fun x hx => uenc_10 _ (by have := zig_64 x (h x hx).1 (h x hx).2; rwa [M64_eq] at this))
  unfold numB
  omega
theorem entB_len {e : Ent} (h : okE e = true) (hi : I64 e.ns) : (entB e).length ≤ 4190 := by
  obtain ⟨h1, h2, h3⟩ := okE_iff.1 h
  have a := uenc_10 e.f.size (by omega)
  have b := uenc_10 e.t.size (by omega)
  have c := uenc_10 e.ns.length (by omega)
  have d := numB_len hi
  unfold entB txtB
  simp only [List.length_append, bytesOf_len]
  omega
/-- form's state: the box, and what was there. -/
structure FormS (w W : World) (gb : Nat) (ys : List Int) : Prop where
  box : BoxB W w.heap.size gb ys
  bel : Below w.heap.size w W
theorem FormS.no {w W W' : World} {gb : Nat} {ys : List Int} (h : FormS w W gb ys) (hf : Fr No W W') : FormS w W' gb ys :=
  ⟨h.box.below hf.no, accNo h.bel (Nat.le_refl _) hf⟩
theorem FormS.put {w W : World} {gb : Nat} {ys xs : List Int} {v : Value} {b : Nat} (h : FormS w W gb ys) (q : Acc W b v xs) (hm : ys.length + xs.length ≤ 140737488355328) :
    Calls Try.prog 120 #[v, .pointer (some ⟨gb, 0, none⟩)] W fun e W' => (∃ r, e = .returned r) ∧ FormS w W' gb (ys ++ xs) ∧ ∀ (k : Nat) (cs : Array Value), W.heap[k]? = some (Obj.cells cs 134 (0, 0)) → W'.heap[k]? = some (.cells cs 134 (0, 0)) := by
  obtain ⟨A, c, rfl, hc⟩ := Win.shape q
  refine (put_closure W w.heap.size gb ys A xs.length c xs h.box h.bel.size (RdV.of_win q) rfl hm).mono ?_
  rintro e W' ⟨h1, h2, h3, h4⟩
  exact ⟨h1, ⟨h2, h.bel.trans h3⟩, h4⟩
theorem form_start (w : World) : FormS w (w.alloc (.cells #[.slice none 0 0] 22)) w.heap.size [] :=
  ⟨⟨Nat.le_refl _, _, heap_alloc_new w _, Win.nil _ _ _ _⟩, below_alloc (Below.refl _ _) _⟩
theorem ent_cells {W : World} {k : Nat} {a b c : Value} (h : W.heap[k]? = some (Obj.cells #[a, b, c] 134 (0, 0))) : W.cell? ⟨k, 0, none⟩ = some a ∧ W.cell? ⟨k, 1, none⟩ = some b ∧ W.cell? ⟨k, 2, none⟩ = some c := by
  simp [World.cell?, h]
/-- form's loop. -/
def FormL (w : World) (n : Nat) (d : List Ent) (i : Nat) (wr : World) : Prop := FormS w wr w.heap.size (pfx d i) ∧ (pfx d i).length ≤ 10 + i * 4190 ∧ (i ≠ 0 → n ≤ 64) ∧ ∀ e ∈ d.take i, okE e = true
set_option maxRecDepth 100000 in
set_option maxHeartbeats 4000000 in
theorem form_any (w : World) (A : Option Addr) (n c : Nat) (D : List (Value × Ent)) (h : DocR w A n c D) :
    Calls Try.prog 115 #[.slice A n c] w fun e W' => ((okD (D.map Prod.snd) = true ∧ ∃ v, e = .returned (.tuple #[v, .bool true]) ∧ Acc W' w.heap.size v (docB (D.map Prod.snd))) ∨ (okD (D.map Prod.snd) = false ∧ e = .returned (.tuple #[.slice none 0 0, .bool false]))) ∧ Fr No w W' := by
  obtain ⟨d, hd⟩ : ∃ d, D.map Prod.snd = d := ⟨_, rfl⟩
  rw [hd]
  have HD := Aside0.mk h
  have hc := h.cap
  have hn := h.max
  have HDL := Aside0.mk (show d.length = n from by rw [← hd, List.length_map]; exact h.len)
  have HM := Aside0.mk (show ∀ (i : Nat) (p : Value × Ent), D[i]? = some p → d[i]? = some p.2 from fun i p h => by rw [← hd, List.getElem?_map, h]; rfl)
  have HBAD := Aside0.mk (show 64 < n → okD d = false from fun h64 => by
    unfold okD
    rw [decide_eq_false (by rw [HDL.out]; omega)]
    rfl)
  have HBE := Aside0.mk (show ∀ (i : Nat) (e : Ent), d[i]? = some e → okE e = false → okD d = false from fun i e he hf => by
    unfold okD
    rw [Bool.and_eq_false_iff]
    refine .inr (Bool.eq_false_iff.2 fun ha => ?_)
    rw [List.all_eq_true.1 ha e (List.mem_of_getElem? he)] at hf
    exact absurd hf (by decide))
  clear h hd
  go_enter Try.func115, Try.ntmps115
  go_wp2_with (first | (go_at_call 120; go_must (refine (FormS.put FS1.out Q1.out (by have := uenc_10 n (by omega); simp; omega)).mono ?_; rintro e' w2 ⟨⟨r2, rfl⟩, q1, q2⟩; have FS2 := Aside0.mk q1; clear q1 q2)) | (go_at_call 25; go_must (refine (put_step_u _ 0 (.slice none 0 0) [] (n : Int) (Win.nil _ _ _ _) (Nat.zero_le _) (by omega) (by simp)).mono ?_; rintro e' w1 ⟨v1, rfl, q1, q2⟩; rw [List.nil_append, Int.toNat_natCast] at q1; have Q1 := Aside0.mk q1; have FS1 := Aside0.mk ((form_start w).no q2); clear q1 q2)))
  go_loopw [19] (fun v19 wr => ∃ i : Nat, v19 = .int .i64 i ∧ i ≤ n ∧ Aside0 (FormL w n d i wr)) (fun v19 _ => n - (intOf v19).toNat)
  case atStart => exact ⟨0, rfl, by omega, ⟨by have q := FS2.out; unfold pfx; rw [HDL.out]; simpa using q, by have := uenc_10 n (by omega); unfold pfx; rw [HDL.out]; simpa using this, fun h => absurd rfl h, by simp⟩⟩
  case round =>
    obtain ⟨i, rfl, hi, HF⟩ := hrel
    by_cases hlt : i < n
    · obtain ⟨p, hp⟩ := get_some' (xs := D) (i := i) (by have := HD.out.len; omega)
      have hr := HD.out.below HF.out.1.bel
      obtain ⟨ad, eA, hc0, hc1, hc2⟩ := ent_at hr.hdr hp
      obtain ⟨Ai, ci, he, hci, hri, h64, hnm, hfm, htm⟩ := HD.out.part p (List.mem_of_getElem? hp)
      have HP := Aside0.mk (HM.out i p hp)
      subst eA
      obtain ⟨pv, pe⟩ := p
      simp only at he hci hri h64 hnm hfm htm hc0 hc1 hc2
      subst he
      obtain ⟨f, t, ns⟩ := pe
      simp only at hci hri h64 hnm hfm htm hc0 hc1 hc2
      obtain ⟨nf, hnf⟩ : ∃ k, f.size = k := ⟨_, rfl⟩
      obtain ⟨nt, hnt⟩ : ∃ k, t.size = k := ⟨_, rfl⟩
      obtain ⟨nn, hnn⟩ : ∃ k, ns.length = k := ⟨_, rfl⟩
      rw [hnn] at hci hnm hc2
      clear hr hp
      have HA := Aside0.mk hri
      have HI := Aside0.mk h64
      have HFW := Aside0.mk HF.out.1.bel
      clear hri h64
      by_cases hbad : 64 < n
      · have HR := Aside0.mk (HBAD.out hbad)
        go_wp2_with fail
        go_ret2
        exact ⟨.inr ⟨HR.out, rfl⟩, Fr.of_No (accAlloc HFW.out (Nat.le_refl _) _)⟩
      by_cases hbf : 24 < f.size
      · have HR := Aside0.mk (HBE.out i _ HP.out (Bool.eq_false_iff.2 fun h => by have h1 : f.size ≤ 24 := (okE_iff.1 h).1; omega))
        go_wp2_with fail
        go_ret2
        exact ⟨.inr ⟨HR.out, rfl⟩, Fr.of_No (accAlloc HFW.out (Nat.le_refl _) _)⟩
      by_cases hbt : 4096 < t.size
      · have HR := Aside0.mk (HBE.out i _ HP.out (Bool.eq_false_iff.2 fun h => by have h1 : t.size ≤ 4096 := (okE_iff.1 h).2.1; omega))
        go_wp2_with fail
        go_ret2
        exact ⟨.inr ⟨HR.out, rfl⟩, Fr.of_No (accAlloc HFW.out (Nat.le_refl _) _)⟩
      by_cases hbn : 4 < nn
      · have HR := Aside0.mk (HBE.out i _ HP.out (Bool.eq_false_iff.2 fun h => by have h1 : ns.length ≤ 4 := (okE_iff.1 h).2.2; omega))
        go_wp2_with fail
        go_ret2
        exact ⟨.inr ⟨HR.out, rfl⟩, Fr.of_No (accAlloc HFW.out (Nat.le_refl _) _)⟩
      have HOK := Aside0.mk (show okE ⟨f, t, ns⟩ = true from okE_iff.2 ⟨by show f.size ≤ 24; omega, by show t.size ≤ 4096; omega, by show ns.length ≤ 4; omega⟩)
      have hf2 : f.size ≤ 24 := by omega
      have ht2 : t.size ≤ 4096 := by omega
      have hn2 : nn ≤ 4 := by omega
      have HTF := Aside0.mk (show (txtB f).length ≤ 34 from by have := uenc_10 f.size (by omega); unfold txtB; rw [List.length_append, bytesOf_len]; omega)
      have HTT := Aside0.mk (show (txtB t).length ≤ 4106 from by have := uenc_10 t.size (by omega); unfold txtB; rw [List.length_append, bytesOf_len]; omega)
      have HTN := Aside0.mk (show (uenc nn).length ≤ 10 from uenc_10 nn (by omega))
      have HPL := Aside0.mk (show (pfx d i).length ≤ 10 + i * 4190 from HF.out.2.1)
      have HAL := Aside0.mk (show ∀ j, (numB (ns.take j)).length ≤ 40 from fun j => by
        have := numB_len (ns := ns.take j) (fun q hq => HI.out q (List.mem_of_mem_take hq))
        rw [List.length_take] at this
        omega)
      have FA := Aside0.mk (HF.out.1.no (Fr.alloc wr (.cells #[.string f, .string t, .slice Ai nn ci] 134)))
      have HK := Aside0.mk (heap_alloc_new wr (.cells #[.string f, .string t, .slice Ai nn ci] 134))
      have h64 : n ≤ 64 := by omega
      have HNN := Aside0.mk hnn
      clear hbad hbf hbt hbn hfm htm hnf hnt hnn nf nt
      go_wp2_with (first | (go_at_call_of 120 v5; go_must (refine (FormS.put FS5.out Q5.out (by have := HTN.out; have := HTT.out; have := HTF.out; have := HPL.out; simp only [List.length_append]; omega)).mono ?_; rintro e' w6 ⟨⟨r6, rfl⟩, q1, q2⟩; have FS6 := Aside0.mk q1; have k6 := q2 _ _ K5.out; obtain ⟨_, _, kc6⟩ := ent_cells k6; clear q1 q2 k6)) | (go_at_call 25; go_must (refine (put_step_u _ 0 (.slice none 0 0) [] (nn : Int) (Win.nil _ _ _ _) (Nat.zero_le _) (by omega) (by simp)).mono ?_; rintro e' w5 ⟨v5, rfl, q1, q2⟩; rw [List.nil_append, Int.toNat_natCast] at q1; have Q5 := Aside0.mk q1; have FS5 := Aside0.mk (FS4.out.no q2); have K5 := Aside0.mk (q2.get K4.out (fun h => h)); clear q1 q2)) | (go_at_call_of 120 v3; go_must (refine (FormS.put FS3.out Q3.out (by have := HTT.out; have := HTF.out; have := HPL.out; simp only [List.length_append]; omega)).mono ?_; rintro e' w4 ⟨⟨r4, rfl⟩, q1, q2⟩; have FS4 := Aside0.mk q1; have k4 := q2 _ _ K3.out; obtain ⟨_, _, kc4⟩ := ent_cells k4; have K4 := Aside0.mk k4; clear q1 q2 k4)) | (go_at_call_of 28 t; go_must (refine (put_step_t _ 0 (.slice none 0 0) [] t (Win.nil _ _ _ _) (Nat.zero_le _) (by omega) (by simp)).mono ?_; rintro e' w3 ⟨v3, rfl, q1, q2⟩; have Q3 := Aside0.mk (show Acc w3 0 v3 (txtB t) from q1); have FS3 := Aside0.mk (FS2.out.no q2); have K3 := Aside0.mk (q2.get K2.out (fun h => h)); clear q1 q2)) | (go_at_call_of 120 v1; go_must (refine (FormS.put FS1.out Q1.out (by have := HTF.out; have := HPL.out; omega)).mono ?_; rintro e' w2 ⟨⟨r2, rfl⟩, q1, q2⟩; have FS2 := Aside0.mk q1; have k2 := q2 _ _ K1.out; obtain ⟨_, kc2, _⟩ := ent_cells k2; have K2 := Aside0.mk k2; clear q1 q2 k2)) | (go_at_call_of 28 f; go_must (refine (put_step_t _ 0 (.slice none 0 0) [] f (Win.nil _ _ _ _) (Nat.zero_le _) (by omega) (by simp)).mono ?_; rintro e' w1 ⟨v1, rfl, q1, q2⟩; have Q1 := Aside0.mk (show Acc w1 0 v1 (txtB f) from q1); have FS1 := Aside0.mk (FA.out.no q2); have K1 := Aside0.mk (q2.get HK.out (fun h => h)); clear q1 q2)))
      go_loopw [64] (fun v64 W2 => ∃ j : Nat, v64 = .int .i64 j ∧ j ≤ nn ∧ Aside0 (FormS w W2 w.heap.size (pfx d i ++ txtB f ++ txtB t ++ uenc nn ++ numB (ns.take j)))) (fun v64 _ => nn - (intOf v64).toNat)
      case atStart => exact ⟨0, rfl, by omega, ⟨by have q := FS6.out; simpa [numB] using q⟩⟩
      case round =>
        obtain ⟨j, rfl, hj, HS⟩ := hrel
        have hlen : (pfx d i ++ txtB f ++ txtB t ++ uenc nn ++ numB (ns.take j)).length ≤ 1000000 := by
          have := HTN.out; have := HTT.out; have := HTF.out; have := HPL.out; have := HAL.out j
          simp only [List.length_append]
          omega
        have HLN := Aside0.mk hlen
        clear hlen
        by_cases hlt2 : j < nn
        · obtain ⟨x, hx⟩ := get_some' (xs := ns) (i := j) (by have := HNN.out; omega)
          obtain ⟨ad2, e2, hh⟩ := rdv_at (f := Value.int .i64) (show RdV wr (Ai) (ns.map (Value.int .i64)) from HA.out.below HS.out.bel) hx
          subst e2
          have hx2 := HI.out x (List.mem_of_getElem? hx)
          have HX := Aside0.mk hx
          clear hx
          go_wp2_with (first | (go_at_call_of 120 v7; go_must (refine (FormS.put FS7.out Q7.out (by have := HLN.out; have := uenc_10 _ (by have := zig_64 x hx2.1 hx2.2; rwa [M64_eq] at this); omega)).mono ?_; rintro e' w8 ⟨⟨r8, rfl⟩, q1, q2⟩; have FS8 := Aside0.mk q1; clear q1 q2)) | (go_at_call 26; go_must (refine (put_step_i _ 0 (.slice none 0 0) [] x (Win.nil _ _ _ _) (Nat.zero_le _) hx2 (by simp)).mono ?_; rintro e' w7 ⟨v7, rfl, q1, q2⟩; rw [List.nil_append] at q1; have Q7 := Aside0.mk q1; have FS7 := Aside0.mk (HS.out.no q2); clear q1 q2)))
          go_roundw
          case rel => exact ⟨j + 1, by simp, by omega, ⟨by have q := FS8.out; rw [show numB (ns.take (j + 1)) = numB (ns.take j) ++ uenc (Lib.zigzag x) from flat_take _ HX.out]; simpa only [List.append_assoc] using q⟩⟩
          case measure => simp [intOf]; omega
        · obtain rfl : nn = j := by omega
          have HFIN := Aside0.mk (show pfx d i ++ txtB f ++ txtB t ++ uenc nn ++ numB (ns.take nn) = pfx d (i + 1) from by
            rw [pfx_succ HP.out, List.take_of_length_le (by have := HNN.out; omega)]
            unfold entB
            simp only [List.append_assoc, HNN.out])
          have HEL := Aside0.mk (entB_len HOK.out HI.out)
          go_wp2_with fail
          go_roundw
          case rel => exact ⟨i + 1, by simp, by omega, ⟨by have q := HS.out; rwa [HFIN.out] at q, by rw [pfx_succ HP.out, List.length_append]; have := HEL.out; have := HPL.out; omega, fun _ => h64, fun e he => by
            rw [List.take_add_one, HP.out] at he
            rcases List.mem_append.1 he with he | he
            · exact HF.out.2.2.2 e he
            · have : e = ⟨f, t, ns⟩ := by simpa using he
              rw [this]
              exact HOK.out⟩⟩
          case measure => simp [intOf]; omega
    · obtain rfl : n = i := by omega
      have HE := Aside0.mk (show okD d = true from by
        unfold okD
        rw [Bool.and_eq_true, decide_eq_true_eq, List.all_eq_true]
        have h := HF.out
        refine ⟨by rw [HDL.out]; by_cases h0 : n = 0; · omega
                   exact h.2.2.1 h0, fun e he => h.2.2.2 e (by rw [List.take_of_length_le (by have := HDL.out; omega)]; exact he)⟩)
      have HBx := HF.out.1.box
      obtain ⟨hb1, v, hb2, hb3⟩ := HBx
      have hbc : wr.cell? ⟨w.heap.size, 0, none⟩ = some v := by simp [World.cell?, hb2]
      have HV := Aside0.mk hb3
      have HFW := Aside0.mk HF.out.1.bel
      clear hb1 hb2 hb3
      go_wp2_with fail
      go_ret2
      exact ⟨.inl ⟨HE.out, v, rfl, by have h := HV.out; rwa [pfx_all (by have := HDL.out; omega)] at h⟩, Fr.of_No HFW.out⟩
end Go.Proofs.Ytchcimkmjoegdaa.C
namespace Go.Proofs.Ytchcimkmjoegdaa.C
open Go.RowKit Go.Proofs.YtchcimkmjoegdaaW.PrintWords Go.Proofs.YtchcimkmjoegdaaW.PrintMore Go.Proofs.Ytchcimkmjoegdaa.M
set_option linter.unusedVariables false
set_option linter.unusedSimpArgs false

/-- A chunk: its first document, the one behind its last, its bytes. -/
structure Chk where
  f : Nat
  t : Nat
  b : List Int
/-- The next chunk begins a new one. -/
def fullC (C : List Chk) : Bool := match C.getLast? with
  | none => true
  | some x => decide (256 ≤ x.b.length)
/-- A document's form laid behind i documents. -/
def cutStep (C : List Chk) (i : Nat) (b : List Int) : List Chk := match C.getLast? with
  | none => [⟨i, i + 1, b⟩]
  | some x => if 256 ≤ x.b.length then C ++ [⟨i, i + 1, b⟩] else C.dropLast ++ [⟨x.f, i + 1, x.b ++ b⟩]
def cutN (B : List (List Int)) : Nat → List Chk
  | 0 => []
  | i + 1 => match B[i]? with
    | none => cutN B i
    | some b => cutStep (cutN B i) i b
theorem cutN_succ {B : List (List Int)} {i : Nat} {b : List Int} (h : B[i]? = some b) : cutN B (i + 1) = cutStep (cutN B i) i b := by rw [cutN, h]
theorem cutStep_full {C : List Chk} {i : Nat} {b : List Int} (h : fullC C = true) : cutStep C i b = C ++ [⟨i, i + 1, b⟩] := by
  unfold cutStep
  unfold fullC at h
  cases hl : C.getLast? with
  | none => rw [List.getLast?_eq_none_iff.1 hl]; rfl
  | some x =>
    rw [hl] at h
    simp only [decide_eq_true_eq] at h
    simp only
    rw [if_pos h]
theorem cutStep_more {P : List Chk} {x : Chk} {i : Nat} {b : List Int} (h : fullC (P ++ [x]) = false) : cutStep (P ++ [x]) i b = P ++ [⟨x.f, i + 1, x.b ++ b⟩] := by
  unfold cutStep
  unfold fullC at h
  simp only [List.getLast?_append, List.getLast?_singleton, Option.some_or, decide_eq_false_iff_not] at h
  simp only [List.getLast?_append, List.getLast?_singleton, Option.some_or, List.dropLast_concat]
  rw [if_neg h]
theorem fullC_last (P : List Chk) (x : Chk) : fullC (P ++ [x]) = decide (256 ≤ x.b.length) := by
  unfold fullC
  simp
theorem fullC_some {C : List Chk} (h : fullC C = false) : ∃ P x, C = P ++ [x] ∧ x.b.length < 256 := by
  rcases List.eq_nil_or_concat C with rfl | ⟨P, x, rfl⟩
  · exact absurd h (by decide)
  · rw [List.concat_eq_append] at h ⊢
    rw [fullC_last] at h
    exact ⟨P, x, rfl, by have := of_decide_eq_false h; omega⟩
theorem flat3_get {α : Type} {f : α → List Value} (hf : ∀ x, (f x).length = 3) {D : List α} {j k : Nat} {p : α} (hp : D[j]? = some p) (hk : k < 3) : (D.flatMap f)[j * 3 + k]? = (f p)[k]? := by
  induction D generalizing j with
  | nil => simp at hp
  | cons x D ih =>
    rw [List.flatMap_cons]
    cases j with
    | zero =>
      obtain rfl := Option.some.inj hp
      rw [Nat.zero_mul, Nat.zero_add, List.getElem?_append_left (by rw [hf]; exact hk)]
    | succ j =>
      rw [List.getElem?_append_right (by rw [hf]; omega), hf, show (j + 1) * 3 + k - 3 = j * 3 + k from by omega]
      exact ih hp
theorem flat3_len {α : Type} {f : α → List Value} (hf : ∀ x, (f x).length = 3) (D : List α) : (D.flatMap f).length = D.length * 3 := by
  induction D with
  | nil => rfl
  | cons x D ih => rw [List.flatMap_cons, List.length_append, hf, ih, List.length_cons]; omega
section
variable {w w' : World} {base n c g off size : Nat} {e : TypeId} {xs : List Value}
/-- A cell of a window of wide elements: it is there, and may be written. -/
theorem Win.cellN (h : Win w base e size (.slice (some ⟨g, off, none⟩) n c) n xs) {j : Nat} {u : Value} (hj : xs[j]? = some u) : w.cell? ⟨g, off + j, none⟩ = some u ∧ w.frozen? ⟨g, off + j, none⟩ = false := by
  rcases h.2 with ⟨h0, A, he⟩ | ⟨g', off', cap, cur, he, hg, hh, hnc, hm, hcs, ht⟩
  · have : xs = [] := List.eq_nil_of_length_eq_zero (by rw [h.1, h0, Nat.zero_mul])
    subst this
    simp at hj
  · injection he with ha _ hc
    injection ha with ha
    injection ha with h1 h2
    subst h1; subst h2; subst hc
    constructor
    · rw [cell_of_row w g _ cur e (0, 0) hh]
      rw [← ht, List.getElem?_take] at hj
      split at hj
      · rw [List.getElem?_drop] at hj
        rw [← Array.getElem?_toList]
        exact hj
      · cases hj
    · simp [World.frozen?, hh]
theorem Win.storeN (h : Win w base e size (.slice (some ⟨g, off, none⟩) n c) n xs) (hn : 0 < n) (j : Nat) (hj : j < n * size) (u : Value) : Win (w.setCell ⟨g, off + j, none⟩ u) base e size (.slice (some ⟨g, off, none⟩) n c) n (xs.set j u) ∧ Fr (At (.slice (some ⟨g, off, none⟩) n c)) w (w.setCell ⟨g, off + j, none⟩ u) := by
  rcases h.2 with ⟨h0, A, he⟩ | ⟨g', off', cap, cur, he, hg, hh, hnc, hm, hcs, ht⟩
  · omega
  · injection he with ha _ hc
    injection ha with ha
    injection ha with h1 h2
    subst h1; subst h2; subst hc
    refine ⟨⟨by rw [List.length_set]; exact h.1, .inr ⟨g, off, c, cur.setIfInBounds (off + j) u, rfl, hg, ?_, hnc, hm, by simpa using hcs, ?_⟩⟩, Fr.setCell w _ u (rb_slice _ _ _ (by omega))⟩
    · simp [World.setCell, Array.getElem?_modify, hh]
    · rw [← ht, Array.toList_setIfInBounds]
      have hcc : n * size ≤ c * size := Nat.mul_le_mul_right _ hnc
      apply List.ext_getElem?
      intro q
      simp only [List.getElem?_take, List.getElem?_drop, List.getElem?_set, List.length_take, List.length_drop, Array.length_toList]
      by_cases hq : q < n * size
      · by_cases hqj : j = q
        · subst hqj
          rw [if_pos hq, if_pos rfl, if_pos (by omega), if_pos rfl, if_pos (by omega)]
        · rw [if_pos hq, if_neg (by omega), if_neg hqj, if_pos hq]
      · rw [if_neg hq, if_neg (by omega), if_neg hq]
end
/-- A chunk's cells: p.1 is the value of its bytes' slice. -/
def chkCells (p : Value × Chk) : List Value := [.int .i64 p.2.f, .int .i64 p.2.t, p.1]
theorem chk3 (p : Value × Chk) : (chkCells p).length = 3 := rfl
/-- Chunks of its own memory. -/
structure Chks (W : World) (base : Nat) (v : Value) (C : List (Value × Chk)) : Prop where
  hdr : Win W base 118 3 v C.length (C.flatMap chkCells)
  part : ∀ p ∈ C, Acc W base p.1 p.2.b
  sep : ∀ (i j : Nat) (p q : Value × Chk) (k : Nat), i ≠ j → C[i]? = some p → C[j]? = some q → At p.1 k → ¬ At q.1 k
theorem Chks.nil (W : World) (base : Nat) : Chks W base (.slice none 0 0) [] := ⟨Win.nil _ _ _ _, fun p hp => (nomatch hp), fun i j p q k _ h => (by simp at h)⟩
theorem Chks.below {W W' : World} {base : Nat} {v : Value} {C : List (Value × Chk)} (h : Chks W base v C) (hb : Below W.heap.size W W') : Chks W' base v C := ⟨h.hdr.below hb, fun p hp => (h.part p hp).below hb, h.sep⟩
theorem snoc_get {α : Type} {P : List α} {x q : α} {i : Nat} (h : (P ++ [x])[i]? = some q) : (i < P.length ∧ P[i]? = some q) ∨ (i = P.length ∧ q = x) := by
  by_cases hi : i < P.length
  · rw [List.getElem?_append_left hi] at h
    exact .inl ⟨hi, h⟩
  · rw [List.getElem?_append_right (by omega)] at h
    have h0 : i - P.length = 0 := by
      cases hk : i - P.length with
      | zero => rfl
      | succ m => rw [hk] at h; simp at h
    rw [h0] at h
    exact .inr ⟨by omega, (by simpa using h.symm)⟩
theorem acc_not_hdr {W : World} {b1 b2 n : Nat} {v u : Value} {xs : List Value} {ys : List Int} {k : Nat} (h : Win W b1 118 3 v n xs) (hu : Acc W b2 u ys) (hk : At u k) : ¬ At v k := fun hv => by
  obtain ⟨_, _, c1, e1⟩ := h.at_ hv
  exact absurd (hu.ne_type hk e1) (by decide)
/-- An empty chunk behind the others. -/
theorem Chks.push {W W1 : World} {base : Nat} {v v1 : Value} {C : List (Value × Chk)} {i : Nat} (h : Chks W base v C) (g1 : Win W1 base 118 3 v1 (C.length + 1) (C.flatMap chkCells ++ [.int .i64 i, .int .i64 (0 : Nat), .slice none 0 0])) (g3 : Fr (At v) W W1) :
    Chks W1 base v1 (C ++ [(.slice none 0 0, ⟨i, 0, []⟩)]) := by
  refine ⟨?_, fun q hq => ?_, fun a b p q k hne hp hq hk => ?_⟩
  · rw [List.flatMap_append, List.length_append]
    exact g1
  · rcases List.mem_append.1 hq with hq | hq
    · exact Win.fr (h.part q hq) g3 (fun k hk hv => acc_not_hdr h.hdr (h.part q hq) hk hv)
    · simp only [List.mem_cons, List.mem_nil_iff, or_false] at hq
      subst hq
      exact Win.nil _ _ _ _
  · rcases snoc_get hp with ⟨_, hp⟩ | ⟨_, rfl⟩
    · rcases snoc_get hq with ⟨_, hq⟩ | ⟨_, rfl⟩
      · exact h.sep a b p q k hne hp hq hk
      · exact fun h => h.none
    · exact hk.none.elim
/-- The last chunk's bytes grow; its cells are written. -/
theorem Chks.grow {W W1 : World} {base g off n c : Nat} {P : List (Value × Chk)} {u u1 : Value} {f t t1 : Nat} {b b1 : List Int} (h : Chks W base (.slice (some ⟨g, off, none⟩) n c) (P ++ [(u, Chk.mk f t b)])) (hn : P.length + 1 = n)
    (g1 : Acc W1 base u1 b1) (g3 : Fr (At u) W W1) (g4 : rb u1 = rb u ∨ rb u1 = some W.heap.size) :
    Chks ((W1.setCell ⟨g, off + P.length * 3 + 2, none⟩ u1).setCell ⟨g, off + P.length * 3 + 1, none⟩ (.int .i64 t1)) base (.slice (some ⟨g, off, none⟩) n c) (P ++ [(u1, Chk.mk f t1 b1)]) ∧ Fr (At (.slice (some ⟨g, off, none⟩) n c)) W1 ((W1.setCell ⟨g, off + P.length * 3 + 2, none⟩ u1).setCell ⟨g, off + P.length * 3 + 1, none⟩ (.int .i64 t1)) := by
  subst hn
  rw [Nat.add_assoc off, Nat.add_assoc off]
  have hd := h.hdr
  rw [List.length_append] at hd
  have hu := h.part (u, Chk.mk f t b) (by simp)
  have hd1 : Win W1 base 118 3 (.slice (some ⟨g, off, none⟩) (P.length + 1) c) (P.length + 1) ((P ++ [(u, Chk.mk f t b)]).flatMap chkCells) := Win.fr hd g3 (fun k hk hv => acc_not_hdr hd hu hv hk)
  obtain ⟨s1, f1⟩ := Win.storeN hd1 (by omega) (P.length * 3 + 2) (by omega) u1
  obtain ⟨s2, f2⟩ := Win.storeN s1 (by omega) (P.length * 3 + 1) (by omega) (.int .i64 t1)
  have hl : (P.flatMap chkCells).length = P.length * 3 := flat3_len chk3 P
  have e : ((((P ++ [(u, Chk.mk f t b)]).flatMap chkCells).set (P.length * 3 + 2) u1).set (P.length * 3 + 1) (.int .i64 t1)) = (P ++ [(u1, Chk.mk f t1 b1)]).flatMap chkCells := by
    rw [List.flatMap_append, List.flatMap_append, List.set_append_right _ _ (by omega), List.set_append_right _ _ (by omega), hl]
    rw [show P.length * 3 + 2 - P.length * 3 = 2 from by omega, show P.length * 3 + 1 - P.length * 3 = 1 from by omega]
    rfl
  rw [e] at s2
  have keep : ∀ {q : Value} {ys : List Int}, Acc W1 base q ys → Acc ((W1.setCell ⟨g, off + (P.length * 3 + 2), none⟩ u1).setCell ⟨g, off + (P.length * 3 + 1), none⟩ (.int .i64 t1)) base q ys := fun hq =>
    have h1 := Win.fr hq f1 (fun k hk hv => acc_not_hdr hd1 hq hk hv)
    Win.fr h1 f2 (fun k hk hv => acc_not_hdr s1 h1 hk hv)
  refine ⟨⟨?_, fun q hq => ?_, fun a a' p q k hne hp hq hk hk' => ?_⟩, f1.trans f2 (fun _ _ h => h) (fun _ _ h => h)⟩
  · rw [List.length_append]
    exact s2
  · rcases List.mem_append.1 hq with hq | hq
    · obtain ⟨j, hj⟩ := List.mem_iff_getElem?.1 hq
      have hjl := (List.getElem?_eq_some_iff.1 hj).1
      exact keep (Win.fr (h.part q (List.mem_append_left _ hq)) g3 (fun k hk hv => h.sep j P.length q ((u, Chk.mk f t b) : Value × Chk) k (by omega) (by rw [List.getElem?_append_left hjl]; exact hj) (by simp) hk hv))
    · simp only [List.mem_cons, List.mem_nil_iff, or_false] at hq
      subst hq
      exact keep g1
  · have new : ∀ {j : Nat} {p : Value × Chk} {k : Nat}, j < P.length → P[j]? = some p → At p.1 k → At u1 k → False := fun {j p k} hj hp h1 h2 => by
      unfold At at h2
      rcases g4 with g4 | g4
      · rw [g4] at h2
        exact h.sep j P.length p ((u, Chk.mk f t b) : Value × Chk) k (by omega) (by rw [List.getElem?_append_left hj]; exact hp) (by simp) h1 h2
      · rw [g4] at h2
        have := (Win.at_ (h.part p (List.mem_append_left _ (List.mem_of_getElem? hp))) h1).2.1
        injection h2 with h2
        omega
    rcases snoc_get hp with ⟨ha, hp⟩ | ⟨ha, rfl⟩
    · rcases snoc_get hq with ⟨ha', hq⟩ | ⟨hb, rfl⟩
      · exact h.sep a a' p q k hne (by rw [List.getElem?_append_left ha]; exact hp) (by rw [List.getElem?_append_left ha']; exact hq) hk hk'
      · exact new ha hp hk hk'
    · rcases snoc_get hq with ⟨ha', hq⟩ | ⟨hb, rfl⟩
      · exact new ha' hq hk' hk
      · omega
theorem Win.shape1 {w : World} {base e size n : Nat} {v : Value} {xs : List Value} (h : Win w base e size v n xs) (hn : 0 < n) : ∃ g off c, v = .slice (some ⟨g, off, none⟩) n c ∧ n ≤ c := by
  rcases h.2 with ⟨h0, _⟩ | ⟨g, off, cap, _, he, _, _, hnc, _⟩
  · omega
  · exact ⟨g, off, cap, he, hnc⟩
theorem Chks.cells {W : World} {base g off n c j : Nat} {C : List (Value × Chk)} {u : Value} {f t : Nat} {b : List Int} (h : Chks W base (.slice (some ⟨g, off, none⟩) n c) C) (hn : C.length = n) (hp : C[j]? = some (u, Chk.mk f t b)) :
    (W.cell? ⟨g, off + j * 3, none⟩ = some (.int .i64 f) ∧ W.frozen? ⟨g, off + j * 3, none⟩ = false) ∧ (W.cell? ⟨g, off + j * 3 + 1, none⟩ = some (.int .i64 t) ∧ W.frozen? ⟨g, off + j * 3 + 1, none⟩ = false) ∧ W.cell? ⟨g, off + j * 3 + 2, none⟩ = some u ∧ W.frozen? ⟨g, off + j * 3 + 2, none⟩ = false := by
  have hd := h.hdr
  rw [hn] at hd
  have h0 := flat3_get (k := 0) chk3 hp (by decide)
  have h1 := flat3_get (k := 1) chk3 hp (by decide)
  have h2 := flat3_get (k := 2) chk3 hp (by decide)
  exact ⟨Win.cellN hd h0, Win.cellN hd h1, Win.cellN hd h2⟩
theorem Chks.cells1 {W W1 : World} {base g off n c j : Nat} {P : List (Value × Chk)} {u : Value} {f t : Nat} {b : List Int} (h : Chks W base (.slice (some ⟨g, off, none⟩) n c) (P ++ [(u, Chk.mk f t b)])) (hn : P.length + 1 = n) (hj : P.length = j) (g3 : Fr (At u) W W1) :
    (W1.cell? ⟨g, off + j * 3, none⟩ = some (.int .i64 f) ∧ W1.frozen? ⟨g, off + j * 3, none⟩ = false) ∧ (W1.cell? ⟨g, off + j * 3 + 1, none⟩ = some (.int .i64 t) ∧ W1.frozen? ⟨g, off + j * 3 + 1, none⟩ = false) ∧ W1.cell? ⟨g, off + j * 3 + 2, none⟩ = some u ∧ W1.frozen? ⟨g, off + j * 3 + 2, none⟩ = false := by
  subst hn
  subst hj
  have hd := h.hdr
  rw [List.length_append] at hd
  have hu := h.part (u, Chk.mk f t b) (by simp)
  have hd1 : Win W1 base 118 3 (.slice (some ⟨g, off, none⟩) (P.length + 1) c) (P.length + 1) ((P ++ [(u, Chk.mk f t b)]).flatMap chkCells) := Win.fr hd g3 (fun k hk hv => acc_not_hdr hd hu hv hk)
  have hp : (P ++ [(u, Chk.mk f t b)])[P.length]? = some (u, Chk.mk f t b) := by simp
  exact ⟨Win.cellN hd1 (flat3_get (k := 0) chk3 hp (by decide)), Win.cellN hd1 (flat3_get (k := 1) chk3 hp (by decide)), Win.cellN hd1 (flat3_get (k := 2) chk3 hp (by decide))⟩
end Go.Proofs.Ytchcimkmjoegdaa.C
