/- The reference's Cuts (70). Conditions: as the theorem states. | The reference's Cuts (70). Conditions: as the theorem states. | The reference's Cuts (70): the walk. Conditions: as the theorem states. | The reference's Build (67). Conditions: as the theorem states. | The kit's Int64s (92), Entries (42). Conditions: as each theorem states. | The kit's Entries (42). Conditions: as each theorem states. (Several texts of mine laid into one by prune.py.) -/
import Derived.Test.YtchcimkmjoegdaaStB5
namespace Go.Proofs.Ytchcimkmjoegdaa.C
open Go.RowKit Go.Proofs.YtchcimkmjoegdaaW.PrintWords Go.Proofs.YtchcimkmjoegdaaW.PrintMore Go.Proofs.Ytchcimkmjoegdaa.M
set_option linter.unusedVariables false
set_option linter.unusedSimpArgs false

theorem win_apart {W : World} {b1 b2 e1 e2 s1 s2 n1 n2 : Nat} {v1 v2 : Value} {x1 x2 : List Value} (h1 : Win W b1 e1 s1 v1 n1 x1) (h2 : Win W b2 e2 s2 v2 n2 x2) (he : e1 ≠ e2) {k : Nat} (hk : At v1 k) : ¬ At v2 k := fun hv => by
  obtain ⟨_, _, c1, q1⟩ := h1.at_ hk
  exact he (h2.ne_type hv q1).symm
theorem Blks.push {W W1 : World} {base : Nat} {v v1 : Value} {B : List (Value × List Int)} (h : Blks W base v B) (g1 : Win W1 base 22 1 v1 (B.length + 1) (B.map Prod.fst ++ [.slice none 0 0])) (g3 : Fr (At v) W W1) :
    Blks W1 base v1 (B ++ [(.slice none 0 0, [])]) := by
  refine ⟨?_, fun q hq => ?_, fun a b p q k hne hp hq hk => ?_⟩
  · rw [List.map_append, List.length_append]
    exact g1
  · rcases List.mem_append.1 hq with hq | hq
    · exact Win.fr (h.win q hq) g3 (fun k hk => win_apart (h.win q hq) h.hdr (by decide) hk)
    · simp only [List.mem_cons, List.mem_nil_iff, or_false] at hq
      subst hq
      exact Win.nil _ _ _ _
  · rcases snoc_get hp with ⟨_, hp⟩ | ⟨_, rfl⟩
    · rcases snoc_get hq with ⟨_, hq⟩ | ⟨_, rfl⟩
      · exact h.sep a b p q k hne hp hq hk
      · exact fun h => h.none
    · exact hk.none.elim
theorem Blks.grow {W W1 : World} {base g off n c : Nat} {P : List (Value × List Int)} {u u1 : Value} {b b1 : List Int} (h : Blks W base (.slice (some ⟨g, off, none⟩) n c) (P ++ [(u, b)])) (hn : P.length + 1 = n)
    (g1 : Acc W1 base u1 b1) (g3 : Fr (At u) W W1) (g4 : rb u1 = rb u ∨ rb u1 = some W.heap.size) :
    Blks (W1.setCell ⟨g, off + P.length, none⟩ u1) base (.slice (some ⟨g, off, none⟩) n c) (P ++ [(u1, b1)]) ∧ Fr (At (.slice (some ⟨g, off, none⟩) n c)) W1 (W1.setCell ⟨g, off + P.length, none⟩ u1) := by
  subst hn
  have hd := h.hdr
  rw [List.length_append] at hd
  have hu := h.win (u, b) (by simp)
  have hd1 : Win W1 base 22 1 (.slice (some ⟨g, off, none⟩) (P.length + 1) c) (P.length + 1) ((P ++ [(u, b)]).map Prod.fst) := Win.fr hd g3 (fun k hk => win_apart hd hu (by decide) hk)
  obtain ⟨s1, f1⟩ := hd1.store P.length (by omega) u1
  have e : ((P ++ [(u, b)]).map Prod.fst).set P.length u1 = (P ++ [(u1, b1)]).map Prod.fst := by
    rw [List.map_append, List.map_append, List.set_append_right _ _ (by rw [List.length_map]; exact Nat.le_refl _), List.length_map, Nat.sub_self]
    rfl
  rw [e] at s1
  have keep : ∀ {q : Value} {ys : List Int}, Acc W1 base q ys → Acc (W1.setCell ⟨g, off + P.length, none⟩ u1) base q ys := fun hq => Win.fr hq f1 (fun k hk => win_apart hq hd1 (by decide) hk)
  refine ⟨⟨?_, fun q hq => ?_, fun a a' p q k hne hp hq hk hk' => ?_⟩, f1⟩
  · rw [List.length_append]
    exact s1
  · rcases List.mem_append.1 hq with hq | hq
    · obtain ⟨j, hj⟩ := List.mem_iff_getElem?.1 hq
      have hjl := (List.getElem?_eq_some_iff.1 hj).1
      exact keep (Win.fr (h.win q (List.mem_append_left _ hq)) g3 (fun k hk hv => h.sep j P.length q (u, b) k (by omega) (by rw [List.getElem?_append_left hjl]; exact hj) (by simp) hk hv))
    · simp only [List.mem_cons, List.mem_nil_iff, or_false] at hq
      subst hq
      exact keep g1
  · have new : ∀ {j : Nat} {p : Value × List Int} {k : Nat}, j < P.length → P[j]? = some p → At p.1 k → At u1 k → False := fun {j p k} hj hp h1 h2 => by
      unfold At at h2
      rcases g4 with g4 | g4
      · rw [g4] at h2
        exact h.sep j P.length p (u, b) k (by omega) (by rw [List.getElem?_append_left hj]; exact hp) (by simp) h1 h2
      · rw [g4] at h2
        have := (Win.at_ (h.win p (List.mem_append_left _ (List.mem_of_getElem? hp))) h1).2.1
        injection h2 with h2
        omega
    rcases snoc_get hp with ⟨ha, hp⟩ | ⟨ha, rfl⟩
    · rcases snoc_get hq with ⟨ha', hq⟩ | ⟨ha', rfl⟩
      · exact h.sep a a' p q k hne (by rw [List.getElem?_append_left ha]; exact hp) (by rw [List.getElem?_append_left ha']; exact hq) hk hk'
      · exact new ha hp hk hk'
    · rcases snoc_get hq with ⟨ha', hq⟩ | ⟨ha', rfl⟩
      · exact new ha' hq hk' hk
      · omega
/-- Cuts' loop behind i documents. -/
structure RCut (w : World) (d : List (List Ent)) (i : Nat) (W : World) (v4 v5 : Value) (B : List (Value × List Int)) (C : List Chk) : Prop where
  many : Win W w.heap.size 3 1 v4 C.length (nums .i64 (C.map fun c => ((c.t - c.f : Nat) : Int)))
  bl : Blks W w.heap.size v5 B
  eq : B.map Prod.snd = C.map Chk.b
  cs : C = cutN (d.map docB) i
  bel : Below w.heap.size w W
  len : C.length ≤ i
  small : ∀ c ∈ C, c.b.length ≤ 300000
theorem RCut.no {w W W' : World} {d : List (List Ent)} {i : Nat} {v4 v5 : Value} {B : List (Value × List Int)} {C : List Chk} (h : RCut w d i W v4 v5 B C) (hf : Fr No W W') : RCut w d i W' v4 v5 B C :=
  ⟨h.many.below hf.no, h.bl.below hf.no, h.eq, h.cs, accNo h.bel (Nat.le_refl _) hf, h.len, h.small⟩
theorem cutN_len (B : List (List Int)) : ∀ i, (cutN B i).length ≤ i
  | 0 => Nat.le_refl _
  | i + 1 => by
    rw [cutN]
    have ih := cutN_len B i
    cases hb : B[i]? with
    | none => simp only; omega
    | some b =>
      simp only
      generalize cutN B i = C at ih
      rcases hfull : fullC C with _ | _
      · obtain ⟨P, y, rfl, _⟩ := fullC_some hfull
        rw [cutStep_more hfull]
        simp only [List.length_append, List.length_cons, List.length_nil] at ih ⊢
        omega
      · rw [cutStep_full hfull, List.length_append]
        simp only [List.length_cons, List.length_nil]
        omega
theorem cutN_small {B : List (List Int)} (hB : ∀ b ∈ B, b.length ≤ 268170) : ∀ i, ∀ c ∈ cutN B i, c.b.length ≤ 300000
  | 0 => fun x hx => nomatch hx
  | i + 1 => fun x hx => by
    rw [cutN] at hx
    have ih := cutN_small hB i
    cases hb : B[i]? with
    | none => rw [hb] at hx; exact ih x hx
    | some b =>
      have hbl := hB b (List.mem_of_getElem? hb)
      rw [hb] at hx
      simp only at hx
      generalize cutN B i = C at hx ih
      rcases hfull : fullC C with _ | _
      · obtain ⟨P, y, rfl, hy⟩ := fullC_some hfull
        rw [cutStep_more hfull] at hx
        rcases List.mem_append.1 hx with hx | hx
        · exact ih x (List.mem_append_left _ hx)
        · simp only [List.mem_cons, List.mem_nil_iff, or_false] at hx
          subst hx
          show (y.b ++ b).length ≤ 300000
          rw [List.length_append]
          omega
      · rw [cutStep_full hfull] at hx
        rcases List.mem_append.1 hx with hx | hx
        · exact ih x hx
        · simp only [List.mem_cons, List.mem_nil_iff, or_false] at hx
          subst hx
          show b.length ≤ 300000
          omega
theorem docs_small {w : World} {A : Option Addr} {n c : Nat} {L : List (Value × List (Value × Ent))} (h : DocsR w A n c L) (ho : okDs (L.map docOf) = true) : ∀ b ∈ (L.map docOf).map docB, b.length ≤ 268170 := fun b hb => by
  obtain ⟨x, hx, rfl⟩ := List.mem_map.1 hb
  obtain ⟨p, hp, rfl⟩ := List.mem_map.1 hx
  obtain ⟨A', c', _, hd⟩ := h.part p hp
  unfold okDs at ho
  rw [Bool.and_eq_true] at ho
  exact docB_len hd (List.all_eq_true.1 ho.2 _ hx)
end Go.Proofs.Ytchcimkmjoegdaa.C
namespace Go.Proofs.Ytchcimkmjoegdaa.C
open Go.RowKit Go.Proofs.YtchcimkmjoegdaaW.PrintWords Go.Proofs.YtchcimkmjoegdaaW.PrintMore Go.Proofs.Ytchcimkmjoegdaa.M
set_option linter.unusedVariables false
set_option linter.unusedSimpArgs false

/-- Counts and bytes, the last of each named. -/
structure RTail (w W : World) (k g4 o4 c4 g5 o5 c5 : Nat) (cs : List Int) (m : Nat) (P : List (Value × List Int)) (u : Value) (b : List Int) : Prop where
  many : Win W w.heap.size 3 1 (.slice (some ⟨g4, o4, none⟩) (k + 1) c4) (k + 1) (nums .i64 (cs ++ [(m : Int)]))
  bl : Blks W w.heap.size (.slice (some ⟨g5, o5, none⟩) (k + 1) c5) (P ++ [(u, b)])
  bel : Below w.heap.size w W
  lc : cs.length = k
  lp : P.length = k
section
variable {w W W1 W2 : World} {k g4 o4 c4 g5 o5 c5 m : Nat} {cs : List Int} {P : List (Value × List Int)} {u u1 : Value} {b b1 : List Int}
theorem RTail.hdr (h : RTail w W k g4 o4 c4 g5 o5 c5 cs m P u b) : Win W w.heap.size 22 1 (.slice (some ⟨g5, o5, none⟩) (k + 1) c5) (k + 1) ((P ++ [(u, b)]).map Prod.fst) := by
  have := h.bl.hdr
  rwa [List.length_append, h.lp] at this
theorem RTail.cell4 (h : RTail w W k g4 o4 c4 g5 o5 c5 cs m P u b) : W.cell? ⟨g4, o4 + k, none⟩ = some (.int .i64 m) ∧ W.frozen? ⟨g4, o4 + k, none⟩ = false := by
  refine h.many.cell ?_
  have := h.lc
  subst this
  simp [nums]
theorem RTail.cell5 (h : RTail w W k g4 o4 c4 g5 o5 c5 cs m P u b) : W.cell? ⟨g5, o5 + k, none⟩ = some u ∧ W.frozen? ⟨g5, o5 + k, none⟩ = false := by
  refine h.hdr.cell ?_
  have := h.lp
  subst this
  simp
theorem RTail.inc (h : RTail w W k g4 o4 c4 g5 o5 c5 cs m P u b) : RTail w (W.setCell ⟨g4, o4 + k, none⟩ (.int .i64 ((m : Int) + 1))) k g4 o4 c4 g5 o5 c5 cs (m + 1) P u b := by
  obtain ⟨s1, f1⟩ := h.many.store k (by omega) (.int .i64 ((m : Int) + 1))
  have e : (nums .i64 (cs ++ [(m : Int)])).set k (.int .i64 ((m : Int) + 1)) = nums .i64 (cs ++ [((m + 1 : Nat) : Int)]) := by
    have := h.lc
    subst this
    simp [nums]
  rw [e] at s1
  refine ⟨s1, ⟨Win.fr h.bl.hdr f1 (fun k hk => win_apart h.bl.hdr h.many (by decide) hk), fun q hq => Win.fr (h.bl.win q hq) f1 (fun k hk => win_apart (h.bl.win q hq) h.many (by decide) hk), h.bl.sep⟩, acc h.bel (Nat.le_refl _) f1 (fun i hi => (h.many.at_ hi).1), h.lc, h.lp⟩
theorem RTail.no (h : RTail w W k g4 o4 c4 g5 o5 c5 cs m P u b) (hf : Fr No W W1) : RTail w W1 k g4 o4 c4 g5 o5 c5 cs m P u b :=
  ⟨h.many.below hf.no, h.bl.below hf.no, accNo h.bel (Nat.le_refl _) hf, h.lc, h.lp⟩
theorem RTail.lastB (h : RTail w W k g4 o4 c4 g5 o5 c5 cs m P u b) : Acc W w.heap.size u b := h.bl.win (u, b) (by simp)
theorem RTail.cell5' (h : RTail w W k g4 o4 c4 g5 o5 c5 cs m P u b) (g3 : Fr (At u) W W1) : W1.cell? ⟨g5, o5 + k, none⟩ = some u ∧ W1.frozen? ⟨g5, o5 + k, none⟩ = false := by
  refine Win.cell (Win.fr h.hdr g3 (fun k hk => win_apart h.hdr h.lastB (by decide) hk)) ?_
  have := h.lp
  subst this
  simp
theorem RTail.app (h : RTail w W k g4 o4 c4 g5 o5 c5 cs m P u b) (g1 : Acc W1 w.heap.size u1 b1) (g3 : Fr (At u) W W1) (g4' : rb u1 = rb u ∨ rb u1 = some W.heap.size) : RTail w (W1.setCell ⟨g5, o5 + k, none⟩ u1) k g4 o4 c4 g5 o5 c5 cs m P u1 b1 := by
  obtain ⟨s1, f1⟩ := Blks.grow h.bl (by rw [h.lp]) g1 g3 g4'
  rw [h.lp] at s1
  rw [h.lp] at f1
  have hm1 := Win.fr h.many g3 (fun k hk => win_apart h.many h.lastB (by decide) hk)
  have hh1 := Win.fr h.hdr g3 (fun k hk => win_apart h.hdr h.lastB (by decide) hk)
  exact ⟨Win.fr hm1 f1 (fun k hk => win_apart hm1 hh1 (by decide) hk), s1, acc (acc h.bel (Nat.le_refl _) g3 (fun i hi => (Win.at_ h.lastB hi).1)) (Nat.le_refl _) f1 (fun i hi => (hh1.at_ hi).1), h.lc, h.lp⟩
end
/-- Back to the loop's state. -/
theorem RTail.full {w W W0 : World} {d : List (List Ent)} {i k g4 o4 c4 g5 o5 c5 : Nat} {v4 v5 u : Value} {B : List (Value × List Int)} {C : List Chk} {x : List Ent} (h0 : RCut w d i W0 v4 v5 B C) (hf : fullC C = true) (hx : d[i]? = some x) (hl : (docB x).length ≤ 268170)
    (h : RTail w W k g4 o4 c4 g5 o5 c5 (C.map fun c => ((c.t - c.f : Nat) : Int)) 1 B u (docB x)) : RCut w d (i + 1) W (.slice (some ⟨g4, o4, none⟩) (k + 1) c4) (.slice (some ⟨g5, o5, none⟩) (k + 1) c5) (B ++ [(u, docB x)]) (C ++ [⟨i, i + 1, docB x⟩]) := by
  have hk : C.length = k := by have := h.lc; rwa [List.length_map] at this
  refine ⟨?_, h.bl, by rw [List.map_append, List.map_append, h0.eq]; rfl, by rw [cutN_succ (b := docB x) (by rw [List.getElem?_map, hx]; rfl), ← h0.cs, cutStep_full hf], h.bel, by rw [List.length_append]; have := h0.len; simp; omega, fun c hc => ?_⟩
  · have := h.many
    rw [List.length_append, List.map_append, hk]
    simpa using this
  · rcases List.mem_append.1 hc with hc | hc
    · exact h0.small c hc
    · simp only [List.mem_cons, List.mem_nil_iff, or_false] at hc
      subst hc
      show (docB x).length ≤ 300000
      omega
theorem RTail.more {w W W0 : World} {d : List (List Ent)} {i k g4 o4 c4 g5 o5 c5 f t : Nat} {v4 v5 u u0 : Value} {B : List (Value × List Int)} {C : List Chk} {b : List Int} {x : List Ent} (h0 : RCut w d i W0 v4 v5 (B ++ [(u0, b)]) (C ++ [⟨f, t, b⟩])) (hb : b.length < 256) (hx : d[i]? = some x) (hl : (docB x).length ≤ 268170) (hft : f ≤ t ∧ t = i)
    (h : RTail w W k g4 o4 c4 g5 o5 c5 (C.map fun c => ((c.t - c.f : Nat) : Int)) (t - f + 1) B u (b ++ docB x)) : RCut w d (i + 1) W (.slice (some ⟨g4, o4, none⟩) (k + 1) c4) (.slice (some ⟨g5, o5, none⟩) (k + 1) c5) (B ++ [(u, b ++ docB x)]) (C ++ [⟨f, i + 1, b ++ docB x⟩]) := by
  have hk : C.length = k := by have := h.lc; rwa [List.length_map] at this
  have he := h0.eq
  rw [List.map_append, List.map_append] at he
  have he' := List.append_inj_left' he rfl
  refine ⟨?_, h.bl, by rw [List.map_append, List.map_append, he']; rfl, by rw [cutN_succ (b := docB x) (by rw [List.getElem?_map, hx]; rfl), ← h0.cs, cutStep_more (by rw [fullC_last]; exact decide_eq_false (by show ¬ 256 ≤ b.length; omega))], h.bel, by have := h0.len; rw [List.length_append] at this ⊢; simp at this ⊢; omega, fun c hc => ?_⟩
  · have := h.many
    rw [List.length_append, List.map_append, hk]
    have e : t - f + 1 = i + 1 - f := by omega
    rw [e] at this
    simpa using this
  · rcases List.mem_append.1 hc with hc | hc
    · exact h0.small c (List.mem_append_left _ hc)
    · simp only [List.mem_cons, List.mem_nil_iff, or_false] at hc
      subst hc
      show (b ++ docB x).length ≤ 300000
      rw [List.length_append]
      omega
/-- The last chunk ends at the document that is next. -/
theorem cutN_last {B : List (List Int)} : ∀ {i : Nat} {P : List Chk} {c : Chk}, i ≤ B.length → cutN B i = P ++ [c] → c.f ≤ c.t ∧ c.t = i
  | 0, P, c, _, h => by simp [cutN] at h
  | i + 1, P, c, hi, h => by
    refine ⟨(cutN_ft B (i + 1) c (by rw [h]; simp)).1, ?_⟩
    obtain ⟨b, hb⟩ := get_some' (xs := B) (i := i) (by omega)
    rw [cutN_succ hb] at h
    rcases hfull : fullC (cutN B i) with _ | _
    · obtain ⟨Q, y, hq, _⟩ := fullC_some hfull
      rw [hq] at h hfull
      rw [cutStep_more hfull] at h
      have := List.append_inj_right' h rfl
      simp only [List.cons.injEq, and_true] at this
      rw [← this]
    · rw [cutStep_full hfull] at h
      have := List.append_inj_right' h rfl
      simp only [List.cons.injEq, and_true] at this
      rw [← this]
end Go.Proofs.Ytchcimkmjoegdaa.C
namespace Go.Proofs.Ytchcimkmjoegdaa.C
open Go.RowKit Go.Proofs.YtchcimkmjoegdaaW.PrintWords Go.Proofs.YtchcimkmjoegdaaW.PrintMore Go.Proofs.Ytchcimkmjoegdaa.M
set_option linter.unusedVariables false
set_option linter.unusedSimpArgs false

theorem ints_bound {n : Nat} (h : n ≤ 16384) : n + 1 ≤ maxLen ∧ (n + 1 + (n + 1) / 4 + 700) * 8 ≤ 281474976710656 := by
  constructor
  · simp only [maxLen]; omega
  · omega
theorem rows_bound {n : Nat} (h : n ≤ 16384) : n + 1 ≤ maxLen ∧ (n + 1 + (n + 1) / 4 + 700) * 24 ≤ 281474976710656 := by
  constructor
  · simp only [maxLen]; omega
  · omega
theorem blks_apart {W W1 : World} {base n : Nat} {v v4 : Value} {B : List (Value × List Int)} {xs : List Value} (h : Blks W base v B) (hm : Win W base 3 1 v4 n xs) (g3 : Fr (At v4) W W1) : Blks W1 base v B :=
  ⟨Win.fr h.hdr g3 (fun k hk => win_apart h.hdr hm (by decide) hk), fun q hq => Win.fr (h.win q hq) g3 (fun k hk => win_apart (h.win q hq) hm (by decide) hk), h.sep⟩
theorem rcut_pushed {w W1 W2 : World} {k g4 o4 c4 g5 o5 c5 : Nat} {v5 : Value} {B : List (Value × List Int)} {C : List Chk} (hk : C.length = k) (hb : B.length = k)
    (hm : Win W1 w.heap.size 3 1 (.slice (some ⟨g4, o4, none⟩) (k + 1) c4) (k + 1) (nums .i64 (C.map fun c => ((c.t - c.f : Nat) : Int)) ++ [.int .i64 0])) (hbl : Blks W1 w.heap.size v5 B) (hbel : Below w.heap.size w W1)
    (g1 : Win W2 w.heap.size 22 1 (.slice (some ⟨g5, o5, none⟩) (k + 1) c5) (k + 1) (B.map Prod.fst ++ [.slice none 0 0])) (g3 : Fr (At v5) W1 W2) : RTail w W2 k g4 o4 c4 g5 o5 c5 (C.map fun c => ((c.t - c.f : Nat) : Int)) 0 B (.slice none 0 0) [] := by
  refine ⟨?_, Blks.push hbl (by rw [hb]; exact g1) g3, acc hbel (Nat.le_refl _) g3 (fun i hi => (hbl.hdr.at_ hi).1), by rw [List.length_map]; exact hk, hb⟩
  have := Win.fr hm g3 (fun k hk => win_apart hm hbl.hdr (by decide) hk)
  rw [nums_append]
  exact this
theorem rt_cell4s {w W : World} {k g4 o4 c4 g5 o5 c5 m : Nat} {cs : List Int} {P : List (Value × List Int)} {u : Value} {b : List Int} (h : RTail w W k g4 o4 c4 g5 o5 c5 cs m P u b) : W.cell? ⟨g4, o4 + k, none⟩ = some (.int .i64 m) ∧ W.frozen? ⟨g4, o4 + k, none⟩ = false := h.cell4
theorem rt_incs {w W : World} {k g4 o4 c4 g5 o5 c5 : Nat} {cs : List Int} {P : List (Value × List Int)} {u : Value} {b : List Int} (h : RTail w W k g4 o4 c4 g5 o5 c5 cs 0 P u b) : RTail w (W.setCell ⟨g4, o4 + k, none⟩ (.int .i64 1)).drew k g4 o4 c4 g5 o5 c5 cs 1 P u b := h.inc.no (Fr.of_No (below_drew (Below.refl _ _)))
theorem rt_cell4z {w W : World} {g4 o4 c4 g5 o5 c5 m : Nat} {cs : List Int} {P : List (Value × List Int)} {u : Value} {b : List Int} (h : RTail w W 0 g4 o4 c4 g5 o5 c5 cs m P u b) : W.cell? ⟨g4, o4, none⟩ = some (.int .i64 m) ∧ W.frozen? ⟨g4, o4, none⟩ = false := h.cell4
theorem rt_incz {w W : World} {g4 o4 c4 g5 o5 c5 : Nat} {cs : List Int} {P : List (Value × List Int)} {u : Value} {b : List Int} (h : RTail w W 0 g4 o4 c4 g5 o5 c5 cs 0 P u b) : RTail w (W.setCell ⟨g4, o4, none⟩ (.int .i64 1)).drew 0 g4 o4 c4 g5 o5 c5 cs 1 P u b := h.inc.no (Fr.of_No (below_drew (Below.refl _ _)))
set_option maxRecDepth 100000 in
set_option maxHeartbeats 4000000 in
theorem rcuts_any (w : World) (A : Option Addr) (n c : Nat) (L : List (Value × List (Value × Ent))) (h : DocsR w A n c L) (ho : okDs (L.map docOf) = true) :
    Calls Try.prog 70 #[.slice A n c] w fun e W' => ∃ v4 v5 B, e = .returned (.tuple #[v4, v5]) ∧ RCut w (L.map docOf) (L.map docOf).length W' v4 v5 B (cutsF (L.map docOf)) ∧ Fr No w W' := by
  have HSM := Aside0.mk (docs_small h ho)
  obtain ⟨d, hd⟩ : ∃ d, L.map docOf = d := ⟨_, rfl⟩
  rw [hd] at ho HSM ⊢
  have HD := Aside0.mk h
  have hc := h.cap
  have HDL := Aside0.mk (show d.length = n from by rw [← hd, List.length_map]; exact h.len)
  have HM := Aside0.mk (show ∀ (i : Nat) (p : Value × List (Value × Ent)), L[i]? = some p → d[i]? = some (docOf p) from fun i p h => by rw [← hd, List.getElem?_map, h]; rfl)
  have HOK := Aside0.mk (show ∀ x ∈ d, okD x = true from by
    unfold okDs at ho
    rw [Bool.and_eq_true, List.all_eq_true] at ho
    exact ho.2)
  have hn2 : n ≤ 16384 := by
    unfold okDs at ho
    rw [Bool.and_eq_true, decide_eq_true_eq] at ho
    rw [← HDL.out]
    exact ho.1
  clear h hd ho
  go_enter Try.func70, Try.ntmps70
  go_wp2_with fail
  go_loopw [4, 5, 6] (fun v4 v5 v6 wr => ∃ (i : Nat) (B : List (Value × List Int)) (C : List Chk), v6 = .int .i64 i ∧ i ≤ n ∧ Aside0 (RCut w d i wr v4 v5 B C)) (fun _ _ v6 _ => n - (intOf v6).toNat)
  case atStart => exact ⟨0, [], [], rfl, by omega, ⟨Win.nil _ _ _ _, Blks.nil _ _, rfl, rfl, Below.refl _ _, Nat.le_refl _, fun c hc => nomatch hc⟩⟩
  case round =>
    obtain ⟨i, B, C, rfl, hi, HC⟩ := hrel
    obtain ⟨A4, c4, e4, hc4⟩ := Win.shape HC.out.many
    obtain ⟨A5, c5, e5, hc5⟩ := Win.shape HC.out.bl.hdr
    subst e4
    subst e5
    have HBC := Aside0.mk (show B.length = C.length from by have := congrArg List.length HC.out.eq; rwa [List.length_map, List.length_map] at this)
    obtain ⟨k, hk⟩ : ∃ k, C.length = k := ⟨_, rfl⟩
    rw [HBC.out] at hc5
    rw [HBC.out, hk]
    rw [hk] at hc4 hc5
    have HCk := Aside0.mk (show RCut w d i wr (.slice A4 k c4) (.slice A5 k c5) B C from by have h := HC.out; rwa [HBC.out, hk] at h)
    have HK := Aside0.mk hk
    have HKB := Aside0.mk (HBC.out.trans hk)
    have hk2 : k ≤ 16384 := by have := HC.out.len; omega
    clear HC HBC hk
    by_cases hlt : i < n
    · obtain ⟨p, hp⟩ := get_some' (xs := L) (i := i) (by have := HD.out.len; omega)
      obtain ⟨ad, eA⟩ := docs_ad HD.out hp
      subst eA
      obtain ⟨Ai, ci, he, hdoc⟩ := HD.out.part p (List.mem_of_getElem? hp)
      obtain ⟨ni, hm⟩ : ∃ k, p.2.length = k := ⟨_, rfl⟩
      rw [hm] at he hdoc
      have HCE := Aside0.mk (show ∀ W : World, Below w.heap.size w W → W.cell? (ad.add i) = some (.slice Ai ni ci) from fun W hW => by
        have := rdv_some (f := Prod.fst) (HD.out.below hW).hdr hp
        rwa [he] at this)
      have HX := Aside0.mk (HM.out i p hp)
      obtain ⟨x, hx⟩ : ∃ x, docOf p = x := ⟨_, rfl⟩
      rw [hx] at HX
      have HFM := Aside0.mk (show ∀ W : World, Below w.heap.size w W → Calls Try.prog 108 #[.slice Ai ni ci] W fun e W' => ∃ v, e = .returned v ∧ Acc W' W.heap.size v (docB x) ∧ Fr No W W' from fun W hW => by
        have := rform_any W Ai ni ci p.2 (hdoc.below hW) (by show okD (docOf p) = true; rw [hx]; exact HOK.out _ (List.mem_of_getElem? HX.out))
        rwa [show p.2.map Prod.snd = x from hx] at this)
      have HLX := Aside0.mk (HSM.out (docB x) (List.mem_map.2 ⟨x, List.mem_of_getElem? HX.out, rfl⟩))
      obtain ⟨lx, hlx⟩ : ∃ k, (docB x).length = k := ⟨_, rfl⟩
      have HLN := Aside0.mk hlx
      have hlx2 : lx ≤ 268170 := by have := HLX.out; omega
      have HIB := Aside0.mk (ints_bound hk2)
      have HLB := Aside0.mk (small_bound (n := 0 + lx) (by omega))
      have HRB := Aside0.mk (rows_bound hk2)
      clear hp he hdoc hm hx hlx
      cases k with
      | zero =>
        go_wp2_with (first | ((with_reducible refine gate_builtin (b := .append) (xs := #[.tmp 30, .tmp 31]) rfl ?_); at_builtin; go_must (refine wpl_append1 w1 w.heap.size rfl (.tmp 30) (.tmp 31) 42 22 (.slice none 0 0) 1 24 rfl Try.underlying42 info22 rfl (.slice A5 (0) c5) (0) (B.map Prod.fst) [.slice none 0 0] rfl rfl (by have h := BL1.out.hdr; rwa [HKB.out] at h) rfl (by simp [Value.oneCell']) B1.out.size HRB.out.1 HRB.out.2 ?_; intro v2 w2 g1 _ g3 _; obtain ⟨g5, o5, c5', e2, l2⟩ := Win.shape1 g1 (Nat.succ_pos _); subst e2; have RT2 := Aside0.mk (rcut_pushed HK.out HKB.out M1.out BL1.out B1.out g1 g3); obtain ⟨k4, k4f⟩ := rt_cell4z RT2.out; have RT3 := Aside0.mk (rt_incz RT2.out); clear g1 g3)) | ((with_reducible refine gate_builtin (b := .append) (xs := #[.tmp 27, .tmp 28]) rfl ?_); at_builtin; go_must (refine wpl_append1 wr w.heap.size rfl (.tmp 27) (.tmp 28) 99 3 (.int .i64 0) 1 8 rfl Try.underlying99 info3 rfl (.slice A4 (0) c4) (0) _ [.int .i64 0] rfl rfl (by have h := HCk.out.many; rwa [HK.out] at h) rfl (by simp [Value.oneCell']) HCk.out.bel.size HIB.out.1 HIB.out.2 ?_; intro v1 w1 g1 _ g3 _; obtain ⟨g4, o4, c4', e1, l1⟩ := Win.shape1 g1 (Nat.succ_pos _); subst e1; have M1 := Aside0.mk g1; have BL1 := Aside0.mk (blks_apart HCk.out.bl HCk.out.many g3); have B1 := Aside0.mk (acc HCk.out.bel (Nat.le_refl _) g3 (fun k hk => (Win.at_ HCk.out.many hk).1)); clear g1 g3)))
        have hk5 := RT3.out.cell5.1
        simp only [Nat.add_zero] at hk5
        have hkd := HCE.out _ RT3.out.bel
        go_region_law (first | (refine step_append w4 w.heap.size rfl (.tmp 46) (.tmp 51) 22 22 5 (.int .u8 0) 1 1 (.slice 5) rfl Try.underlying22 Try.underlying22 (.inl ⟨_, rfl⟩) info5 rfl (.slice none 0 0) 0 (nums .u8 []) (.slice A6 lx c6) lx (nums .u8 (docB x)) rfl rfl (Win.nil _ _ _ _) (Src.of_rd (RdV.of_win Q4.out) (by rw [nums_length, HLN.out, Nat.mul_one]) (nums_one _ _)) RT4.out.bel.size HLB.out.1 HLB.out.2 ?_; intro v5 w5 g1 _ g3 g4; obtain ⟨A7, c7, e7, _⟩ := Win.shape g1; rw [Nat.zero_add] at e7; subst e7; have k5 : w5.cell? ⟨g5, o5, none⟩ = some (.slice none 0 0) := (RT4.out.cell5' g3).1; have k5f : w5.frozen? ⟨g5, o5, none⟩ = false := (RT4.out.cell5' g3).2; have RT5 := Aside0.mk (RTail.app RT4.out (b1 := docB x) (Acc.of (n := 0 + lx) (by rw [← nums_append] at g1; exact g1)) g3 g4); clear g1 g3 g4) | (go_simp; go_at_call 108; refine (HFM.out _ RT3.out.bel).mono ?_; rintro e' w4 ⟨v4, rfl, q1, q2⟩; obtain ⟨A6, c6, e6, _⟩ := Win.shape q1; rw [HLN.out] at e6; subst e6; have Q4 := Aside0.mk q1; have RT4 := Aside0.mk (RT3.out.no q2); have hS4 : w4.cell? ⟨g5, o5, none⟩ = some (.slice none 0 0) := RT4.out.cell5.1; clear q1 q2))
        all_goals
          go_wp2_with fail
          go_roundw
          case rel => exact ⟨i + 1, B ++ [(_, docB x)], C ++ [⟨i, i + 1, docB x⟩], by simp, by omega, ⟨RTail.full HCk.out (by have := List.eq_nil_of_length_eq_zero HK.out; subst this; rfl) HX.out HLX.out RT5.out⟩⟩
          case measure => simp [intOf]; omega
      | succ k =>
        obtain ⟨P, q, rfl⟩ : ∃ P q, C = P ++ [q] := by
          rcases List.eq_nil_or_concat C with rfl | ⟨P, q, rfl⟩
          · have := HK.out; simp at this
          · exact ⟨P, q, List.concat_eq_append⟩
        obtain ⟨PB, q2, rfl⟩ : ∃ P q, B = P ++ [q] := by
          rcases List.eq_nil_or_concat B with rfl | ⟨P, q, rfl⟩
          · have := HKB.out; simp at this
          · exact ⟨P, q, List.concat_eq_append⟩
        obtain ⟨f, t, b⟩ := q
        obtain ⟨u, b'⟩ := q2
        obtain rfl : b' = b := by
          have he := HCk.out.eq
          rw [List.map_append, List.map_append] at he
          have := List.append_inj_right' he rfl
          simpa using this
        have hkP : P.length = k := by have := HK.out; rw [List.length_append] at this; simpa using this
        have hkB : PB.length = k := by have := HKB.out; rw [List.length_append] at this; simpa using this
        have HFT := Aside0.mk (cutN_last (by rw [List.length_map, HDL.out]; omega) HCk.out.cs.symm)
        obtain ⟨g4, o4, c4', e4, _⟩ := Win.shape1 (by have h := HCk.out.many; rwa [HK.out] at h) (Nat.succ_pos _)
        injection e4 with e4 _ e4'
        subst e4
        subst e4'
        obtain ⟨g5, o5, c5', e5, _⟩ := Win.shape1 (by have h := HCk.out.bl.hdr; rwa [HKB.out] at h) (Nat.succ_pos _)
        injection e5 with e5 _ e5'
        subst e5
        subst e5'
        obtain ⟨m, hm⟩ : ∃ m, t - f = m := ⟨_, rfl⟩
        have RT0 := Aside0.mk (show RTail w wr k g4 o4 c4 g5 o5 c5 (P.map fun c => ((c.t - c.f : Nat) : Int)) m PB u b' from ⟨by
          have h := HCk.out.many
          rw [HK.out, List.map_append] at h
          rw [← hm]
          simpa using h, HCk.out.bl, HCk.out.bel, by rw [List.length_map]; exact hkP, hkB⟩)
        obtain ⟨Au, cu, eu, hcu⟩ := Win.shape RT0.out.lastB
        subst eu
        obtain ⟨nb, hnb⟩ : ∃ k, b'.length = k := ⟨_, rfl⟩
        have HNB := Aside0.mk hnb
        have hk5 := RT0.out.cell5.1
        rw [hnb] at hk5 hcu RT0
        have hbs : nb ≤ 300000 := by rw [← hnb]; exact HCk.out.small (Chk.mk f t b') (by simp)
        by_cases hbig : 256 ≤ nb
        · have HFU := Aside0.mk (show fullC (P ++ [Chk.mk f t b']) = true from by rw [fullC_last]; exact decide_eq_true (by show 256 ≤ b'.length; omega))
          clear hkP hkB hm hnb
          go_wp2_with (first | ((with_reducible refine gate_builtin (b := .append) (xs := #[.tmp 30, .tmp 31]) rfl ?_); at_builtin; go_must (refine wpl_append1 w1 w.heap.size rfl (.tmp 30) (.tmp 31) 42 22 (.slice none 0 0) 1 24 rfl Try.underlying42 info22 rfl (.slice (some ⟨g5, o5, none⟩) (k + 1) c5) (k + 1) ((PB ++ [(Value.slice Au b'.length cu, b')]).map Prod.fst) [.slice none 0 0] rfl rfl (by have h := BL1.out.hdr; rwa [HKB.out] at h) rfl (by simp [Value.oneCell']) B1.out.size HRB.out.1 HRB.out.2 ?_; intro v2 w2 g1 _ g3 _; obtain ⟨g5, o5, c5', e2, l2⟩ := Win.shape1 g1 (Nat.succ_pos _); subst e2; have RT2 := Aside0.mk (rcut_pushed HK.out HKB.out M1.out BL1.out B1.out g1 g3); obtain ⟨k4, k4f⟩ := rt_cell4s RT2.out; have RT3 := Aside0.mk (rt_incs RT2.out); clear g1 g3)) | ((with_reducible refine gate_builtin (b := .append) (xs := #[.tmp 27, .tmp 28]) rfl ?_); at_builtin; go_must (refine wpl_append1 wr w.heap.size rfl (.tmp 27) (.tmp 28) 99 3 (.int .i64 0) 1 8 rfl Try.underlying99 info3 rfl (.slice (some ⟨g4, o4, none⟩) (k + 1) c4) (k + 1) _ [.int .i64 0] rfl rfl (by have h := HCk.out.many; rwa [HK.out] at h) rfl (by simp [Value.oneCell']) HCk.out.bel.size HIB.out.1 HIB.out.2 ?_; intro v1 w1 g1 _ g3 _; obtain ⟨g4, o4, c4', e1, l1⟩ := Win.shape1 g1 (Nat.succ_pos _); subst e1; have M1 := Aside0.mk g1; have BL1 := Aside0.mk (blks_apart HCk.out.bl HCk.out.many g3); have B1 := Aside0.mk (acc HCk.out.bel (Nat.le_refl _) g3 (fun k hk => (Win.at_ HCk.out.many hk).1)); clear g1 g3)))
          have hk6 := RT3.out.cell5.1
          have i1 : (0 : Int) ≤ (k : Int) + 1 := by omega
          have i2 : (k : Int) + 1 < (k : Int) + 1 + 1 := by omega
          have i3 : ((k : Int) + 1).toNat = k + 1 := by omega
          have hkd := HCE.out _ RT3.out.bel
          go_region_law (first | (refine step_append w4 w.heap.size rfl (.tmp 46) (.tmp 51) 22 22 5 (.int .u8 0) 1 1 (.slice 5) rfl Try.underlying22 Try.underlying22 (.inl ⟨_, rfl⟩) info5 rfl (.slice none 0 0) 0 (nums .u8 []) (.slice A6 lx c6) lx (nums .u8 (docB x)) rfl rfl (Win.nil _ _ _ _) (Src.of_rd (RdV.of_win Q4.out) (by rw [nums_length, HLN.out, Nat.mul_one]) (nums_one _ _)) RT4.out.bel.size HLB.out.1 HLB.out.2 ?_; intro v5 w5 g1 _ g3 g4; obtain ⟨A7, c7, e7, _⟩ := Win.shape g1; rw [Nat.zero_add] at e7; subst e7; have k5 : w5.cell? ⟨g5, o5 + (k + 1), none⟩ = some (.slice none 0 0) := (RT4.out.cell5' g3).1; have k5f : w5.frozen? ⟨g5, o5 + (k + 1), none⟩ = false := (RT4.out.cell5' g3).2; have RT5 := Aside0.mk (RTail.app RT4.out (b1 := docB x) (Acc.of (n := 0 + lx) (by rw [← nums_append] at g1; exact g1)) g3 g4); clear g1 g3 g4) | (go_simp; go_at_call 108; refine (HFM.out _ RT3.out.bel).mono ?_; rintro e' w4 ⟨v4, rfl, q1, q2⟩; obtain ⟨A6, c6, e6, _⟩ := Win.shape q1; rw [HLN.out] at e6; subst e6; have Q4 := Aside0.mk q1; have RT4 := Aside0.mk (RT3.out.no q2); have hS4 : w4.cell? ⟨g5, o5 + (k + 1), none⟩ = some (.slice none 0 0) := RT4.out.cell5.1; clear q1 q2))
          all_goals
            go_wp2_with fail
            go_roundw
            case rel => exact ⟨i + 1, _ ++ [(_, docB x)], (P ++ [Chk.mk f t b']) ++ [⟨i, i + 1, docB x⟩], by simp, by omega, ⟨RTail.full HCk.out HFU.out HX.out HLX.out RT5.out⟩⟩
            case measure => simp [intOf]; omega
        · have hm2 : m ≤ 16384 := by have := HFT.out.2; have h2 : t = i := this; omega
          have HMM := Aside0.mk hm
          have HLB2 := Aside0.mk (small_bound (n := nb + lx) (by omega))
          obtain ⟨k4, k4f⟩ := RT0.out.cell4
          have RT3 := Aside0.mk (RTail.no (RTail.inc RT0.out) (Fr.of_No (below_drew (Below.refl _ _))))
          clear hkP hkB hm hnb
          go_wp2_with fail
          have hk6 := RT3.out.cell5.1
          have hkd := HCE.out _ RT3.out.bel
          have i1 : (0 : Int) ≤ (k : Int) := by omega
          have i2 : (k : Int) < (k : Int) + 1 := by omega
          go_region_law (first | (refine step_append w4 w.heap.size rfl (.tmp 46) (.tmp 51) 22 22 5 (.int .u8 0) 1 1 (.slice 5) rfl Try.underlying22 Try.underlying22 (.inl ⟨_, rfl⟩) info5 rfl (.slice Au nb cu) nb (nums .u8 b') (.slice A6 lx c6) lx (nums .u8 (docB x)) rfl rfl (by have h := RT4.out.lastB; unfold Acc at h; rwa [HNB.out] at h) (Src.of_rd (RdV.of_win Q4.out) (by rw [nums_length, HLN.out, Nat.mul_one]) (nums_one _ _)) RT4.out.bel.size HLB2.out.1 HLB2.out.2 ?_; intro v5 w5 g1 _ g3 g4; obtain ⟨A7, c7, e7, _⟩ := Win.shape g1; subst e7; have k5 : w5.cell? ⟨g5, o5 + k, none⟩ = some (.slice Au nb cu) := (RT4.out.cell5' g3).1; have k5f : w5.frozen? ⟨g5, o5 + k, none⟩ = false := (RT4.out.cell5' g3).2; have RT5 := Aside0.mk (RTail.app RT4.out (b1 := b' ++ docB x) (Acc.of (n := nb + lx) (by rw [← nums_append] at g1; exact g1)) g3 g4); clear g1 g3 g4) | (go_simp; go_at_call 108; refine (HFM.out _ RT3.out.bel).mono ?_; rintro e' w4 ⟨v4, rfl, q1, q2⟩; obtain ⟨A6, c6, e6, _⟩ := Win.shape q1; rw [HLN.out] at e6; subst e6; have Q4 := Aside0.mk q1; have RT4 := Aside0.mk (RT3.out.no q2); have hS4 : w4.cell? ⟨g5, o5 + k, none⟩ = some (.slice Au nb cu) := RT4.out.cell5.1; clear q1 q2))
          all_goals
            go_wp2_with fail
            go_roundw
            case rel => exact ⟨i + 1, PB ++ [(_, b' ++ docB x)], P ++ [⟨f, i + 1, b' ++ docB x⟩], by simp, by omega, ⟨RTail.more HCk.out (by have := HNB.out; omega) HX.out HLX.out HFT.out (by have h := RT5.out; rw [← HMM.out] at h; exact h)⟩⟩
            case measure => simp [intOf]; omega
    · obtain rfl : n = i := by omega
      go_wp2_with fail
      go_ret2
      exact ⟨_, _, B, rfl, by rw [HDL.out, show cutsF d = C from by unfold cutsF; rw [HDL.out]; exact HCk.out.cs.symm]; exact HCk.out, Fr.of_No HCk.out.bel⟩
end Go.Proofs.Ytchcimkmjoegdaa.C
namespace Go.Proofs.Ytchcimkmjoegdaa.C
open Go.RowKit Go.Proofs.YtchcimkmjoegdaaW.PrintWords Go.Proofs.YtchcimkmjoegdaaW.PrintMore Go.Proofs.Ytchcimkmjoegdaa.M
set_option linter.unusedVariables false
set_option linter.unusedSimpArgs false

set_option maxRecDepth 100000 in
set_option maxHeartbeats 4000000 in
theorem rbuild_any (w : World) (A : Option Addr) (n c : Nat) (L : List (Value × List (Value × Ent))) (h : DocsR w A n c L) :
    Calls Try.prog 67 #[.slice A n c] w fun e W' => ((okDs (L.map docOf) = true ∧ ∃ v, e = .returned v ∧ Acc W' w.heap.size v (buildB (L.map docOf))) ∨ (okDs (L.map docOf) = false ∧ e = .returned (.slice none 0 0))) ∧ Fr No w W' := by
  obtain ⟨d, hd⟩ : ∃ d, L.map docOf = d := ⟨_, rfl⟩
  have HMAY := Aside0.mk (may_any w A n c L h)
  have HCUT := Aside0.mk (fun (W : World) (hW : Below w.heap.size w W) => rcuts_any W A n c L (h.below hW))
  have HDS := Aside0.mk (fun ho => docs_small h ho)
  rw [hd] at HMAY HCUT HDS ⊢
  have hc := h.cap
  have HDL := Aside0.mk (show d.length = n from by rw [← hd, List.length_map]; exact h.len)
  clear h hd
  cases hok : okDs d with
  | false =>
    rw [hok] at HMAY
    clear HCUT hok
    go_enter Try.func67, Try.ntmps67
    go_wp2_with (first | (go_at_call 69; go_must (refine HMAY.out.mono ?_; rintro e' w1 ⟨rfl, q1⟩; have Q1 := Aside0.mk q1; clear q1)))
    go_ret
    exact ⟨.inr ⟨by trivial, rfl⟩, Q1.out⟩
  | true =>
    rw [hok] at HMAY
    have HCU := Aside0.mk (fun (W : World) (hW : Below w.heap.size w W) => HCUT.out W hW hok)
    have HSM := Aside0.mk (HDS.out hok)
    have hn2 : n ≤ 16384 := by
      unfold okDs at hok
      rw [Bool.and_eq_true, decide_eq_true_eq] at hok
      rw [← HDL.out]
      exact hok.1
    obtain ⟨k, hk⟩ : ∃ k, (cutsF d).length = k := ⟨_, rfl⟩
    have HCL := Aside0.mk hk
    have hk2 : k ≤ 16384 := by have := cutN_len (d.map docB) d.length; have h2 : (cutsF d).length ≤ d.length := this; have := HDL.out; omega
    have HCS := Aside0.mk (show ∀ x ∈ cutsF d, x.b.length ≤ 300000 from cutN_small HSM.out _)
    have HBL := Aside0.mk (show ∀ j i, (bldP d j i).length ≤ 4915600020 from bldP_len (by rw [HDL.out]; omega) (by rw [HCL.out]; omega) HCS.out)
    obtain ⟨ln, hln⟩ : ∃ k, (uenc n).length = k := ⟨_, rfl⟩
    obtain ⟨lk, hlk⟩ : ∃ j, (uenc k).length = j := ⟨_, rfl⟩
    have HLN := Aside0.mk hln
    have HLK := Aside0.mk hlk
    have hln2 : ln ≤ 10 := by have := uenc_10 n (by omega); omega
    have hlk2 : lk ≤ 10 := by have := uenc_10 k (by omega); omega
    have HSB := Aside0.mk (small_bound (n := ln + lk) (by omega))
    clear HCUT hok hk hln hlk
    go_enter Try.func67, Try.ntmps67
    go_wp2_with (first | ((with_reducible refine gate_builtin (b := .append) (xs := #[.tmp 20, .tmp 24]) rfl ?_); at_builtin; go_must (refine wpl_append w4 w2.heap.size rfl (.tmp 20) (.tmp 24) 22 22 5 (.int .u8 0) 1 1 (.slice 5) rfl Try.underlying22 Try.underlying22 (.inl ⟨_, rfl⟩) info5 rfl v3 ln (nums .u8 (uenc n)) (.slice A9 lk c9) lk (nums .u8 (uenc k)) rfl rfl (R3.out.below R4.out.2.no) (Src.of_rd (RdV.of_win R4.out.1) (by rw [nums_length, HLK.out, Nat.mul_one]) (nums_one _ _)) (Nat.le_trans F3.out.size R4.out.2.size) HSB.out.1 HSB.out.2 ?_; intro v5 w5 g1 _ g3 _; have G5 := Aside0.mk g1; have F5 := Aside0.mk (own_step (frt F3.out R4.out.2) (R3.out.below R4.out.2.no) g3); clear g1 g3)) | (go_at_call_of 29 k; go_must (refine (refUint_any w3 k (by rw [M64_eq]; omega)).mono ?_; rintro e' w4 ⟨v4, rfl, q1, q2⟩; rw [HLK.out] at q1; obtain ⟨A9, c9, e9, _⟩ := Win.shape q1; subst e9; have R4 := Aside0.mk (And.intro q1 q2); clear q1 q2)) | (go_at_call 29; go_must (refine (refUint_any w2 n (by rw [M64_eq]; omega)).mono ?_; rintro e' w3 ⟨v3, rfl, q1, q2⟩; rw [HLN.out] at q1; have R3 := Aside0.mk q1; have F3 := Aside0.mk q2; clear q1 q2)) | (go_at_call 70; go_must (refine (HCU.out w1 Q1.out.no).mono ?_; rintro e' w2 ⟨vm, vb, B, rfl, q1, q2⟩; obtain ⟨A4, c4, e4, l4⟩ := Win.shape q1.many; obtain ⟨A5, c5, e5, l5⟩ := Win.shape q1.bl.hdr; subst e4; subst e5; have hbl : B.length = k := (by have := congrArg List.length q1.eq; rw [List.length_map, List.length_map, HCL.out] at this; exact this); rw [hbl] at q1 l5 ⊢; rw [HCL.out] at q1 l4 ⊢; have HBB := Aside0.mk hbl; have RC := Aside0.mk q1; have Q2 := Aside0.mk (Q1.out.trans q2 (fun _ _ h => h) (fun _ _ h => h)); clear q1 q2 hbl)) | (go_at_call 69; go_must (refine HMAY.out.mono ?_; rintro e' w1 ⟨rfl, q1⟩; have Q1 := Aside0.mk q1; clear q1)))
    go_loopw [5, 6] (fun v5 v6 wr => ∃ j : Nat, v6 = .int .i64 j ∧ j ≤ k ∧ Aside0 (Acc wr w2.heap.size v5 (bldP d j 0) ∧ Fr No w2 wr)) (fun _ v6 _ => k - (intOf v6).toNat)
    case atStart => exact ⟨0, rfl, by omega, ⟨by have q := G5.out; rw [← nums_append] at q; have q := Acc.of q; unfold bldP; rw [HDL.out, HCL.out]; simpa using q, F5.out⟩⟩
    case round =>
      obtain ⟨j, rfl, hj, HW⟩ := hrel
      by_cases hlt : j < k
      · obtain ⟨⟨f, t, b⟩, hG⟩ := get_some' (xs := cutsF d) (i := j) (by have := HCL.out; omega)
        obtain ⟨⟨u, b'⟩, hB⟩ := get_some' (xs := B) (i := j) (by have := HBB.out; omega)
        obtain rfl : b' = b := by
          have h1 := congrArg (fun l => l[j]?) RC.out.eq
          simp only [List.getElem?_map, hG, hB, Option.map_some, Option.some.injEq] at h1
          exact h1
        have hwr := HW.out.2.no
        have hm := RC.out.many.below hwr
        have hb := RC.out.bl.below hwr
        obtain ⟨ad5, e5, hc5⟩ := rdv_at (f := Prod.fst) (RdV.of_win hb.hdr) hB
        subst e5
        have HAcc := hb.win _ (List.mem_of_getElem? hB)
        obtain ⟨Au, cu, eu, hcu⟩ := Win.shape HAcc
        obtain rfl : u = .slice Au b'.length cu := eu
        replace hcu : b'.length ≤ cu := hcu
        have hbs : b'.length ≤ 300000 := HCS.out _ (List.mem_of_getElem? hG)
        obtain ⟨nb, hnb⟩ : ∃ k, b'.length = k := ⟨_, rfl⟩
        simp only at hc5
        have HAC := Aside0.mk (show Win wr w1.heap.size 5 1 (.slice Au nb cu) nb (nums .u8 b') from by rw [← hnb]; exact HAcc)
        have HNB := Aside0.mk hnb
        rw [hnb] at hc5 hcu hbs
        obtain ⟨m, hmm⟩ : ∃ m, t - f = m := ⟨_, rfl⟩
        have hft := cutsF_ft (List.mem_of_getElem? hG)
        have hm2 : m ≤ 16384 := by have h1 : t ≤ d.length := hft.2; have := HDL.out; omega
        obtain ⟨ad4, e4, hc4⟩ := rdv_at (f := Value.int .i64) (l := (cutsF d).map fun c => ((c.t - c.f : Nat) : Int)) (x := (m : Int)) (RdV.of_win hm) (by rw [List.getElem?_map, hG, ← hmm]; rfl)
        subst e4
        have HH := Aside0.mk (show bldP d (j + 1) 0 = bldP d j 0 ++ uenc m ++ uenc nb from by rw [bldP_head hG, ← hmm, ← hnb]; unfold chkH; rw [List.append_assoc])
        obtain ⟨lm, hlm⟩ : ∃ k, (uenc m).length = k := ⟨_, rfl⟩
        obtain ⟨lb, hlb⟩ : ∃ k, (uenc nb).length = k := ⟨_, rfl⟩
        have HLM := Aside0.mk hlm
        have HLB := Aside0.mk hlb
        have hlm2 : lm ≤ 10 := by have := uenc_10 m (by omega); omega
        have hlb2 : lb ≤ 10 := by have := uenc_10 nb (by omega); omega
        obtain ⟨ly, hly⟩ : ∃ k, (bldP d j 0).length = k := ⟨_, rfl⟩
        have HLY := Aside0.mk hly
        have hly2 : ly ≤ 4915600020 := by rw [← hly]; exact HBL.out j 0
        have HS1 := Aside0.mk (small_bound (n := ly + lm) (by omega))
        have HS2 := Aside0.mk (small_bound (n := ly + lm + lb) (by omega))
        have HCR := Aside0.mk (show ∀ W : World, Fr No w2 W → W.cell? (ad5.add j) = some (.slice Au nb cu) from fun W hW => by
          have h := rdv_some (f := Prod.fst) (RdV.of_win (RC.out.bl.hdr.below hW.no)) hB
          rw [← hnb]
          exact h)
        clear hG hB hwr hm hb HAcc hft hmm hlm hlb hly hnb
        go_wp2_with (first | ((with_reducible refine gate_builtin (b := .append) (xs := #[.tmp 40, .tmp 47]) rfl ?_); at_builtin; go_must (refine wpl_append w8 w2.heap.size rfl (.tmp 40) (.tmp 47) 22 22 5 (.int .u8 0) 1 1 (.slice 5) rfl Try.underlying22 Try.underlying22 (.inl ⟨_, rfl⟩) info5 rfl v7 (ly + lm) (nums .u8 (bldP d j 0) ++ nums .u8 (uenc m)) (.slice A8 lb c8) lb (nums .u8 (uenc nb)) rfl rfl (G7.out.below Q8.out.2.no) (Src.of_rd (RdV.of_win Q8.out.1) (by rw [nums_length, HLB.out, Nat.mul_one]) (nums_one _ _)) (Nat.le_trans F7.out.size Q8.out.2.size) HS2.out.1 HS2.out.2 ?_; intro v9 w9 g1 _ g3 _; have G9 := Aside0.mk g1; have F9 := Aside0.mk (own_step (frt F7.out Q8.out.2) (G7.out.below Q8.out.2.no) g3); clear g1 g3)) | (go_at_call_of 29 nb; go_must (refine (refUint_any w7 nb (by rw [M64_eq]; omega)).mono ?_; rintro e' w8 ⟨v8, rfl, q1, q2⟩; rw [HLB.out] at q1; obtain ⟨A8, c8, e8, _⟩ := Win.shape q1; subst e8; have Q8 := Aside0.mk (And.intro q1 q2); clear q1 q2)) | ((with_reducible refine gate_builtin (b := .append) (xs := #[.tmp 32, .tmp 38]) rfl ?_); at_builtin; go_must (refine wpl_append w6 w2.heap.size rfl (.tmp 32) (.tmp 38) 22 22 5 (.int .u8 0) 1 1 (.slice 5) rfl Try.underlying22 Try.underlying22 (.inl ⟨_, rfl⟩) info5 rfl u5 ly (nums .u8 (bldP d j 0)) (.slice A6 lm c6) lm (nums .u8 (uenc m)) rfl rfl (by have h := HW.out.1.below Q6.out.2.no; unfold Acc at h; rwa [HLY.out] at h) (Src.of_rd (RdV.of_win Q6.out.1) (by rw [nums_length, HLM.out, Nat.mul_one]) (nums_one _ _)) (Nat.le_trans HW.out.2.size Q6.out.2.size) HS1.out.1 HS1.out.2 ?_; intro v7 w7 g1 _ g3 _; have G7 := Aside0.mk g1; have F7 := Aside0.mk (own_step (frt HW.out.2 Q6.out.2) (HW.out.1.below Q6.out.2.no) g3); have hc7 := HCR.out w7 F7.out; clear g1 g3)) | (go_at_call_of 29 m; go_must (refine (refUint_any wr m (by rw [M64_eq]; omega)).mono ?_; rintro e' w6 ⟨v6, rfl, q1, q2⟩; rw [HLM.out] at q1; obtain ⟨A6, c6, e6, _⟩ := Win.shape q1; subst e6; have Q6 := Aside0.mk (And.intro q1 q2); clear q1 q2)))
        go_roundw
        case rel => exact ⟨j + 1, by simp, by omega, ⟨by have q := G9.out; rw [← nums_append, ← nums_append] at q; rw [HH.out]; exact Acc.of q, F9.out⟩⟩
        case measure => simp [intOf]; omega
      · obtain rfl : k = j := by omega
        go_wp2_with fail
        go_loopw [5, 7] (fun v5 v7 wr => ∃ j : Nat, v7 = .int .i64 j ∧ j ≤ k ∧ Aside0 (Acc wr w2.heap.size v5 (bldP d k j) ∧ Fr No w2 wr)) (fun _ v7 _ => k - (intOf v7).toNat)
        case atStart => exact ⟨0, rfl, by omega, HW⟩
        case round =>
          obtain ⟨j, rfl, hj, HW⟩ := hrel
          by_cases hlt : j < k
          · obtain ⟨⟨f, t, b⟩, hG⟩ := get_some' (xs := cutsF d) (i := j) (by have := HCL.out; omega)
            obtain ⟨⟨u, b'⟩, hB⟩ := get_some' (xs := B) (i := j) (by have := HBB.out; omega)
            obtain rfl : b' = b := by
              have h1 := congrArg (fun l => l[j]?) RC.out.eq
              simp only [List.getElem?_map, hG, hB, Option.map_some, Option.some.injEq] at h1
              exact h1
            have hwr := HW.out.2.no
            have hm := RC.out.many.below hwr
            have hb := RC.out.bl.below hwr
            obtain ⟨ad5, e5, hc5⟩ := rdv_at (f := Prod.fst) (RdV.of_win hb.hdr) hB
            subst e5
            have HAcc := hb.win _ (List.mem_of_getElem? hB)
            obtain ⟨Au, cu, eu, hcu⟩ := Win.shape HAcc
            obtain rfl : u = .slice Au b'.length cu := eu
            replace hcu : b'.length ≤ cu := hcu
            have hbs : b'.length ≤ 300000 := HCS.out _ (List.mem_of_getElem? hG)
            obtain ⟨nb, hnb⟩ : ∃ k, b'.length = k := ⟨_, rfl⟩
            simp only at hc5
            have HAC := Aside0.mk (show Win wr w1.heap.size 5 1 (.slice Au nb cu) nb (nums .u8 b') from by rw [← hnb]; exact HAcc)
            have HNB := Aside0.mk hnb
            rw [hnb] at hc5 hcu hbs
            have HH := Aside0.mk (show bldP d k (j + 1) = bldP d k j ++ b' from by rw [bldP_body hG])
            obtain ⟨ly, hly⟩ : ∃ l, (bldP d k j).length = l := ⟨_, rfl⟩
            have HLY := Aside0.mk hly
            have hly2 : ly ≤ 4915600020 := by rw [← hly]; exact HBL.out k j
            have HS1 := Aside0.mk (small_bound (n := ly + nb) (by omega))
            clear hG hB hwr hm hb HAcc hnb hly
            go_wp2_with (first | ((with_reducible refine gate_builtin (b := .append) (xs := #[.tmp 55, .tmp 59]) rfl ?_); at_builtin; go_must (refine wpl_append wr w2.heap.size rfl (.tmp 55) (.tmp 59) 22 22 5 (.int .u8 0) 1 1 (.slice 5) rfl Try.underlying22 Try.underlying22 (.inl ⟨_, rfl⟩) info5 rfl u5 ly (nums .u8 (bldP d k j)) (.slice Au nb cu) nb (nums .u8 b') rfl rfl (by have h := HW.out.1; unfold Acc at h; rwa [HLY.out] at h) (Src.of_rd (RdV.of_win HAC.out) (by rw [nums_length, HNB.out, Nat.mul_one]) (nums_one _ _)) HW.out.2.size HS1.out.1 HS1.out.2 ?_; intro v9 w9 g1 _ g3 _; have G9 := Aside0.mk g1; have F9 := Aside0.mk (own_step HW.out.2 HW.out.1 g3); clear g1 g3)))
            go_roundw
            case rel => exact ⟨j + 1, by simp, by omega, ⟨by have q := G9.out; rw [← nums_append] at q; rw [HH.out]; exact Acc.of q, F9.out⟩⟩
            case measure => simp [intOf]; omega
          · obtain rfl : k = j := by omega
            go_wp2_with fail
            go_ret
            refine ⟨.inl ⟨by trivial, _, rfl, ?_⟩, Q2.out.trans HW.out.2 (fun _ _ h => h) (fun _ _ h => h)⟩
            have h := HW.out.1
            rw [bldP_all d (by rw [HCL.out]; exact Nat.le_refl _)] at h
            exact Win.lower h Q2.out.size
end Go.Proofs.Ytchcimkmjoegdaa.C
namespace Go.Proofs.Ytchcimkmjoegdaa.C
open Go.RowKit Go.Proofs.YtchcimkmjoegdaaW.PrintWords Go.Proofs.YtchcimkmjoegdaaW.PrintMore Go.Proofs.Ytchcimkmjoegdaa.M
set_option linter.unusedVariables false
set_option linter.unusedSimpArgs false

set_option maxHeartbeats 1000000 in
theorem KInts_true (w : World) (A B : Option Addr) (n c d : Nat) (xs : List Int) (hx : RdV w A (nums .i64 xs)) (hy : RdV w B (nums .i64 xs)) (hl : xs.length = n) (hn : n ≤ 9223372036854775807) (hc : n ≤ c) (hd : n ≤ d) :
    Calls Try.prog 92 #[.slice A n c, .slice B n d] w fun e w' => e = .returned (.bool true) ∧ ∃ m, w' = w.drewN m := by
  have HX := Aside0.mk hx
  have HY := Aside0.mk hy
  have HL := Aside0.mk hl
  clear hx hy hl
  go_enter Try.func92, Try.ntmps92
  go_wp2_with fail
  go_loopw [5] (fun v5 wr => ∃ i m : Nat, v5 = .int .i64 i ∧ i ≤ n ∧ wr = w.drewN m) (fun v5 _ => n - (intOf v5).toNat)
  case atStart => exact ⟨0, 0, rfl, by omega, rfl⟩
  case round =>
    obtain ⟨i, m, rfl, hi, rfl⟩ := hrel
    by_cases hlt : i < n
    · obtain ⟨x, hx⟩ := get_some (xs := xs) (i := i) (by have := HL.out; omega)
      obtain ⟨a1, e1, h1⟩ := rd_at HX.out hx
      obtain ⟨a2, e2, h2⟩ := rd_at HY.out hx
      clear hx
      subst e1; subst e2
      go_wp2_with fail
      go_quiet (fail)
      go_wp2_with fail
      go_roundw
      case rel => exact ⟨i + 1, m + nq, by simp, by omega, (by first | rfl | exact World.drewN_drewN ..)⟩
      case measure => simp [intOf]; omega
    · go_wp2_with fail
      go_ret
      exact ⟨rfl, m, rfl⟩
set_option maxHeartbeats 1000000 in
theorem KInts_len (w : World) (A B : Option Addr) (n n' c d : Nat) (h : n ≠ n') (hn : n ≤ 9223372036854775807) (hn' : n' ≤ 9223372036854775807) :
    Calls Try.prog 92 #[.slice A n c, .slice B n' d] w fun e w' => e = .returned (.bool false) ∧ w' = w := by
  have hb : ((n : Int) != (n' : Int)) = true := by simp; omega
  clear h
  go_enter Try.func92, Try.ntmps92
  go_wp2_with fail
  go_ret
  exact ⟨rfl, rfl⟩
set_option maxHeartbeats 1000000 in
theorem KInts_false (w : World) (A B : Option Addr) (n c d : Nat) (xs ys : List Int) (hx : RdV w A (nums .i64 xs)) (hy : RdV w B (nums .i64 ys)) (hl : xs.length = n) (hl' : ys.length = n) (hn : n ≤ 9223372036854775807) (hc : n ≤ c) (hd : n ≤ d) (hne : xs ≠ ys) :
    Calls Try.prog 92 #[.slice A n c, .slice B n d] w fun e w' => e = .returned (.bool false) ∧ ∃ m, w' = w.drewN m := by
  have HX := Aside0.mk hx
  have HY := Aside0.mk hy
  have HL := Aside0.mk hl
  have HL' := Aside0.mk hl'
  have HNE := Aside0.mk hne
  clear hx hy hl hl' hne
  go_enter Try.func92, Try.ntmps92
  go_wp2_with fail
  go_loopw [5] (fun v5 wr => ∃ i m : Nat, v5 = .int .i64 i ∧ i ≤ n ∧ wr = w.drewN m ∧ Aside0 (xs.take i = ys.take i)) (fun v5 _ => n - (intOf v5).toNat)
  case atStart => exact ⟨0, 0, rfl, by omega, rfl, ⟨rfl⟩⟩
  case round =>
    obtain ⟨i, m, rfl, hi, rfl, HT⟩ := hrel
    by_cases hlt : i < n
    · obtain ⟨x, hx⟩ := get_some (xs := xs) (i := i) (by have := HL.out; omega)
      obtain ⟨y, hy⟩ := get_some (xs := ys) (i := i) (by have := HL'.out; omega)
      obtain ⟨a1, e1, h1⟩ := rd_at HX.out hx
      obtain ⟨a2, e2, h2⟩ := rd_at HY.out hy
      have HXX := Aside0.mk hx
      have HYY := Aside0.mk hy
      clear hx hy
      subst e1; subst e2
      by_cases hxy : x = y
      · subst hxy
        go_wp2_with fail
        go_quiet (fail)
        go_wp2_with fail
        go_roundw
        case rel => exact ⟨i + 1, m + nq, by simp, by omega, (by first | rfl | exact World.drewN_drewN ..), ⟨by rw [take_succ_of HXX.out, take_succ_of HYY.out, HT.out]⟩⟩
        case measure => simp [intOf]; omega
      · have hb : (x != y) = true := by simp [hxy]
        clear hxy
        go_wp2_with fail
        go_quiet (fail)
        go_wp2_with fail
        go_ret
        exact ⟨rfl, m + nq, (by first | rfl | exact World.drewN_drewN ..)⟩
    · exact absurd (by have := HT.out; rwa [List.take_of_length_le (by have := HL.out; omega), List.take_of_length_le (by have := HL'.out; omega)] at this) HNE.out
/-- kit.Bytes. -/
theorem KInts_any (w : World) (A B : Option Addr) (n n' c d : Nat) (xs ys : List Int) (hx : RdV w A (nums .i64 xs)) (hy : RdV w B (nums .i64 ys)) (hl : xs.length = n) (hl' : ys.length = n') (hn : n ≤ 9223372036854775807) (hn' : n' ≤ 9223372036854775807) (hc : n ≤ c) (hd : n' ≤ d) :
    Calls Try.prog 92 #[.slice A n c, .slice B n' d] w fun e w' => e = .returned (.bool (decide (xs = ys))) ∧ ∃ m, w' = w.drewN m := by
  by_cases h : n = n'
  · subst h
    by_cases hxy : xs = ys
    · subst hxy
      rw [decide_eq_true rfl]
      exact KInts_true w A B n c d xs hx hy hl hn hc hd
    · rw [decide_eq_false hxy]
      exact KInts_false w A B n c d xs ys hx hy hl hl' hn hc hd hxy
  · rw [decide_eq_false (by intro h'; subst h'; omega)]
    exact (KInts_len w A B n n' c d h hn hn').mono fun e w' ⟨h1, h2⟩ => ⟨h1, 0, h2⟩
end Go.Proofs.Ytchcimkmjoegdaa.C
namespace Go.Proofs.Ytchcimkmjoegdaa.C
open Go.RowKit Go.Proofs.YtchcimkmjoegdaaW.PrintWords Go.Proofs.YtchcimkmjoegdaaW.PrintMore Go.Proofs.Ytchcimkmjoegdaa.M
set_option linter.unusedVariables false
set_option linter.unusedSimpArgs false

theorem mapd_succ {D : List (Value × Ent)} {i : Nat} {p : Value × Ent} (h : D[i]? = some p) : (D.take (i + 1)).map Prod.snd = (D.take i).map Prod.snd ++ [p.2] := by
  rw [List.take_add_one, h]
  simp
theorem mapd_get {La Lb : List (Value × Ent)} {i : Nat} {p q : Value × Ent} (hp : La[i]? = some p) (hq : Lb[i]? = some q) (h : p.2 ≠ q.2) : La.map Prod.snd ≠ Lb.map Prod.snd := fun e => by
  have h1 : (La.map Prod.snd)[i]? = (Lb.map Prod.snd)[i]? := by rw [e]
  rw [List.getElem?_map, List.getElem?_map, hp, hq] at h1
  exact h (Option.some.inj h1)
theorem str_ne {a b : ByteArray} (h : a ≠ b) : (a.toList == b.toList) = false := by
  rw [ByteArray.toList_eq, ByteArray.toList_eq, beq_eq_false_iff_ne]
  intro e
  refine h ?_
  obtain ⟨⟨x⟩⟩ := a
  obtain ⟨⟨y⟩⟩ := b
  have e' : x = y := e
  rw [e']
set_option maxRecDepth 100000 in
set_option maxHeartbeats 2000000 in
theorem Entries_any (w : World) (A B : Option Addr) (n n' c d : Nat) (La Lb : List (Value × Ent)) (ha : DocR w A n c La) (hb : DocR w B n' d Lb) :
    Calls Try.prog 42 #[.slice A n c, .slice B n' d] w fun e w' => (∃ r, e = .returned (.bool r) ∧ (r = true ↔ La.map Prod.snd = Lb.map Prod.snd)) ∧ ∃ m, w' = w.drewN m := by
  have hn := ha.max
  have hn' := hb.max
  have HA := Aside0.mk ha
  have HB := Aside0.mk hb
  by_cases hnn : n = n'
  · subst hnn
    clear ha hb
    go_enter Try.func42, Try.ntmps42
    go_wp2_with fail
    go_loopw [5] (fun v5 wr => ∃ i : Nat, v5 = .int .i64 i ∧ i ≤ n ∧ Aside0 ((∃ m, wr = w.drewN m) ∧ (La.take i).map Prod.snd = (Lb.take i).map Prod.snd)) (fun v5 _ => n - (intOf v5).toNat)
    case atStart => exact ⟨0, rfl, by omega, ⟨⟨0, rfl⟩, rfl⟩⟩
    case round =>
      obtain ⟨i, rfl, hi, HR⟩ := hrel
      have HW := Aside0.mk (show Below w.heap.size w wr from by obtain ⟨m, rfl⟩ := HR.out.1; exact pw_below_drewN (Below.refl _ _) m)
      by_cases hlt : i < n
      · obtain ⟨⟨pv, f, t, ns⟩, hp⟩ := get_some' (xs := La) (i := i) (by have := HA.out.len; omega)
        obtain ⟨⟨qv, f', t', ns'⟩, hq⟩ := get_some' (xs := Lb) (i := i) (by have := HB.out.len; omega)
        have da := HA.out.below HW.out
        have db := HB.out.below HW.out
        obtain ⟨a1, e1, h10, h11, h12⟩ := ent_at da.hdr hp
        obtain ⟨a2, e2, h20, h21, h22⟩ := ent_at db.hdr hq
        subst e1; subst e2
        obtain ⟨A1, c1, f1, f2, f3, _, f4, f5, f6⟩ := da.part _ (List.mem_of_getElem? hp)
        obtain ⟨A2, c2, k1, k2, k3, _, k4, k5, k6⟩ := db.part _ (List.mem_of_getElem? hq)
        obtain rfl : pv = .slice A1 ns.length c1 := f1
        obtain rfl : qv = .slice A2 ns'.length c2 := k1
        simp only at h10 h11 h12 h20 h21 h22
        have HC := Aside0.mk (fun m => KInts_any (wr.drewN m) A1 A2 ns.length ns'.length c1 c2 ns ns' (f3.below (pw_below_drewN (Below.refl _ _) m)) (k3.below (pw_below_drewN (Below.refl _ _) m)) rfl rfl (by have : ns.length ≤ 17592186043904 := f4; omega) (by have : ns'.length ≤ 17592186043904 := k4; omega) f2 k2)
        have HP := Aside0.mk hp
        have HQ := Aside0.mk hq
        clear hp hq f2 f3 f4 f5 f6 k2 k3 k4 k5 k6 da db
        generalize hr : decide (ns = ns') = r at HC
        have HRR := Aside0.mk hr
        clear hr
        generalize hl1 : ns.length = l1 at *
        generalize hl2 : ns'.length = l2 at *
        clear hl1 hl2
        by_cases hf : f = f'
        · subst hf
          by_cases ht : t = t'
          · subst ht
            cases r with
            | true =>
              have HE := Aside0.mk (of_decide_eq_true HRR.out)
              go_wp2_with fail
              go_quiet ((go_at_call 92; go_must (exact Calls.quiet_of (HC.out _))))
              go_wp2_with fail
              go_roundw
              case rel => exact ⟨i + 1, by simp, by omega, ⟨(by obtain ⟨m, hm⟩ := HR.out.1; exact ⟨m + nq, by rw [hm]; exact World.drewN_drewN ..⟩), by rw [mapd_succ HP.out, mapd_succ HQ.out, HR.out.2, HE.out]⟩⟩
              case measure => simp [intOf]; omega
            | false =>
              have HE := Aside0.mk (mapd_get HP.out HQ.out (fun e => of_decide_eq_false HRR.out (by injection e)))
              go_wp2_with fail
              go_quiet ((go_at_call 92; go_must (exact Calls.quiet_of (HC.out _))))
              go_wp2_with fail
              go_ret
              exact ⟨⟨false, rfl, by simpa using HE.out⟩, (by obtain ⟨m, hm⟩ := HR.out.1; exact ⟨m + nq, by rw [hm]; exact World.drewN_drewN ..⟩)⟩
          · have HE := Aside0.mk (mapd_get HP.out HQ.out (fun e => ht (by injection e)))
            have hb1 := str_ne ht
            go_wp2_with fail
            go_quiet (fail)
            go_wp2_with fail
            go_ret
            exact ⟨⟨false, rfl, by simpa using HE.out⟩, (by obtain ⟨m, hm⟩ := HR.out.1; exact ⟨m + nq, by rw [hm]; exact World.drewN_drewN ..⟩)⟩
        · have HE := Aside0.mk (mapd_get HP.out HQ.out (fun e => hf (by injection e)))
          have hb1 := str_ne hf
          go_wp2_with fail
          go_quiet (fail)
          go_wp2_with fail
          go_ret
          exact ⟨⟨false, rfl, by simpa using HE.out⟩, (by obtain ⟨m, hm⟩ := HR.out.1; exact ⟨m + nq, by rw [hm]; exact World.drewN_drewN ..⟩)⟩
      · have HE := Aside0.mk (show La.map Prod.snd = Lb.map Prod.snd from by have h := HR.out.2; rwa [List.take_of_length_le (by have := HA.out.len; omega), List.take_of_length_le (by have := HB.out.len; omega)] at h)
        go_wp2_with fail
        go_ret
        exact ⟨⟨true, rfl, ⟨fun _ => HE.out, fun _ => rfl⟩⟩, HR.out.1⟩
  · have hbn : ((n : Int) != (n' : Int)) = true := by simp; omega
    have HE := Aside0.mk (show ¬ La.map Prod.snd = Lb.map Prod.snd from (fun e => by have := congrArg List.length e; rw [List.length_map, List.length_map, ha.len, hb.len] at this; exact hnn this))
    clear hnn ha hb
    go_enter Try.func42, Try.ntmps42
    go_wp2_with fail
    go_ret
    exact ⟨⟨false, rfl, by simpa using HE.out⟩, 0, rfl⟩
end Go.Proofs.Ytchcimkmjoegdaa.C
