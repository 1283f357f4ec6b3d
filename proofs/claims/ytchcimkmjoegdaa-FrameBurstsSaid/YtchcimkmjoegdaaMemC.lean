/- More of the memory words: what an append leaves, told to the place; a store into a window. Conditions: none beyond the hypotheses stated. -/
import Derived.Test.YtchcimkmjoegdaaMemB
namespace Go.Proofs.Ytchcimkmjoegdaa.M
open Go.RowKit Go.Proofs.YtchcimkmjoegdaaW.PrintWords

/-- Where an append leaves its value: in place, or in a new block. -/
def Grew (w w' : World) (v v' : Value) (n m : Nat) : Prop :=
  (∃ A c, v = .slice A n c ∧ v' = .slice A (n + m) c) ∨ (Fr No w w' ∧ ∃ c, v' = .slice (some ⟨w.heap.size, 0, none⟩) (n + m) c)
theorem run_append_win2 {P : Program} (w : World) (base : Nat) (t tx ty e : TypeId) (i : TypeInfo) (z : Value) (dx : TypeDesc) (ht : P.underlying t = some (.slice e)) (htx : P.underlying tx = some dx) (hnx : (∃ q, dx = .slice q) ∨ dx = .string) (hi : P.info? e = some i) (hz : i.zero = some z)
    (hzs : z.cells.size = i.size) (v : Value) (n : Nat) (xs : List Value) (hw : Win w base e i.size v n xs) (x : Value) (m : Nat) (news : List Value) (hs : Src P w i.size x m news)
    (h63 : n + m ≤ maxLen) (hbytes : (n + m + (n + m) / 4 + 700) * i.bytes ≤ 281474976710656) (hbase : base ≤ w.heap.size) :
    ∃ v' w', (Builtin.append_ #[t, tx] ty #[v, x]).run P w = .ok v' w' ∧ Win w' base e i.size v' (n + m) (xs ++ news) ∧ Fr (At v) w w' ∧ Grew w w' v v' n m := by
  have hsmall : n + m ≤ 9223372036854775807 := by simp only [maxLen] at h63; omega
  obtain ⟨v', w', hr, h1, _, h3, h4⟩ := run_append_win (P := P) w base t tx ty e i z dx ht htx hnx hi hz hzs v n xs hw x m news hs h63 hbytes hbase
  refine ⟨v', w', hr, h1, h3, ?_⟩
  obtain ⟨A, c, rfl, hnc⟩ := hw.shape
  by_cases hroom : n + m ≤ c
  · left
    rcases hw.2 with ⟨rfl, A', he⟩ | ⟨g, off, cap, cur, he, hbg, hg, _, hcm, hcs, ht'⟩
    · injection he with e1 _ e3
      subst e1; subst e3
      have hm0 : m = 0 := by omega
      subst hm0
      have hn : news = [] := List.eq_nil_of_length_eq_zero (by rw [hs.len, Nat.zero_mul])
      subst hn
      have hr2 := run_append_stays (ty := ty) w ht htx hnx hi A 0 0 0 x [] hs hroom w (fun a _ => rfl) (fun _ => rfl)
      rw [hr] at hr2
      injection hr2 with hv _
      exact ⟨A, 0, rfl, hv⟩
    · injection he with e1 _ e3
      subst e1; subst e3
      have hfit : off + n * i.size + 0 + news.length ≤ cur.size := by
        have : (n + m) * i.size ≤ c * i.size := Nat.mul_le_mul_right _ hroom
        rw [Nat.add_mul] at this
        rw [hs.len]
        omega
      have hst := run_storeCells_at P g (off + n * i.size) e news 0 cur w hg hfit hs.one
      simp only [Nat.add_zero] at hst
      have hr2 := run_append_stays (ty := ty) w ht htx hnx hi (some ⟨g, off, none⟩) n c m x news hs hroom _ (fun a ha => by injection ha with ha; subst ha; rw [add_at]; exact hst) (fun h => by cases h)
      rw [hr] at hr2
      injection hr2 with hv _
      exact ⟨_, _, rfl, hv⟩
  · right
    have hr2 := run_append_new (ty := ty) w ht htx hnx hi hz A n c m xs (RdV.of_win hw) hw.1 x news hs (by omega) hsmall hbytes
    rw [hr] at hr2
    injection hr2 with hv hw'
    subst hw'
    exact ⟨⟨rfl, rfl, rfl, by simp, fun k hk _ => Go.heap_alloc_old w.drew _ hk⟩, _, hv⟩
section
variable {P : Program} {ops : Array Oper} {rest : List Oper} {o : Oper} {a : Act} {Q : Exit → Act → World → Prop} {K : Act → World → Prop}
theorem wpl_append1b (w : World) (base : Nat) (hgd : o.guard = none) (s x : Operand) (t e : TypeId) (z : Value) (size bytes : Nat)
    (ho : o.op = .call { callee := .builtin .append, args := #[s, x], argTypes := #[t, t] })
    (ht : P.underlying t = some (.slice e)) (hinfo : (P.info? e).map (fun i => (i.zero, i.size, i.bytes)) = some (some z, size, bytes)) (hzs : z.cells.size = size)
    (v : Value) (n : Nat) (xs ys : List Value) (hs : a.eval s = v) (hx : a.eval x = .slice (some ⟨w.heap.size, 0, none⟩) 1 1)
    (HW : Win w base e size v n xs) (hys : ys.length = size) (h1 : ∀ u ∈ ys, u.oneCell' = true) (hbase : base ≤ w.heap.size) (hm : n + 1 ≤ maxLen) (hl : (n + 1 + (n + 1) / 4 + 700) * bytes ≤ 281474976710656)
    (h : ∀ v1 w1, Win w1 base e size v1 (n + 1) (xs ++ ys) → Fr (At v) w w1 → ((∃ A c, v = .slice A n c ∧ v1 = .slice A (n + 1) c) ∨ (Fr No w w1 ∧ ∃ c, v1 = .slice (some ⟨w.heap.size + 1, 0, none⟩) (n + 1) c)) → wpList P ops Q rest (a.put o.dst v1) w1) :
    wpList P ops Q (o :: rest) a (w.alloc (.cells ys.toArray e)) := by
  obtain ⟨i0, hi, hzz⟩ := Option.map_eq_some_iff.1 hinfo
  simp only [Prod.mk.injEq] at hzz
  obtain ⟨hz0, hz1, hz2⟩ := hzz
  subst hz1
  subst hz2
  have hsrc : Src P (w.alloc (.cells ys.toArray e)) i0.size (.slice (some ⟨w.heap.size, 0, none⟩) 1 1) 1 ys := Src.of_rd (fun _ => ⟨_, rfl, by simpa using World.news_of_block (cs := ys.toArray) (t := e) (fr := (0, 0)) (heap_alloc_new w (.cells ys.toArray e))⟩) (by omega) h1
  obtain ⟨v1, w1, hr, g1, g3, g4⟩ := run_append_win2 (P := P) (w.alloc (.cells ys.toArray e)) base t t o.type e i0 z (.slice e) ht ht (.inl ⟨_, rfl⟩) hi hz0 hzs v n xs (HW.below (below_alloc (Below.refl _ _) _)) _ 1 ys hsrc hm hl (by simp; omega)
  refine wpList_plain hgd fun K hK => ?_
  unfold Oper.wp execOp
  simp only [ho, resolve, invoke, builtin, Sem.run_bind, Sem.run_pure, Result.andThen_ok, List.map_toArray, List.map_cons, List.map_nil, hs, hx, hr]
  refine hK _ _ (h v1 w1 g1 ((Fr.alloc (S := At v) w _).trans g3 (fun _ _ h => h) (fun _ _ h => h)) ?_)
  rcases g4 with g4 | ⟨g4, c, g5⟩
  · exact .inl g4
  · exact .inr ⟨(Fr.alloc (S := No) w _).trans g4 (fun _ _ h => h) (fun _ _ h => h), c, by simpa using g5⟩
end
section
variable {w w' : World} {base n c g off : Nat} {e : TypeId} {xs : List Value}
/-- A cell of a window: it is there, and may be written. -/
theorem Win.cell (h : Win w base e 1 (.slice (some ⟨g, off, none⟩) n c) n xs) {j : Nat} {u : Value} (hj : xs[j]? = some u) : w.cell? ⟨g, off + j, none⟩ = some u ∧ w.frozen? ⟨g, off + j, none⟩ = false := by
  rcases h.2 with ⟨h0, A, he⟩ | ⟨g', off', cap, cur, he, hg, hh, hnc, hm, hcs, ht⟩
  · have : xs = [] := List.eq_nil_of_length_eq_zero (by rw [h.1, h0, Nat.zero_mul])
    subst this
    simp at hj
  · injection he with ha _ hc
    injection ha with ha
    injection ha with h1 h2
    subst h1; subst h2; subst hc
    constructor
    · rw [cell_of_row w g _ cur e (0, 0) hh]
      rw [← ht, List.getElem?_take] at hj
      split at hj
      · rw [List.getElem?_drop] at hj
        rw [← Array.getElem?_toList]
        exact hj
      · cases hj
    · simp [World.frozen?, hh]
/-- A cell of a window written. -/
theorem Win.store (h : Win w base e 1 (.slice (some ⟨g, off, none⟩) n c) n xs) (j : Nat) (hj : j < n) (u : Value) : Win (w.setCell ⟨g, off + j, none⟩ u) base e 1 (.slice (some ⟨g, off, none⟩) n c) n (xs.set j u) ∧ Fr (At (.slice (some ⟨g, off, none⟩) n c)) w (w.setCell ⟨g, off + j, none⟩ u) := by
  rcases h.2 with ⟨h0, A, he⟩ | ⟨g', off', cap, cur, he, hg, hh, hnc, hm, hcs, ht⟩
  · omega
  · injection he with ha _ hc
    injection ha with ha
    injection ha with h1 h2
    subst h1; subst h2; subst hc
    refine ⟨⟨by rw [List.length_set]; exact h.1, .inr ⟨g, off, c, cur.setIfInBounds (off + j) u, rfl, hg, ?_, hnc, hm, by simpa using hcs, ?_⟩⟩, Fr.setCell w _ u (rb_slice _ _ _ (by omega))⟩
    · simp [World.setCell, Array.getElem?_modify, hh]
    · rw [← ht, Array.toList_setIfInBounds, Nat.mul_one]
      apply List.ext_getElem?
      intro q
      simp only [List.getElem?_take, List.getElem?_drop, List.getElem?_set, List.length_take, List.length_drop, Array.length_toList]
      by_cases hq : q < n
      · by_cases hqj : j = q
        · subst hqj
          rw [if_pos hq, if_pos rfl, if_pos (by omega), if_pos rfl, if_pos (by omega)]
        · rw [if_pos hq, if_neg (by omega), if_neg hqj, if_pos hq]
      · rw [if_neg hq, if_neg (by omega), if_neg hq]
end
end Go.Proofs.Ytchcimkmjoegdaa.M
