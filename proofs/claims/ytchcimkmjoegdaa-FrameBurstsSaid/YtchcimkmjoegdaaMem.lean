/- The memory words of this claim: frames ('Fr'), rows that a call owns as a window of a block ('Win'), sources of an append ('Src'), and the laws of append, of reading and of writing over them. Conditions: none beyond the hypotheses stated. -/
import Derived.Test.YtchcimkmjoegdaaWWords
import Derived.Test.YtchcimkmjoegdaaWLast
import Derived.Test.YtchcimkmjoegdaaWMore
namespace Go.Proofs.Ytchcimkmjoegdaa.M
open Go.RowKit Go.Proofs.YtchcimkmjoegdaaW.PrintWords

/-- Only blocks of S (and new ones) have turned. -/
structure Fr (S : Nat → Prop) (w w' : World) : Prop where
  os : w'.os = w.os
  tape : w'.tape = w.tape
  output : w'.output = w.output
  size : w.heap.size ≤ w'.heap.size
  block : ∀ k, k < w.heap.size → ¬ S k → w'.heap[k]? = w.heap[k]?

def No : Nat → Prop := fun _ => False
/-- The block that a slice with room lies in. -/
def rb : Value → Option Nat
  | .slice (some a) _ (_ + 1) => some a.block
  | _ => none
theorem rb_slice (a : Addr) (n c : Nat) (h : 0 < c) : rb (.slice (some a) n c) = some a.block := by
  cases c with
  | zero => omega
  | succ c => rfl
theorem rb_own {v : Value} {k : Nat} (h : rb v = some k) : v.ownBlock = some k := by
  unfold rb at h
  split at h
  · exact h
  · cases h
def At (v : Value) : Nat → Prop := fun k => rb v = some k
theorem At.eq {a : Addr} {n c k : Nat} (h : At (.slice (some a) n c) k) : k = a.block := by
  cases c with
  | zero => cases h
  | succ c => exact (Option.some.inj h).symm
theorem At.none {n c k : Nat} (h : At (.slice none n c) k) : False := by cases h
theorem At.zero {A : Option Addr} {n k : Nat} (h : At (.slice A n 0) k) : False := by cases A <;> cases h
def One (g : Nat) : Nat → Prop := fun k => k = g

theorem Fr.refl (S : Nat → Prop) (w : World) : Fr S w w := ⟨rfl, rfl, rfl, Nat.le_refl _, fun _ _ _ => rfl⟩
theorem Fr.trans {S T U : Nat → Prop} {a b c : World} (h : Fr S a b) (k : Fr T b c) (hS : ∀ i, i < a.heap.size → S i → U i) (hT : ∀ i, i < a.heap.size → T i → U i) : Fr U a c :=
  ⟨k.os.trans h.os, k.tape.trans h.tape, k.output.trans h.output, Nat.le_trans h.size k.size, fun i hi hn =>
    (k.block i (Nat.lt_of_lt_of_le hi h.size) (fun ht => hn (hT i hi ht))).trans (h.block i hi (fun hs => hn (hS i hi hs)))⟩
theorem Fr.mono {S U : Nat → Prop} {a b : World} (h : Fr S a b) (hS : ∀ i, i < a.heap.size → S i → U i) : Fr U a b :=
  ⟨h.os, h.tape, h.output, h.size, fun i hi hn => h.block i hi (fun hs => hn (hS i hi hs))⟩
theorem Fr.of_below {w w' : World} (h : Below w.heap.size w w') (S : Nat → Prop) : Fr S w w' := ⟨h.os, h.tape, h.output, h.size, fun k hk _ => h.block k hk⟩
theorem Fr.below {B : Nat} {S : Nat → Prop} {w w' : World} (h : Fr S w w') (hB : B ≤ w.heap.size) (hS : ∀ k, S k → B ≤ k) : Below B w w' :=
  ⟨h.os, h.tape, h.output, h.size, fun k hk => h.block k (by omega) (fun hs => by have := hS k hs; omega)⟩
theorem Fr.no {w w' : World} (h : Fr No w w') : Below w.heap.size w w' := h.below (Nat.le_refl _) (fun _ hk => hk.elim)
theorem Fr.drewN {S : Nat → Prop} (w : World) (n : Nat) : Fr S w (w.drewN n) := Fr.of_below (pw_below_drewN (Below.refl _ _) n) S
theorem Fr.alloc {S : Nat → Prop} (w : World) (o : Obj) : Fr S w (w.alloc o) := Fr.of_below (below_alloc (Below.refl _ _) o) S
theorem Fr.setCell {S : Nat → Prop} (w : World) (p : Addr) (u : Value) (hS : S p.block) : Fr S w (w.setCell p u) :=
  ⟨rfl, rfl, rfl, by simp [World.setCell], fun k _ hn => Below.heap_setCell w p u k (fun e => hn (e ▸ hS))⟩
theorem Fr.of_grown {w w' : World} {row : Option Nat} (h : w.grownBy w' row) : Fr (fun k => row = some k) w w' := ⟨h.os, h.tape, h.output, h.size, fun k hk hn => h.block k hk (fun e => hn e.symm)⟩
/-- One block more of the walk's world: new ones are above. -/
theorem Fr.get {S : Nat → Prop} {w w' : World} (h : Fr S w w') {g : Nat} {o : Obj} (hg : w.heap[g]? = some o) (hn : ¬ S g) : w'.heap[g]? = some o :=
  (h.block g (blk_lt hg) hn).trans hg
theorem Below.getB {B g : Nat} {w w' : World} {o : Obj} (h : Below B w w') (hg : w.heap[g]? = some o) (hB : g < B) : w'.heap[g]? = some o := (h.block g hB).trans hg

/-! ### windows -/
/-- v, a slice of n elements (type e, 'size' cells each), is a window of a block of the call's own (from 'base' on); its cells are xs. -/
def Win (w : World) (base : Nat) (e : TypeId) (size : Nat) (v : Value) (n : Nat) (xs : List Value) : Prop :=
  xs.length = n * size ∧
  ((n = 0 ∧ ∃ A, v = .slice A 0 0) ∨
   ∃ g off cap cur, v = .slice (some ⟨g, off, none⟩) n cap ∧ base ≤ g ∧ w.heap[g]? = some (.cells cur e (0, 0)) ∧ n ≤ cap ∧ cap ≤ maxLen ∧ off + cap * size ≤ cur.size ∧ (cur.toList.drop off).take (n * size) = xs)

section
variable {w w' : World} {base n size : Nat} {e : TypeId} {v : Value} {xs : List Value}
theorem Win.nil (w : World) (base : Nat) (e : TypeId) (size : Nat) : Win w base e size (.slice none 0 0) 0 [] := ⟨by simp, .inl ⟨rfl, none, rfl⟩⟩
theorem Win.of_own (h : w.ownsRow base e size v n xs) : Win w base e size v n xs := by
  obtain ⟨h1, h2⟩ := h
  refine ⟨h1, ?_⟩
  rcases h2 with ⟨rfl, h0⟩ | ⟨g, cap, cur, rfl, hb, hh, hnc, hcm, hcs, ht⟩
  · exact .inl ⟨h0, none, rfl⟩
  · exact .inr ⟨g, 0, cap, cur, rfl, hb, hh, hnc, hcm, by omega, by simpa using ht⟩
theorem Win.len (h : Win w base e size v n xs) : xs.length = n * size := h.1
theorem Win.shape (h : Win w base e size v n xs) : ∃ A c, v = .slice A n c ∧ n ≤ c := by
  rcases h.2 with ⟨h0, A, rfl⟩ | ⟨g, off, cap, cur, rfl, _, _, hnc, _⟩
  · exact ⟨A, 0, by rw [h0], by omega⟩
  · exact ⟨_, cap, rfl, hnc⟩
theorem Win.max (h : Win w base e size v n xs) : n ≤ 9223372036854775807 := by
  rcases h.2 with ⟨h0, _⟩ | ⟨g, off, cap, cur, rfl, hg, hh, hnc, hm, _⟩
  · omega
  · simp only [maxLen] at hm
    omega
theorem Win.move (h : Win w base e size v n xs) (hm : ∀ k, At v k → k < w.heap.size → w'.heap[k]? = w.heap[k]?) : Win w' base e size v n xs := by
  obtain ⟨h1, h2⟩ := h
  refine ⟨h1, ?_⟩
  rcases h2 with h2 | ⟨g, off, cap, cur, rfl, hg, hh, r⟩
  · exact .inl h2
  · rcases Nat.eq_zero_or_pos cap with hc | hc
    · subst hc
      exact .inl ⟨by omega, _, by rw [show n = 0 by omega]⟩
    · exact .inr ⟨g, off, cap, cur, rfl, hg, (hm g (rb_slice _ _ _ hc) (blk_lt hh)).trans hh, r⟩
theorem Win.fr {S : Nat → Prop} (h : Win w base e size v n xs) (hf : Fr S w w') (hn : ∀ k, At v k → ¬ S k) : Win w' base e size v n xs :=
  h.move fun k hk hl => hf.block k hl (hn k hk)
theorem Win.below (h : Win w base e size v n xs) (hf : Below w.heap.size w w') : Win w' base e size v n xs := h.move fun k _ hl => hf.block k hl
theorem Win.lower {base' : Nat} (h : Win w base e size v n xs) (hb : base' ≤ base) : Win w base' e size v n xs := by
  obtain ⟨h1, h2⟩ := h
  refine ⟨h1, ?_⟩
  rcases h2 with h2 | ⟨g, off, cap, cur, rfl, hg, r⟩
  · exact .inl h2
  · exact .inr ⟨g, off, cap, cur, rfl, Nat.le_trans hb hg, r⟩
/-- Its block is one of the call's own (or it has no room at all). -/
theorem Win.at_ (h : Win w base e size v n xs) {k : Nat} (hk : At v k) : base ≤ k ∧ k < w.heap.size ∧ ∃ cur, w.heap[k]? = some (.cells cur e (0, 0)) := by
  rcases h.2 with ⟨h1, A, rfl⟩ | ⟨g, off, cap, cur, rfl, hg, hh, r⟩
  · exact (At.zero hk).elim
  · obtain rfl := hk.eq
    exact ⟨hg, blk_lt hh, cur, hh⟩
/-- A window of a young base is none of the elder blocks. -/
theorem Win.young (h : Win w base e size v n xs) {k : Nat} (hk : At v k) (hl : k < base) : False := by
  have := (h.at_ hk).1
  omega
theorem Win.ne_type (h : Win w base e size v n xs) {k t : Nat} {cs : Array Value} (hk : At v k) (hb : w.heap[k]? = some (.cells cs t (0, 0))) : e = t := by
  obtain ⟨_, _, cur, hc⟩ := h.at_ hk
  rw [hb] at hc
  injection hc with hc
  injection hc with _ hc
  exact hc.symm
theorem Win.cells {A : Option Addr} {m c : Nat} (h : Win w base e size (.slice A m c) n xs) (hn : 0 < n) : ∃ ad, A = some ad ∧ ∀ j u, xs[j]? = some u → w.cell? (ad.add j) = some u := by
  rcases h.2 with ⟨h0, _⟩ | ⟨g, off, cap, cur, he, hg, hh, hnc, hm, hcs, ht⟩
  · omega
  · injection he with ha _ hc
    subst ha
    refine ⟨_, rfl, fun j u hu => ?_⟩
    rw [add_at, cell_of_row w g _ cur e (0, 0) hh]
    rw [← ht, List.getElem?_take] at hu
    split at hu
    · rw [List.getElem?_drop] at hu
      rw [← Array.getElem?_toList]
      exact hu
    · cases hu
/-- 'v[:m]' -/
theorem Win.take {A : Option Addr} {c m : Nat} (h : Win w base e size (.slice A n c) n xs) (hm : m ≤ n) : Win w base e size (.slice A m c) m (xs.take (m * size)) := by
  obtain ⟨h1, h2⟩ := h
  refine ⟨by rw [List.length_take, h1]; exact Nat.min_eq_left (Nat.mul_le_mul_right _ hm), ?_⟩
  rcases h2 with ⟨h0, A', he⟩ | ⟨g, off, cap, cur, he, hb, hh, hnc, hcm, hcs, ht⟩
  · injection he with ha hb hc
    subst ha; subst hc
    exact .inl ⟨by omega, A, by rw [show m = 0 by omega]⟩
  · injection he with ha _ hc
    subst ha; subst hc
    refine .inr ⟨g, off, c, cur, rfl, hb, hh, by omega, hcm, hcs, ?_⟩
    rw [← ht, List.take_take, Nat.min_eq_left (Nat.mul_le_mul_right _ hm)]
/-- 'v[:n:n]' -/
theorem Win.clip {A : Option Addr} {c : Nat} (h : Win w base e size (.slice A n c) n xs) : Win w base e size (.slice A n n) n xs := by
  obtain ⟨h1, h2⟩ := h
  refine ⟨h1, ?_⟩
  rcases h2 with ⟨h0, A', he⟩ | ⟨g, off, cap, cur, he, hb, hh, hnc, hcm, hcs, ht⟩
  · injection he with ha hb hc
    subst ha; subst h0
    exact .inl ⟨rfl, A, rfl⟩
  · injection he with ha _ hc
    subst ha; subst hc
    have : n * size ≤ c * size := Nat.mul_le_mul_right _ hnc
    exact .inr ⟨g, off, n, cur, rfl, hb, hh, Nat.le_refl _, by omega, by omega, ht⟩
end

/-! ### sources -/
/-- What an append takes from x at w (and behind a draw): m elements, the cells 'news'. -/
structure Src (P : Program) (w : World) (size : Nat) (x : Value) (m : Nat) (news : List Value) : Prop where
  len : news.length = m * size
  one : ∀ u ∈ news, u.oneCell' = true
  lenOf : ∀ W : World, (Builtin.lenOf x).run P W = .ok m W
  now : (Builtin.firstCells size m x).run P w = .ok news.toArray w
  drew : (Builtin.firstCells size m x).run P w.drew = .ok news.toArray w.drew

/-- Cells that are read. -/
def RdV (w : World) (A : Option Addr) (xs : List Value) : Prop := xs ≠ [] → ∃ ad, A = some ad ∧ ∀ j u, xs[j]? = some u → w.cell? (ad.add j) = some u
theorem RdV.below {w w' : World} {A : Option Addr} {xs : List Value} (h : RdV w A xs) (hb : Below w.heap.size w w') : RdV w' A xs := fun hn => by
  obtain ⟨ad, e, hc⟩ := h hn
  exact ⟨ad, e, fun j u hu => pw_cell_below hb (hc j u hu)⟩
theorem RdV.of_win {w : World} {base n size : Nat} {e : TypeId} {A : Option Addr} {m c : Nat} {xs : List Value} (h : Win w base e size (.slice A m c) n xs) : RdV w A xs := fun hn => by
  refine h.cells ?_
  rcases Nat.eq_zero_or_pos n with h0 | h0
  · exact absurd (List.eq_nil_of_length_eq_zero (by rw [h.1, h0, Nat.zero_mul])) hn
  · exact h0
theorem RdV.of_reads {w : World} {k : IntKind} {A : Option Addr} {n : Nat} {xs : List Int} (h : ReadsInt w k A n xs) : RdV w A (nums k xs) := fun hn => by
  have h0 : 0 < n := by
    rcases Nat.eq_zero_or_pos n with h0 | h0
    · exact absurd (by rw [List.eq_nil_of_length_eq_zero (h.1.trans h0)]; rfl) hn
    · exact h0
  obtain ⟨ad, e, hc⟩ := h.2.2 h0
  refine ⟨ad, e, fun j u hu => ?_⟩
  have hj : j < xs.length := by
    rcases Nat.lt_or_ge j xs.length with h | h
    · exact h
    · simp [nums, List.getElem?_eq_none h] at hu
  rw [hc j (by have := h.1; omega)]
  simp [nums, List.getElem?_eq_getElem hj] at hu
  rw [← hu]
  simp [List.getD_eq_getElem?_getD, List.getElem?_eq_getElem hj]
theorem RdV.drew {w : World} {A : Option Addr} {xs : List Value} (h : RdV w A xs) : RdV w.drew A xs := fun hn => by
  obtain ⟨ad, e, hc⟩ := h hn
  exact ⟨ad, e, fun j u hu => by simpa using hc j u hu⟩
theorem RdV.first {P : Program} {w : World} {size m c n : Nat} {A : Option Addr} {news : List Value} (h : RdV w A news) (hl : news.length = m * size) : (Builtin.firstCells size m (.slice A n c)).run P w = .ok news.toArray w := by
  by_cases hn : news = []
  · subst hn
    cases A with
    | none => exact run_firstCells_none _ _ _ _ _
    | some ad => exact run_firstCells_some (P := P) w size m ad n c [] hl (fun j v hv => by simp at hv)
  · obtain ⟨ad, rfl, hc⟩ := h hn
    exact run_firstCells_some (P := P) w size m ad n c news hl hc
theorem Src.of_rd {P : Program} {w : World} {size m c : Nat} {A : Option Addr} {news : List Value} (h : RdV w A news) (hl : news.length = m * size) (h1 : ∀ u ∈ news, u.oneCell' = true) : Src P w size (.slice A m c) m news :=
  ⟨hl, h1, fun _ => rfl, h.first hl, h.drew.first hl⟩
theorem Src.of_string {P : Program} (w : World) (s : ByteArray) : Src P w 1 (.string s) s.size (Lib.strCells s) := by
  refine ⟨by rw [Lib.strCells_length, Nat.mul_one], Lib.strCells_oneCell s, fun _ => rfl, Lib.run_firstCells_string w 1 s, Lib.run_firstCells_string w.drew 1 s⟩

theorem nextcap_room {need old : Nat} (h : old < need) : Builtin.nextslicecap need old ≤ need + need / 4 + 700 := by
  unfold Builtin.nextslicecap
  split
  · omega
  · split
    · omega
    · rw [growBy_four]
      repeat' split
      all_goals omega

/-! ### append -/
section
variable {P : Program} (w : World) {t tx ty e : TypeId} {i : TypeInfo} {z : Value} {dx : TypeDesc}
theorem run_append_stays (ht : P.underlying t = some (.slice e)) (htx : P.underlying tx = some dx) (hnx : (∃ q, dx = .slice q) ∨ dx = .string) (hi : P.info? e = some i)
    (A : Option Addr) (n c m : Nat) (x : Value) (news : List Value) (hs : Src P w i.size x m news) (hroom : n + m ≤ c) (w' : World) (hst : ∀ a, A = some a → (storeCells (a.add (n * i.size)) news).run P w = .ok () w') (hnone : A = none → w' = w) :
    (Builtin.append_ #[t, tx] ty #[.slice A n c, x]).run P w = .ok (.slice A (n + m) c) w' := by
  have h1 := hs.now
  have h2 := hs.lenOf w
  cases A with
  | none =>
    obtain rfl := hnone rfl
    rcases hnx with ⟨q, rfl⟩ | rfl <;> simp [Builtin.append_, run_underlying ht, run_underlying htx, sizeOf, typeInfo, hi, h1, h2, hroom]
  | some a =>
    have h3 := hst a rfl
    rcases hnx with ⟨q, rfl⟩ | rfl <;> simp [Builtin.append_, run_underlying ht, run_underlying htx, sizeOf, typeInfo, hi, h1, h2, hroom, h3]
theorem run_append_new (ht : P.underlying t = some (.slice e)) (htx : P.underlying tx = some dx) (hnx : (∃ q, dx = .slice q) ∨ dx = .string) (hi : P.info? e = some i) (hz : i.zero = some z)
    (A : Option Addr) (n c m : Nat) (xs : List Value) (hx : RdV w A xs) (hxl : xs.length = n * i.size) (x : Value) (news : List Value) (hs : Src P w i.size x m news) (hroom : c < n + m)
    (h63 : n + m ≤ 9223372036854775807) (hbytes : (n + m + (n + m) / 4 + 700) * i.bytes ≤ 281474976710656) :
    (Builtin.append_ #[t, tx] ty #[.slice A n c, x]).run P w = .ok (.slice (some ⟨w.heap.size, 0, none⟩) (n + m) (grownCap w (n + m) c e))
      (w.drew.alloc (.cells (xs.toArray ++ news.toArray ++ Builtin.zeroCells z.cells (grownCap w (n + m) c e - (n + m))) e)) := by
  have h1 := hs.drew
  have h2 := hs.lenOf w
  have h3 : (Builtin.firstCells i.size n (.slice A n c)).run P w.drew = .ok xs.toArray w.drew := hx.drew.first hxl
  have hn : ¬ (n + m ≤ c) := by omega
  have h63' : ¬ (9223372036854775807 < ((n : Int) + (m : Int))) := by omega
  have h48' : ¬ (281474976710656 < Builtin.nextslicecap (n + m) c * i.bytes) := by
    have := Nat.mul_le_mul_right i.bytes (nextcap_room hroom)
    omega
  rcases hnx with ⟨q, rfl⟩ | rfl
  all_goals
    simp [Builtin.append_, run_underlying ht, run_underlying htx, sizeOf, typeInfo, zeroValue, hi, hz, hn, h63', h48', Question.forced, h1, h2, h3, newRow, grownCap]
    congr 2
    apply Array.ext'
    simp [List.append_assoc]
end
theorem run_append_win {P : Program} (w : World) (base : Nat) (t tx ty e : TypeId) (i : TypeInfo) (z : Value) (dx : TypeDesc) (ht : P.underlying t = some (.slice e)) (htx : P.underlying tx = some dx) (hnx : (∃ q, dx = .slice q) ∨ dx = .string) (hi : P.info? e = some i) (hz : i.zero = some z)
    (hzs : z.cells.size = i.size) (v : Value) (n : Nat) (xs : List Value) (hw : Win w base e i.size v n xs) (x : Value) (m : Nat) (news : List Value) (hs : Src P w i.size x m news)
    (h63 : n + m ≤ maxLen) (hbytes : (n + m + (n + m) / 4 + 700) * i.bytes ≤ 281474976710656) (hbase : base ≤ w.heap.size) :
    ∃ v' w', (Builtin.append_ #[t, tx] ty #[v, x]).run P w = .ok v' w' ∧ Win w' base e i.size v' (n + m) (xs ++ news) ∧ Win w' base e i.size v n xs ∧ Fr (At v) w w' ∧
      (rb v' = rb v ∨ rb v' = some w.heap.size) := by
  have hsmall : n + m ≤ 9223372036854775807 := by simp only [maxLen] at h63; omega
  have hlen : (xs ++ news).length = (n + m) * i.size := by rw [List.length_append, hw.1, hs.len, Nat.add_mul]
  obtain ⟨A, c, rfl, hnc⟩ := hw.shape
  by_cases hroom : n + m ≤ c
  · -- room
    rcases hw.2 with ⟨rfl, A', he⟩ | ⟨g, off, cap, cur, he, hbg, hg, _, hcm, hcs, ht'⟩
    · injection he with e1 _ e3
      subst e1; subst e3
      have hm0 : m = 0 := by omega
      subst hm0
      have hn : news = [] := List.eq_nil_of_length_eq_zero (by rw [hs.len, Nat.zero_mul])
      subst hn
      have hx0 : xs = [] := List.eq_nil_of_length_eq_zero (by rw [hw.1, Nat.zero_mul])
      subst hx0
      exact ⟨.slice A 0 0, w, run_append_stays w ht htx hnx hi A 0 0 0 x [] hs hroom w (fun a _ => rfl) (fun _ => rfl), hw, hw, Fr.refl _ _, .inl rfl⟩
    · injection he with e1 _ e3
      subst e1; subst e3
      have hfit : off + n * i.size + 0 + news.length ≤ cur.size := by
        have : (n + m) * i.size ≤ c * i.size := Nat.mul_le_mul_right _ hroom
        rw [Nat.add_mul] at this
        rw [hs.len]
        omega
      have hst := run_storeCells_at P g (off + n * i.size) e news 0 cur w hg hfit hs.one
      simp only [Nat.add_zero] at hst
      have hr := run_append_stays (ty := ty) w ht htx hnx hi (some ⟨g, off, none⟩) n c m x news hs hroom _ (fun a ha => by injection ha with ha; subst ha; rw [add_at]; exact hst) (fun h => by cases h)
      have hxl := hw.1
      have hlen0 : (cur.toList.take (off + n * i.size)).length = off + n * i.size := by rw [List.length_take, Array.length_toList]; omega
      have hset := setRow_heap w g cur (cur.toList.take (off + n * i.size) ++ news ++ cur.toList.drop (off + n * i.size + news.length)).toArray e (0, 0) hg
      have hsz : (cur.toList.take (off + n * i.size) ++ news ++ cur.toList.drop (off + n * i.size + news.length)).toArray.size = cur.size := by
        simp only [List.size_toArray, List.length_append, List.length_take, List.length_drop, Array.length_toList]
        omega
      have hpre : ((cur.toList.take (off + n * i.size)).drop off) = xs := by
        rw [List.drop_take, ← ht']
        congr 1
        omega
      refine ⟨_, _, hr, ⟨hlen, .inr ⟨g, off, c, _, rfl, hbg, hset, hroom, hcm, by rw [hsz]; exact hcs, ?_⟩⟩, ⟨hxl, .inr ⟨g, off, c, _, rfl, hbg, hset, hnc, hcm, by rw [hsz]; exact hcs, ?_⟩⟩, ⟨rfl, rfl, rfl, by simp, fun k _ hk => ?_⟩, .inl ?_⟩
      · simp only []
        rw [List.append_assoc, List.drop_append_of_le_length (by omega), hpre, ← List.append_assoc, ← hlen]
        exact List.take_left
      · simp only []
        rw [List.append_assoc, List.drop_append_of_le_length (by omega), hpre, ← hxl]
        exact List.take_left
      · rcases Nat.eq_zero_or_pos c with hc | hc
        · subst hc
          have hm0 : m = 0 := by omega
          have hn0 : n = 0 := by omega
          subst hm0; subst hn0
          have hns : news = [] := List.eq_nil_of_length_eq_zero (by rw [hs.len, Nat.zero_mul])
          subst hns
          simp only [List.length_nil, Nat.add_zero, List.append_nil, List.take_append_drop, Array.toArray_toList]
          rw [setRow_self w g cur e (0, 0) hg]
        · exact setRow_other w g k _ (fun e => hk (by subst e; exact rb_slice _ _ _ hc))
      · cases c <;> rfl
  · -- it grows
    have hr := run_append_new (ty := ty) w ht htx hnx hi hz A n c m xs (RdV.of_win hw) hw.1 x news hs (by omega) hsmall hbytes
    have hge := grownCap_ge w (n + m) c e
    have hcm : grownCap w (n + m) c e ≤ maxLen := grownCap_le_maxLen w (n + m) c e h63
    refine ⟨_, _, hr, ⟨hlen, .inr ⟨w.heap.size, 0, _, _, rfl, hbase, heap_alloc_new w.drew _, hge, hcm, ?_, ?_⟩⟩, (by refine hw.fr (S := No) ?_ (fun _ _ h => h); exact ⟨rfl, rfl, rfl, by simp, fun k hk _ => Go.heap_alloc_old w.drew _ hk⟩), ⟨rfl, rfl, rfl, by simp, fun k hk _ => Go.heap_alloc_old w.drew _ hk⟩, .inr (rb_slice _ _ _ (by omega))⟩
    · simp only [Array.size_append, List.size_toArray, size_zeroCells, hzs, hw.1, hs.len, ← Nat.add_mul]
      have : n + m + (grownCap w (n + m) c e - (n + m)) = grownCap w (n + m) c e := by omega
      rw [this]
      omega
    · simp only [Array.toList_append, List.append_assoc, List.drop_zero]
      rw [← List.append_assoc, ← hlen]
      exact List.take_left
section
variable {P : Program} {ops : Array Oper} {rest : List Oper} {o : Oper} {a : Act} {Q : Exit → Act → World → Prop} {K : Act → World → Prop}
theorem wp_append (w : World) (base : Nat) (s x : Operand) (t tx e : TypeId) (z : Value) (size bytes : Nat) (dx : TypeDesc)
    (ho : o.op = .call { callee := .builtin .append, args := #[s, x], argTypes := #[t, tx] })
    (ht : P.underlying t = some (.slice e)) (htx : P.underlying tx = some dx) (hnx : (∃ q, dx = .slice q) ∨ dx = .string) (hinfo : (P.info? e).map (fun i => (i.zero, i.size, i.bytes)) = some (some z, size, bytes)) (hzs : z.cells.size = size)
    (v : Value) (n : Nat) (xs : List Value) (y : Value) (m : Nat) (news : List Value) (hs : a.eval s = v) (hx : a.eval x = y)
    (HW : Win w base e size v n xs) (HS : Src P w size y m news) (hbase : base ≤ w.heap.size) (hm : n + m ≤ maxLen) (hl : (n + m + (n + m) / 4 + 700) * bytes ≤ 281474976710656)
    (h : ∀ v1 w1, Win w1 base e size v1 (n + m) (xs ++ news) → Win w1 base e size v n xs → Fr (At v) w w1 → (rb v1 = rb v ∨ rb v1 = some w.heap.size) → K (a.put o.dst v1) w1) :
    o.wp P a w K Q := by
  obtain ⟨i0, hi, hzz⟩ := Option.map_eq_some_iff.1 hinfo
  simp only [Prod.mk.injEq] at hzz
  obtain ⟨hz0, hz1, hz2⟩ := hzz
  subst hz1
  subst hz2
  obtain ⟨v1, w1, hr, h1, h2, h3, h4⟩ := run_append_win (P := P) w base t tx o.type e i0 z dx ht htx hnx hi hz0 hzs v n xs HW y m news HS hm hl hbase
  unfold Oper.wp execOp
  simp only [ho, resolve, invoke, builtin, Sem.run_bind, Sem.run_pure, Result.andThen_ok, List.map_toArray, List.map_cons, List.map_nil, hs, hx, hr]
  exact h v1 w1 h1 h2 h3 h4
/-- append(s, x..), behind 'at_builtin' -/
theorem wpl_append (w : World) (base : Nat) (hgd : o.guard = none) (s x : Operand) (t tx e : TypeId) (z : Value) (size bytes : Nat) (dx : TypeDesc)
    (ho : o.op = .call { callee := .builtin .append, args := #[s, x], argTypes := #[t, tx] })
    (ht : P.underlying t = some (.slice e)) (htx : P.underlying tx = some dx) (hnx : (∃ q, dx = .slice q) ∨ dx = .string) (hinfo : (P.info? e).map (fun i => (i.zero, i.size, i.bytes)) = some (some z, size, bytes)) (hzs : z.cells.size = size)
    (v : Value) (n : Nat) (xs : List Value) (y : Value) (m : Nat) (news : List Value) (hs : a.eval s = v) (hx : a.eval x = y)
    (HW : Win w base e size v n xs) (HS : Src P w size y m news) (hbase : base ≤ w.heap.size) (hm : n + m ≤ maxLen) (hl : (n + m + (n + m) / 4 + 700) * bytes ≤ 281474976710656)
    (h : ∀ v1 w1, Win w1 base e size v1 (n + m) (xs ++ news) → Win w1 base e size v n xs → Fr (At v) w w1 → (rb v1 = rb v ∨ rb v1 = some w.heap.size) → wpList P ops Q rest (a.put o.dst v1) w1) :
    wpList P ops Q (o :: rest) a w :=
  wpList_plain hgd fun _ hK => wp_append w base s x t tx e z size bytes dx ho ht htx hnx hinfo hzs v n xs y m news hs hx HW HS hbase hm hl fun v1 w1 h1 h2 h3 h4 => hK _ _ (h v1 w1 h1 h2 h3 h4)
/-- append(s, x) of one element by way of its box; the goal's world is the one behind the box. -/
theorem wpl_append1 (w : World) (base : Nat) (hgd : o.guard = none) (s x : Operand) (t e : TypeId) (z : Value) (size bytes : Nat)
    (ho : o.op = .call { callee := .builtin .append, args := #[s, x], argTypes := #[t, t] })
    (ht : P.underlying t = some (.slice e)) (hinfo : (P.info? e).map (fun i => (i.zero, i.size, i.bytes)) = some (some z, size, bytes)) (hzs : z.cells.size = size)
    (v : Value) (n : Nat) (xs ys : List Value) (hs : a.eval s = v) (hx : a.eval x = .slice (some ⟨w.heap.size, 0, none⟩) 1 1)
    (HW : Win w base e size v n xs) (hys : ys.length = size) (h1 : ∀ u ∈ ys, u.oneCell' = true) (hbase : base ≤ w.heap.size) (hm : n + 1 ≤ maxLen) (hl : (n + 1 + (n + 1) / 4 + 700) * bytes ≤ 281474976710656)
    (h : ∀ v1 w1, Win w1 base e size v1 (n + 1) (xs ++ ys) → Win w1 base e size v n xs → Fr (At v) w w1 → (rb v1 = rb v ∨ ∃ b, rb v1 = some b ∧ w.heap.size ≤ b) → wpList P ops Q rest (a.put o.dst v1) w1) :
    wpList P ops Q (o :: rest) a (w.alloc (.cells ys.toArray e)) := by
  refine wpl_append (w.alloc (.cells ys.toArray e)) base hgd s x t t e z size bytes (.slice e) ho ht ht (.inl ⟨_, rfl⟩) hinfo hzs v n xs _ 1 ys hs hx (HW.below (below_alloc (Below.refl _ _) _))
    (Src.of_rd (fun _ => ⟨_, rfl, ?_⟩) (by omega) h1) (by simp; omega) hm hl fun v1 w1 g1 g2 g3 g4 => h v1 w1 g1 g2 ((Fr.alloc (S := At v) w _).trans g3 (fun _ _ h => h) (fun _ _ h => h)) ?_
  · simpa using World.news_of_block (cs := ys.toArray) (t := e) (fr := (0, 0)) (heap_alloc_new w (.cells ys.toArray e))
  · rcases g4 with g4 | g4
    · exact .inl g4
    · exact .inr ⟨_, g4, by simp⟩
end
/-- 'xs[m:]' without a case on the capacity (elements of one cell). -/
theorem cut_rd {P : Program} (t e : TypeId) (kl : IntKind) {i : TypeInfo} (ht : P.underlying t = some (.slice e)) (hi : P.info? e = some i) (hsz : i.size = 1) (A : Option Addr) (n c m : Nat) (hm : m ≤ n) :
    ∃ A' : Option Addr, (∀ W : World, (Instr.slice t (.slice A n c) (some (.int kl (m : Int))) none none).run P W = .ok (.slice A' (n - m) (c - m)) W) ∧
      (∀ (w : World) (xs : List Value), n ≤ c → xs.length = n → RdV w A xs → RdV w A' (xs.drop m)) ∧ (A' = none → A = none) := by
  refine ⟨if c = m then A else A.map (·.add m), fun W => ?_, fun w xs hc hl h hn => ?_, fun h => ?_⟩
  · have hel : P.elem t = e := by simp [Program.elem, ht]
    have hu : P.underlying t = some (.slice (P.elem t)) := by rw [hel]; exact ht
    rw [run_slice_l W t A n c hu kl (m : Int) (Int.natCast_nonneg _) (by omega), hel]
    simp [sizeOf, typeInfo, hi, hsz, sliced, Result.andThen]
  · have hlen : m < xs.length := by
      rcases Nat.lt_or_ge m xs.length with h1 | h1
      · exact h1
      · exact absurd (List.drop_eq_nil_of_le h1) hn
    obtain ⟨ad, rfl, hcell⟩ := h (by intro h0; subst h0; simp at hlen)
    rw [if_neg (by omega)]
    refine ⟨ad.add m, rfl, fun j u hj => ?_⟩
    have ha : (ad.add m).add j = ad.add (m + j) := by
      unfold Addr.add
      by_cases h1 : m = 0 <;> by_cases h2 : j = 0 <;> simp [h1, h2, Nat.add_assoc]
    rw [ha]
    rw [List.getElem?_drop] at hj
    exact hcell _ _ hj
  · split at h
    · exact h
    · cases A with
      | none => rfl
      | some a => cases h
theorem nums_drop (k : IntKind) (xs : List Int) (m : Nat) : (nums k xs).drop m = nums k (xs.drop m) := by simp [nums, List.map_drop]
theorem nums_take (k : IntKind) (xs : List Int) (m : Nat) : (nums k xs).take m = nums k (xs.take m) := by simp [nums, List.map_take]
theorem Win.nil_cap {w : World} {base n size c : Nat} {e : TypeId} {xs : List Value} (h : Win w base e size (.slice none n c) n xs) : c = 0 := by
  rcases h.2 with ⟨h0, A, he⟩ | ⟨g, off, cap, cur, he, _⟩
  · injection he
  · injection he with h1
    cases h1
end Go.Proofs.Ytchcimkmjoegdaa.M
