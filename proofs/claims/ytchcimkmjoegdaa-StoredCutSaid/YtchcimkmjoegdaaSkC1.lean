/- The memory words of this claim: frames ('Fr'), rows that a call owns as a window of a block ('Win'), sources of an append ('Src'), and the laws of append, of reading and of writing over them. Conditions: none beyond the hypotheses stated. | The codec's makers: slices.Clone, slices.Clip at bytes, put, PutUint, PutInt, PutText: what each call hands back. Conditions: the lengths that each theorem states. | More of the memory words: cuts. Conditions: none beyond the hypotheses stated. | The statements' own helpers at bytes: Bytes, LentBytes, KeptBytes. Conditions: the lengths that each theorem states. (Several texts of mine laid into one by prune.py.) -/
import Derived.Test.YtchcimkmjoegdaaRows
import Derived.Test.YtchcimkmjoegdaaWWords
import Derived.Test.YtchcimkmjoegdaaWLast
import Derived.Test.YtchcimkmjoegdaaWMore
import Derived.Test.YtchcimkmjoegdaaProg
import Derived.WalkSpells
import Derived.Lib.Zigzag
import Derived.Deep.DeepMust
import Derived.Outline
import Derived.BigQuiet
import Derived.StillTailTactics
import Derived.Deep.RegionHeld3
import Derived.Deep.MidRow
import Derived.Deep.RegionWith
import Derived.Lib.Bytes
import Derived.Lib.SlBytesConst
import Derived.Laws.MakeOwn
import Derived.Deep.RegionLaw
import Derived.WalkSmall
import Derived.RangeFuncNested
import Derived.OwnWalkIn
import Derived.TacticsInMore
import Derived.LoopIn
import Derived.LoopNIn
import Derived.Shelf.RegionOpen
import Derived.RecoverIn
import Derived.RegionIn
import Derived.Test.YtchcimkmjoegdaaWSized
import Derived.Deep.Strs
import Derived.WalkKit
import Derived.ProofKit
import Derived.OpenShut
import Derived.ShutString
import Derived.ChangeOld
import Derived.Below
import Derived.SizedLaws
namespace Go.Proofs.Ytchcimkmjoegdaa.M
open Go.RowKit Go.Proofs.YtchcimkmjoegdaaW.PrintWords

/-- Only blocks of S (and new ones) have turned. -/
structure Fr (S : Nat → Prop) (w w' : World) : Prop where
  os : w'.os = w.os
  tape : w'.tape = w.tape
  output : w'.output = w.output
  size : w.heap.size ≤ w'.heap.size
  block : ∀ k, k < w.heap.size → ¬ S k → w'.heap[k]? = w.heap[k]?

def No : Nat → Prop := fun _ => False
/-- The block that a slice with room lies in. -/
def rb : Value → Option Nat
  | .slice (some a) _ (_ + 1) => some a.block
  | _ => none
theorem rb_slice (a : Addr) (n c : Nat) (h : 0 < c) : rb (.slice (some a) n c) = some a.block := by
  cases c with
  | zero => omega
  | succ c => rfl
theorem rb_own {v : Value} {k : Nat} (h : rb v = some k) : v.ownBlock = some k := by
  unfold rb at h
  split at h
  · exact h
  · cases h
def At (v : Value) : Nat → Prop := fun k => rb v = some k
theorem At.eq {a : Addr} {n c k : Nat} (h : At (.slice (some a) n c) k) : k = a.block := by
  cases c with
  | zero => cases h
  | succ c => exact (Option.some.inj h).symm
theorem At.none {n c k : Nat} (h : At (.slice none n c) k) : False := by cases h
theorem At.zero {A : Option Addr} {n k : Nat} (h : At (.slice A n 0) k) : False := by cases A <;> cases h
def One (g : Nat) : Nat → Prop := fun k => k = g

theorem Fr.refl (S : Nat → Prop) (w : World) : Fr S w w := ⟨rfl, rfl, rfl, Nat.le_refl _, fun _ _ _ => rfl⟩
theorem Fr.trans {S T U : Nat → Prop} {a b c : World} (h : Fr S a b) (k : Fr T b c) (hS : ∀ i, i < a.heap.size → S i → U i) (hT : ∀ i, i < a.heap.size → T i → U i) : Fr U a c :=
  ⟨k.os.trans h.os, k.tape.trans h.tape, k.output.trans h.output, Nat.le_trans h.size k.size, fun i hi hn =>
    (k.block i (Nat.lt_of_lt_of_le hi h.size) (fun ht => hn (hT i hi ht))).trans (h.block i hi (fun hs => hn (hS i hi hs)))⟩
theorem Fr.mono {S U : Nat → Prop} {a b : World} (h : Fr S a b) (hS : ∀ i, i < a.heap.size → S i → U i) : Fr U a b :=
  ⟨h.os, h.tape, h.output, h.size, fun i hi hn => h.block i hi (fun hs => hn (hS i hi hs))⟩
theorem Fr.of_below {w w' : World} (h : Below w.heap.size w w') (S : Nat → Prop) : Fr S w w' := ⟨h.os, h.tape, h.output, h.size, fun k hk _ => h.block k hk⟩
theorem Fr.below {B : Nat} {S : Nat → Prop} {w w' : World} (h : Fr S w w') (hB : B ≤ w.heap.size) (hS : ∀ k, S k → B ≤ k) : Below B w w' :=
  ⟨h.os, h.tape, h.output, h.size, fun k hk => h.block k (by omega) (fun hs => by have := hS k hs; omega)⟩
theorem Fr.no {w w' : World} (h : Fr No w w') : Below w.heap.size w w' := h.below (Nat.le_refl _) (fun _ hk => hk.elim)
theorem Fr.drewN {S : Nat → Prop} (w : World) (n : Nat) : Fr S w (w.drewN n) := Fr.of_below (pw_below_drewN (Below.refl _ _) n) S
theorem Fr.alloc {S : Nat → Prop} (w : World) (o : Obj) : Fr S w (w.alloc o) := Fr.of_below (below_alloc (Below.refl _ _) o) S
theorem Fr.setCell {S : Nat → Prop} (w : World) (p : Addr) (u : Value) (hS : S p.block) : Fr S w (w.setCell p u) :=
  ⟨rfl, rfl, rfl, by simp [World.setCell], fun k _ hn => Below.heap_setCell w p u k (fun e => hn (e ▸ hS))⟩
theorem Fr.of_grown {w w' : World} {row : Option Nat} (h : w.grownBy w' row) : Fr (fun k => row = some k) w w' := ⟨h.os, h.tape, h.output, h.size, fun k hk hn => h.block k hk (fun e => hn e.symm)⟩
/-- One block more of the walk's world: new ones are above. -/
theorem Fr.get {S : Nat → Prop} {w w' : World} (h : Fr S w w') {g : Nat} {o : Obj} (hg : w.heap[g]? = some o) (hn : ¬ S g) : w'.heap[g]? = some o :=
  (h.block g (blk_lt hg) hn).trans hg
theorem Below.getB {B g : Nat} {w w' : World} {o : Obj} (h : Below B w w') (hg : w.heap[g]? = some o) (hB : g < B) : w'.heap[g]? = some o := (h.block g hB).trans hg

/-! ### windows -/
/-- v, a slice of n elements (type e, 'size' cells each), is a window of a block of the call's own (from 'base' on); its cells are xs. -/
def Win (w : World) (base : Nat) (e : TypeId) (size : Nat) (v : Value) (n : Nat) (xs : List Value) : Prop :=
  xs.length = n * size ∧
  ((n = 0 ∧ ∃ A, v = .slice A 0 0) ∨
   ∃ g off cap cur, v = .slice (some ⟨g, off, none⟩) n cap ∧ base ≤ g ∧ w.heap[g]? = some (.cells cur e (0, 0)) ∧ n ≤ cap ∧ cap ≤ maxLen ∧ off + cap * size ≤ cur.size ∧ (cur.toList.drop off).take (n * size) = xs)

section
variable {w w' : World} {base n size : Nat} {e : TypeId} {v : Value} {xs : List Value}
theorem Win.nil (w : World) (base : Nat) (e : TypeId) (size : Nat) : Win w base e size (.slice none 0 0) 0 [] := ⟨by simp, .inl ⟨rfl, none, rfl⟩⟩
theorem Win.of_own (h : w.ownsRow base e size v n xs) : Win w base e size v n xs := by
  obtain ⟨h1, h2⟩ := h
  refine ⟨h1, ?_⟩
  rcases h2 with ⟨rfl, h0⟩ | ⟨g, cap, cur, rfl, hb, hh, hnc, hcm, hcs, ht⟩
  · exact .inl ⟨h0, none, rfl⟩
  · exact .inr ⟨g, 0, cap, cur, rfl, hb, hh, hnc, hcm, by omega, by simpa using ht⟩
theorem Win.len (h : Win w base e size v n xs) : xs.length = n * size := h.1
theorem Win.shape (h : Win w base e size v n xs) : ∃ A c, v = .slice A n c ∧ n ≤ c := by
  rcases h.2 with ⟨h0, A, rfl⟩ | ⟨g, off, cap, cur, rfl, _, _, hnc, _⟩
  · exact ⟨A, 0, by rw [h0], by omega⟩
  · exact ⟨_, cap, rfl, hnc⟩
theorem Win.max (h : Win w base e size v n xs) : n ≤ 9223372036854775807 := by
  rcases h.2 with ⟨h0, _⟩ | ⟨g, off, cap, cur, rfl, hg, hh, hnc, hm, _⟩
  · omega
  · simp only [maxLen] at hm
    omega
theorem Win.move (h : Win w base e size v n xs) (hm : ∀ k, At v k → k < w.heap.size → w'.heap[k]? = w.heap[k]?) : Win w' base e size v n xs := by
  obtain ⟨h1, h2⟩ := h
  refine ⟨h1, ?_⟩
  rcases h2 with h2 | ⟨g, off, cap, cur, rfl, hg, hh, r⟩
  · exact .inl h2
  · rcases Nat.eq_zero_or_pos cap with hc | hc
    · subst hc
      exact .inl ⟨by omega, _, by rw [show n = 0 by omega]⟩
    · exact .inr ⟨g, off, cap, cur, rfl, hg, (hm g (rb_slice _ _ _ hc) (blk_lt hh)).trans hh, r⟩
theorem Win.fr {S : Nat → Prop} (h : Win w base e size v n xs) (hf : Fr S w w') (hn : ∀ k, At v k → ¬ S k) : Win w' base e size v n xs :=
  h.move fun k hk hl => hf.block k hl (hn k hk)
theorem Win.below (h : Win w base e size v n xs) (hf : Below w.heap.size w w') : Win w' base e size v n xs := h.move fun k _ hl => hf.block k hl
theorem Win.lower {base' : Nat} (h : Win w base e size v n xs) (hb : base' ≤ base) : Win w base' e size v n xs := by
  obtain ⟨h1, h2⟩ := h
  refine ⟨h1, ?_⟩
  rcases h2 with h2 | ⟨g, off, cap, cur, rfl, hg, r⟩
  · exact .inl h2
  · exact .inr ⟨g, off, cap, cur, rfl, Nat.le_trans hb hg, r⟩
/-- Its block is one of the call's own (or it has no room at all). -/
theorem Win.at_ (h : Win w base e size v n xs) {k : Nat} (hk : At v k) : base ≤ k ∧ k < w.heap.size ∧ ∃ cur, w.heap[k]? = some (.cells cur e (0, 0)) := by
  rcases h.2 with ⟨h1, A, rfl⟩ | ⟨g, off, cap, cur, rfl, hg, hh, r⟩
  · exact (At.zero hk).elim
  · obtain rfl := hk.eq
    exact ⟨hg, blk_lt hh, cur, hh⟩
/-- A window of a young base is none of the elder blocks. -/
theorem Win.young (h : Win w base e size v n xs) {k : Nat} (hk : At v k) (hl : k < base) : False := by
  have := (h.at_ hk).1
  omega
theorem Win.ne_type (h : Win w base e size v n xs) {k t : Nat} {cs : Array Value} (hk : At v k) (hb : w.heap[k]? = some (.cells cs t (0, 0))) : e = t := by
  obtain ⟨_, _, cur, hc⟩ := h.at_ hk
  rw [hb] at hc
  injection hc with hc
  injection hc with _ hc
  exact hc.symm
theorem Win.cells {A : Option Addr} {m c : Nat} (h : Win w base e size (.slice A m c) n xs) (hn : 0 < n) : ∃ ad, A = some ad ∧ ∀ j u, xs[j]? = some u → w.cell? (ad.add j) = some u := by
  rcases h.2 with ⟨h0, _⟩ | ⟨g, off, cap, cur, he, hg, hh, hnc, hm, hcs, ht⟩
  · omega
  · injection he with ha _ hc
    subst ha
    refine ⟨_, rfl, fun j u hu => ?_⟩
    rw [add_at, cell_of_row w g _ cur e (0, 0) hh]
    rw [← ht, List.getElem?_take] at hu
    split at hu
    · rw [List.getElem?_drop] at hu
      rw [← Array.getElem?_toList]
      exact hu
    · cases hu
/-- 'v[:m]' -/
theorem Win.take {A : Option Addr} {c m : Nat} (h : Win w base e size (.slice A n c) n xs) (hm : m ≤ n) : Win w base e size (.slice A m c) m (xs.take (m * size)) := by
  obtain ⟨h1, h2⟩ := h
  refine ⟨by rw [List.length_take, h1]; exact Nat.min_eq_left (Nat.mul_le_mul_right _ hm), ?_⟩
  rcases h2 with ⟨h0, A', he⟩ | ⟨g, off, cap, cur, he, hb, hh, hnc, hcm, hcs, ht⟩
  · injection he with ha hb hc
    subst ha; subst hc
    exact .inl ⟨by omega, A, by rw [show m = 0 by omega]⟩
  · injection he with ha _ hc
    subst ha; subst hc
    refine .inr ⟨g, off, c, cur, rfl, hb, hh, by omega, hcm, hcs, ?_⟩
    rw [← ht, List.take_take, Nat.min_eq_left (Nat.mul_le_mul_right _ hm)]
/-- 'v[:n:n]' -/
theorem Win.clip {A : Option Addr} {c : Nat} (h : Win w base e size (.slice A n c) n xs) : Win w base e size (.slice A n n) n xs := by
  obtain ⟨h1, h2⟩ := h
  refine ⟨h1, ?_⟩
  rcases h2 with ⟨h0, A', he⟩ | ⟨g, off, cap, cur, he, hb, hh, hnc, hcm, hcs, ht⟩
  · injection he with ha hb hc
    subst ha; subst h0
    exact .inl ⟨rfl, A, rfl⟩
  · injection he with ha _ hc
    subst ha; subst hc
    have : n * size ≤ c * size := Nat.mul_le_mul_right _ hnc
    exact .inr ⟨g, off, n, cur, rfl, hb, hh, Nat.le_refl _, by omega, by omega, ht⟩
end

/-! ### sources -/
/-- What an append takes from x at w (and behind a draw): m elements, the cells 'news'. -/
structure Src (P : Program) (w : World) (size : Nat) (x : Value) (m : Nat) (news : List Value) : Prop where
  len : news.length = m * size
  one : ∀ u ∈ news, u.oneCell' = true
  lenOf : ∀ W : World, (Builtin.lenOf x).run P W = .ok m W
  now : (Builtin.firstCells size m x).run P w = .ok news.toArray w
  drew : (Builtin.firstCells size m x).run P w.drew = .ok news.toArray w.drew

/-- Cells that are read. -/
def RdV (w : World) (A : Option Addr) (xs : List Value) : Prop := xs ≠ [] → ∃ ad, A = some ad ∧ ∀ j u, xs[j]? = some u → w.cell? (ad.add j) = some u
theorem RdV.below {w w' : World} {A : Option Addr} {xs : List Value} (h : RdV w A xs) (hb : Below w.heap.size w w') : RdV w' A xs := fun hn => by
  obtain ⟨ad, e, hc⟩ := h hn
  exact ⟨ad, e, fun j u hu => pw_cell_below hb (hc j u hu)⟩
theorem RdV.of_win {w : World} {base n size : Nat} {e : TypeId} {A : Option Addr} {m c : Nat} {xs : List Value} (h : Win w base e size (.slice A m c) n xs) : RdV w A xs := fun hn => by
  refine h.cells ?_
  rcases Nat.eq_zero_or_pos n with h0 | h0
  · exact absurd (List.eq_nil_of_length_eq_zero (by rw [h.1, h0, Nat.zero_mul])) hn
  · exact h0
theorem RdV.of_reads {w : World} {k : IntKind} {A : Option Addr} {n : Nat} {xs : List Int} (h : ReadsInt w k A n xs) : RdV w A (nums k xs) := fun hn => by
  have h0 : 0 < n := by
    rcases Nat.eq_zero_or_pos n with h0 | h0
    · exact absurd (by rw [List.eq_nil_of_length_eq_zero (h.1.trans h0)]; rfl) hn
    · exact h0
  obtain ⟨ad, e, hc⟩ := h.2.2 h0
  refine ⟨ad, e, fun j u hu => ?_⟩
  have hj : j < xs.length := by
    rcases Nat.lt_or_ge j xs.length with h | h
    · exact h
    · simp [nums, List.getElem?_eq_none h] at hu
  rw [hc j (by have := h.1; omega)]
  simp [nums, List.getElem?_eq_getElem hj] at hu
  rw [← hu]
  simp [List.getD_eq_getElem?_getD, List.getElem?_eq_getElem hj]
theorem RdV.drew {w : World} {A : Option Addr} {xs : List Value} (h : RdV w A xs) : RdV w.drew A xs := fun hn => by
  obtain ⟨ad, e, hc⟩ := h hn
  exact ⟨ad, e, fun j u hu => by simpa using hc j u hu⟩
theorem RdV.first {P : Program} {w : World} {size m c n : Nat} {A : Option Addr} {news : List Value} (h : RdV w A news) (hl : news.length = m * size) : (Builtin.firstCells size m (.slice A n c)).run P w = .ok news.toArray w := by
  by_cases hn : news = []
  · subst hn
    cases A with
    | none => exact run_firstCells_none _ _ _ _ _
    | some ad => exact run_firstCells_some (P := P) w size m ad n c [] hl (fun j v hv => by simp at hv)
  · obtain ⟨ad, rfl, hc⟩ := h hn
    exact run_firstCells_some (P := P) w size m ad n c news hl hc
theorem Src.of_rd {P : Program} {w : World} {size m c : Nat} {A : Option Addr} {news : List Value} (h : RdV w A news) (hl : news.length = m * size) (h1 : ∀ u ∈ news, u.oneCell' = true) : Src P w size (.slice A m c) m news :=
  ⟨hl, h1, fun _ => rfl, h.first hl, h.drew.first hl⟩
theorem Src.of_string {P : Program} (w : World) (s : ByteArray) : Src P w 1 (.string s) s.size (Lib.strCells s) := by
  refine ⟨by rw [Lib.strCells_length, Nat.mul_one], Lib.strCells_oneCell s, fun _ => rfl, Lib.run_firstCells_string w 1 s, Lib.run_firstCells_string w.drew 1 s⟩

theorem nextcap_room {need old : Nat} (h : old < need) : Builtin.nextslicecap need old ≤ need + need / 4 + 700 := by
  unfold Builtin.nextslicecap
  split
  · omega
  · split
    · omega
    · rw [growBy_four]
      repeat' split
      all_goals omega

/-! ### append -/
section
variable {P : Program} (w : World) {t tx ty e : TypeId} {i : TypeInfo} {z : Value} {dx : TypeDesc}
theorem run_append_stays (ht : P.underlying t = some (.slice e)) (htx : P.underlying tx = some dx) (hnx : (∃ q, dx = .slice q) ∨ dx = .string) (hi : P.info? e = some i)
    (A : Option Addr) (n c m : Nat) (x : Value) (news : List Value) (hs : Src P w i.size x m news) (hroom : n + m ≤ c) (w' : World) (hst : ∀ a, A = some a → (storeCells (a.add (n * i.size)) news).run P w = .ok () w') (hnone : A = none → w' = w) :
    (Builtin.append_ #[t, tx] ty #[.slice A n c, x]).run P w = .ok (.slice A (n + m) c) w' := by
  have h1 := hs.now
  have h2 := hs.lenOf w
  cases A with
  | none =>
    obtain rfl := hnone rfl
    rcases hnx with ⟨q, rfl⟩ | rfl <;> simp [Builtin.append_, run_underlying ht, run_underlying htx, sizeOf, typeInfo, hi, h1, h2, hroom]
  | some a =>
    have h3 := hst a rfl
    rcases hnx with ⟨q, rfl⟩ | rfl <;> simp [Builtin.append_, run_underlying ht, run_underlying htx, sizeOf, typeInfo, hi, h1, h2, hroom, h3]
theorem run_append_new (ht : P.underlying t = some (.slice e)) (htx : P.underlying tx = some dx) (hnx : (∃ q, dx = .slice q) ∨ dx = .string) (hi : P.info? e = some i) (hz : i.zero = some z)
    (A : Option Addr) (n c m : Nat) (xs : List Value) (hx : RdV w A xs) (hxl : xs.length = n * i.size) (x : Value) (news : List Value) (hs : Src P w i.size x m news) (hroom : c < n + m)
    (h63 : n + m ≤ 9223372036854775807) (hbytes : (n + m + (n + m) / 4 + 700) * i.bytes ≤ 281474976710656) :
    (Builtin.append_ #[t, tx] ty #[.slice A n c, x]).run P w = .ok (.slice (some ⟨w.heap.size, 0, none⟩) (n + m) (grownCap w (n + m) c e))
      (w.drew.alloc (.cells (xs.toArray ++ news.toArray ++ Builtin.zeroCells z.cells (grownCap w (n + m) c e - (n + m))) e)) := by
  have h1 := hs.drew
  have h2 := hs.lenOf w
  have h3 : (Builtin.firstCells i.size n (.slice A n c)).run P w.drew = .ok xs.toArray w.drew := hx.drew.first hxl
  have hn : ¬ (n + m ≤ c) := by omega
  have h63' : ¬ (9223372036854775807 < ((n : Int) + (m : Int))) := by omega
  have h48' : ¬ (281474976710656 < Builtin.nextslicecap (n + m) c * i.bytes) := by
    have := Nat.mul_le_mul_right i.bytes (nextcap_room hroom)
    omega
  rcases hnx with ⟨q, rfl⟩ | rfl
  all_goals
    simp [Builtin.append_, run_underlying ht, run_underlying htx, sizeOf, typeInfo, zeroValue, hi, hz, hn, h63', h48', Question.forced, h1, h2, h3, newRow, grownCap]
    congr 2
    apply Array.ext'
    simp [List.append_assoc]
end
theorem run_append_win {P : Program} (w : World) (base : Nat) (t tx ty e : TypeId) (i : TypeInfo) (z : Value) (dx : TypeDesc) (ht : P.underlying t = some (.slice e)) (htx : P.underlying tx = some dx) (hnx : (∃ q, dx = .slice q) ∨ dx = .string) (hi : P.info? e = some i) (hz : i.zero = some z)
    (hzs : z.cells.size = i.size) (v : Value) (n : Nat) (xs : List Value) (hw : Win w base e i.size v n xs) (x : Value) (m : Nat) (news : List Value) (hs : Src P w i.size x m news)
    (h63 : n + m ≤ maxLen) (hbytes : (n + m + (n + m) / 4 + 700) * i.bytes ≤ 281474976710656) (hbase : base ≤ w.heap.size) :
    ∃ v' w', (Builtin.append_ #[t, tx] ty #[v, x]).run P w = .ok v' w' ∧ Win w' base e i.size v' (n + m) (xs ++ news) ∧ Win w' base e i.size v n xs ∧ Fr (At v) w w' ∧
      (rb v' = rb v ∨ rb v' = some w.heap.size) := by
  have hsmall : n + m ≤ 9223372036854775807 := by simp only [maxLen] at h63; omega
  have hlen : (xs ++ news).length = (n + m) * i.size := by rw [List.length_append, hw.1, hs.len, Nat.add_mul]
  obtain ⟨A, c, rfl, hnc⟩ := hw.shape
  by_cases hroom : n + m ≤ c
  · -- room
    rcases hw.2 with ⟨rfl, A', he⟩ | ⟨g, off, cap, cur, he, hbg, hg, _, hcm, hcs, ht'⟩
    · injection he with e1 _ e3
      subst e1; subst e3
      have hm0 : m = 0 := by omega
      subst hm0
      have hn : news = [] := List.eq_nil_of_length_eq_zero (by rw [hs.len, Nat.zero_mul])
      subst hn
      have hx0 : xs = [] := List.eq_nil_of_length_eq_zero (by rw [hw.1, Nat.zero_mul])
      subst hx0
      exact ⟨.slice A 0 0, w, run_append_stays w ht htx hnx hi A 0 0 0 x [] hs hroom w (fun a _ => rfl) (fun _ => rfl), hw, hw, Fr.refl _ _, .inl rfl⟩
    · injection he with e1 _ e3
      subst e1; subst e3
      have hfit : off + n * i.size + 0 + news.length ≤ cur.size := by
        have : (n + m) * i.size ≤ c * i.size := Nat.mul_le_mul_right _ hroom
        rw [Nat.add_mul] at this
        rw [hs.len]
        omega
      have hst := run_storeCells_at P g (off + n * i.size) e news 0 cur w hg hfit hs.one
      simp only [Nat.add_zero] at hst
      have hr := run_append_stays (ty := ty) w ht htx hnx hi (some ⟨g, off, none⟩) n c m x news hs hroom _ (fun a ha => by injection ha with ha; subst ha; rw [add_at]; exact hst) (fun h => by cases h)
      have hxl := hw.1
      have hlen0 : (cur.toList.take (off + n * i.size)).length = off + n * i.size := by rw [List.length_take, Array.length_toList]; omega
      have hset := setRow_heap w g cur (cur.toList.take (off + n * i.size) ++ news ++ cur.toList.drop (off + n * i.size + news.length)).toArray e (0, 0) hg
      have hsz : (cur.toList.take (off + n * i.size) ++ news ++ cur.toList.drop (off + n * i.size + news.length)).toArray.size = cur.size := by
        simp only [List.size_toArray, List.length_append, List.length_take, List.length_drop, Array.length_toList]
        omega
      have hpre : ((cur.toList.take (off + n * i.size)).drop off) = xs := by
        rw [List.drop_take, ← ht']
        congr 1
        omega
      refine ⟨_, _, hr, ⟨hlen, .inr ⟨g, off, c, _, rfl, hbg, hset, hroom, hcm, by rw [hsz]; exact hcs, ?_⟩⟩, ⟨hxl, .inr ⟨g, off, c, _, rfl, hbg, hset, hnc, hcm, by rw [hsz]; exact hcs, ?_⟩⟩, ⟨rfl, rfl, rfl, by simp, fun k _ hk => ?_⟩, .inl ?_⟩
      · simp only []
        rw [List.append_assoc, List.drop_append_of_le_length (by omega), hpre, ← List.append_assoc, ← hlen]
        exact List.take_left
      · simp only []
        rw [List.append_assoc, List.drop_append_of_le_length (by omega), hpre, ← hxl]
        exact List.take_left
      · rcases Nat.eq_zero_or_pos c with hc | hc
        · subst hc
          have hm0 : m = 0 := by omega
          have hn0 : n = 0 := by omega
          subst hm0; subst hn0
          have hns : news = [] := List.eq_nil_of_length_eq_zero (by rw [hs.len, Nat.zero_mul])
          subst hns
          simp only [List.length_nil, Nat.add_zero, List.append_nil, List.take_append_drop, Array.toArray_toList]
          rw [setRow_self w g cur e (0, 0) hg]
        · exact setRow_other w g k _ (fun e => hk (by subst e; exact rb_slice _ _ _ hc))
      · cases c <;> rfl
  · -- it grows
    have hr := run_append_new (ty := ty) w ht htx hnx hi hz A n c m xs (RdV.of_win hw) hw.1 x news hs (by omega) hsmall hbytes
    have hge := grownCap_ge w (n + m) c e
    have hcm : grownCap w (n + m) c e ≤ maxLen := grownCap_le_maxLen w (n + m) c e h63
    refine ⟨_, _, hr, ⟨hlen, .inr ⟨w.heap.size, 0, _, _, rfl, hbase, heap_alloc_new w.drew _, hge, hcm, ?_, ?_⟩⟩, (by refine hw.fr (S := No) ?_ (fun _ _ h => h); exact ⟨rfl, rfl, rfl, by simp, fun k hk _ => Go.heap_alloc_old w.drew _ hk⟩), ⟨rfl, rfl, rfl, by simp, fun k hk _ => Go.heap_alloc_old w.drew _ hk⟩, .inr (rb_slice _ _ _ (by omega))⟩
    · simp only [Array.size_append, List.size_toArray, size_zeroCells, hzs, hw.1, hs.len, ← Nat.add_mul]
      have : n + m + (grownCap w (n + m) c e - (n + m)) = grownCap w (n + m) c e := by omega
      rw [this]
      omega
    · simp only [Array.toList_append, List.append_assoc, List.drop_zero]
      rw [← List.append_assoc, ← hlen]
      exact List.take_left
section
variable {P : Program} {ops : Array Oper} {rest : List Oper} {o : Oper} {a : Act} {Q : Exit → Act → World → Prop} {K : Act → World → Prop}
theorem wp_append (w : World) (base : Nat) (s x : Operand) (t tx e : TypeId) (z : Value) (size bytes : Nat) (dx : TypeDesc)
    (ho : o.op = .call { callee := .builtin .append, args := #[s, x], argTypes := #[t, tx] })
    (ht : P.underlying t = some (.slice e)) (htx : P.underlying tx = some dx) (hnx : (∃ q, dx = .slice q) ∨ dx = .string) (hinfo : (P.info? e).map (fun i => (i.zero, i.size, i.bytes)) = some (some z, size, bytes)) (hzs : z.cells.size = size)
    (v : Value) (n : Nat) (xs : List Value) (y : Value) (m : Nat) (news : List Value) (hs : a.eval s = v) (hx : a.eval x = y)
    (HW : Win w base e size v n xs) (HS : Src P w size y m news) (hbase : base ≤ w.heap.size) (hm : n + m ≤ maxLen) (hl : (n + m + (n + m) / 4 + 700) * bytes ≤ 281474976710656)
    (h : ∀ v1 w1, Win w1 base e size v1 (n + m) (xs ++ news) → Win w1 base e size v n xs → Fr (At v) w w1 → (rb v1 = rb v ∨ rb v1 = some w.heap.size) → K (a.put o.dst v1) w1) :
    o.wp P a w K Q := by
  obtain ⟨i0, hi, hzz⟩ := Option.map_eq_some_iff.1 hinfo
  simp only [Prod.mk.injEq] at hzz
  obtain ⟨hz0, hz1, hz2⟩ := hzz
  subst hz1
  subst hz2
  obtain ⟨v1, w1, hr, h1, h2, h3, h4⟩ := run_append_win (P := P) w base t tx o.type e i0 z dx ht htx hnx hi hz0 hzs v n xs HW y m news HS hm hl hbase
  unfold Oper.wp execOp
  simp only [ho, resolve, invoke, builtin, Sem.run_bind, Sem.run_pure, Result.andThen_ok, List.map_toArray, List.map_cons, List.map_nil, hs, hx, hr]
  exact h v1 w1 h1 h2 h3 h4
/-- append(s, x..), behind 'at_builtin' -/
theorem wpl_append (w : World) (base : Nat) (hgd : o.guard = none) (s x : Operand) (t tx e : TypeId) (z : Value) (size bytes : Nat) (dx : TypeDesc)
    (ho : o.op = .call { callee := .builtin .append, args := #[s, x], argTypes := #[t, tx] })
    (ht : P.underlying t = some (.slice e)) (htx : P.underlying tx = some dx) (hnx : (∃ q, dx = .slice q) ∨ dx = .string) (hinfo : (P.info? e).map (fun i => (i.zero, i.size, i.bytes)) = some (some z, size, bytes)) (hzs : z.cells.size = size)
    (v : Value) (n : Nat) (xs : List Value) (y : Value) (m : Nat) (news : List Value) (hs : a.eval s = v) (hx : a.eval x = y)
    (HW : Win w base e size v n xs) (HS : Src P w size y m news) (hbase : base ≤ w.heap.size) (hm : n + m ≤ maxLen) (hl : (n + m + (n + m) / 4 + 700) * bytes ≤ 281474976710656)
    (h : ∀ v1 w1, Win w1 base e size v1 (n + m) (xs ++ news) → Win w1 base e size v n xs → Fr (At v) w w1 → (rb v1 = rb v ∨ rb v1 = some w.heap.size) → wpList P ops Q rest (a.put o.dst v1) w1) :
    wpList P ops Q (o :: rest) a w :=
  wpList_plain hgd fun _ hK => wp_append w base s x t tx e z size bytes dx ho ht htx hnx hinfo hzs v n xs y m news hs hx HW HS hbase hm hl fun v1 w1 h1 h2 h3 h4 => hK _ _ (h v1 w1 h1 h2 h3 h4)
/-- append(s, x) of one element by way of its box; the goal's world is the one behind the box. -/
theorem wpl_append1 (w : World) (base : Nat) (hgd : o.guard = none) (s x : Operand) (t e : TypeId) (z : Value) (size bytes : Nat)
    (ho : o.op = .call { callee := .builtin .append, args := #[s, x], argTypes := #[t, t] })
    (ht : P.underlying t = some (.slice e)) (hinfo : (P.info? e).map (fun i => (i.zero, i.size, i.bytes)) = some (some z, size, bytes)) (hzs : z.cells.size = size)
    (v : Value) (n : Nat) (xs ys : List Value) (hs : a.eval s = v) (hx : a.eval x = .slice (some ⟨w.heap.size, 0, none⟩) 1 1)
    (HW : Win w base e size v n xs) (hys : ys.length = size) (h1 : ∀ u ∈ ys, u.oneCell' = true) (hbase : base ≤ w.heap.size) (hm : n + 1 ≤ maxLen) (hl : (n + 1 + (n + 1) / 4 + 700) * bytes ≤ 281474976710656)
    (h : ∀ v1 w1, Win w1 base e size v1 (n + 1) (xs ++ ys) → Win w1 base e size v n xs → Fr (At v) w w1 → (rb v1 = rb v ∨ ∃ b, rb v1 = some b ∧ w.heap.size ≤ b) → wpList P ops Q rest (a.put o.dst v1) w1) :
    wpList P ops Q (o :: rest) a (w.alloc (.cells ys.toArray e)) := by
  refine wpl_append (w.alloc (.cells ys.toArray e)) base hgd s x t t e z size bytes (.slice e) ho ht ht (.inl ⟨_, rfl⟩) hinfo hzs v n xs _ 1 ys hs hx (HW.below (below_alloc (Below.refl _ _) _))
    (Src.of_rd (fun _ => ⟨_, rfl, ?_⟩) (by omega) h1) (by simp; omega) hm hl fun v1 w1 g1 g2 g3 g4 => h v1 w1 g1 g2 ((Fr.alloc (S := At v) w _).trans g3 (fun _ _ h => h) (fun _ _ h => h)) ?_
  · simpa using World.news_of_block (cs := ys.toArray) (t := e) (fr := (0, 0)) (heap_alloc_new w (.cells ys.toArray e))
  · rcases g4 with g4 | g4
    · exact .inl g4
    · exact .inr ⟨_, g4, by simp⟩
end
/-- 'xs[m:]' without a case on the capacity (elements of one cell). -/
theorem cut_rd {P : Program} (t e : TypeId) (kl : IntKind) {i : TypeInfo} (ht : P.underlying t = some (.slice e)) (hi : P.info? e = some i) (hsz : i.size = 1) (A : Option Addr) (n c m : Nat) (hm : m ≤ n) :
    ∃ A' : Option Addr, (∀ W : World, (Instr.slice t (.slice A n c) (some (.int kl (m : Int))) none none).run P W = .ok (.slice A' (n - m) (c - m)) W) ∧
      (∀ (w : World) (xs : List Value), n ≤ c → xs.length = n → RdV w A xs → RdV w A' (xs.drop m)) ∧ (A' = none → A = none) := by
  refine ⟨if c = m then A else A.map (·.add m), fun W => ?_, fun w xs hc hl h hn => ?_, fun h => ?_⟩
  · have hel : P.elem t = e := by simp [Program.elem, ht]
    have hu : P.underlying t = some (.slice (P.elem t)) := by rw [hel]; exact ht
    rw [run_slice_l W t A n c hu kl (m : Int) (Int.natCast_nonneg _) (by omega), hel]
    simp [sizeOf, typeInfo, hi, hsz, sliced, Result.andThen]
  · have hlen : m < xs.length := by
      rcases Nat.lt_or_ge m xs.length with h1 | h1
      · exact h1
      · exact absurd (List.drop_eq_nil_of_le h1) hn
    obtain ⟨ad, rfl, hcell⟩ := h (by intro h0; subst h0; simp at hlen)
    rw [if_neg (by omega)]
    refine ⟨ad.add m, rfl, fun j u hj => ?_⟩
    have ha : (ad.add m).add j = ad.add (m + j) := by
      unfold Addr.add
      by_cases h1 : m = 0 <;> by_cases h2 : j = 0 <;> simp [h1, h2, Nat.add_assoc]
    rw [ha]
    rw [List.getElem?_drop] at hj
    exact hcell _ _ hj
  · split at h
    · exact h
    · cases A with
      | none => rfl
      | some a => cases h
theorem nums_drop (k : IntKind) (xs : List Int) (m : Nat) : (nums k xs).drop m = nums k (xs.drop m) := by simp [nums, List.map_drop]
theorem nums_take (k : IntKind) (xs : List Int) (m : Nat) : (nums k xs).take m = nums k (xs.take m) := by simp [nums, List.map_take]
theorem Win.nil_cap {w : World} {base n size c : Nat} {e : TypeId} {xs : List Value} (h : Win w base e size (.slice none n c) n xs) : c = 0 := by
  rcases h.2 with ⟨h0, A, he⟩ | ⟨g, off, cap, cur, he, _⟩
  · injection he
  · injection he with h1
    cases h1
end Go.Proofs.Ytchcimkmjoegdaa.M
namespace Go.Proofs.Ytchcimkmjoegdaa.C
open Go.RowKit Go.Proofs.YtchcimkmjoegdaaW.PrintWords Go.Proofs.Ytchcimkmjoegdaa.M
set_option linter.unusedVariables false
set_option linter.unusedSimpArgs false

theorem info5 : (Try.prog.info? 5).map (fun i => (i.zero, i.size, i.bytes)) = some (some (.int .u8 0), 1, 1) := by kernel_rfl

set_option maxHeartbeats 400000 in
theorem clone_none (w : World) : Calls Try.prog 72 #[.slice none 0 0] w fun e w' => e = .returned (.slice none 0 0) ∧ w' = w := by
  have hn := fun (w : World) => Lib.run_eql_slice_nil (P := Try.prog) w 22 5 none 0 0 0 0 Try.underlying22
  go_enter Try.func72, Try.ntmps72
  go_wp2_with fail
  go_ret
  exact ⟨rfl, rfl⟩
/-- The bound that a text's or a slice's length meets. -/
theorem small_bound {n : Nat} (h : n ≤ 140737488355328) : n ≤ maxLen ∧ (n + n / 4 + 700) * 1 ≤ 281474976710656 := by
  simp only [maxLen]
  omega
set_option maxHeartbeats 400000 in
theorem clone_some (w : World) (ad : Addr) (n c : Nat) (xs : List Value) (hr : RdV w (some ad) xs) (hl : xs.length = n) (h1 : ∀ u ∈ xs, u.oneCell' = true) (hn : n ≤ 140737488355328) :
    Calls Try.prog 72 #[.slice (some ad) n c] w fun e w' => ∃ v, e = .returned v ∧ Win w' w.heap.size 5 1 v n xs ∧ Fr No w w' := by
  have hnl := fun (w : World) => Lib.run_eql_slice_nil (P := Try.prog) w 22 5 (some ad) n c 0 0 Try.underlying22
  obtain ⟨b1, b2⟩ := small_bound hn
  have HW := Aside0.mk (show Win (w.alloc (Obj.cells #[] 5)) w.heap.size 5 1 (.slice (some ⟨w.heap.size, 0, none⟩) 0 0) 0 [] from ⟨rfl, .inl ⟨rfl, _, rfl⟩⟩)
  have HS := Aside0.mk (Src.of_rd (P := Try.prog) (size := 1) (m := n) (c := c) (hr.below (below_alloc (Below.refl _ _) (Obj.cells #[] 5))) (by omega) h1)
  have HB := Aside0.mk b1
  have HL := Aside0.mk b2
  clear b1 b2 hr hl h1 hn
  go_enter Try.func72, Try.ntmps72
  go_wp2_with (at_builtin; refine wpl_append _ w.heap.size rfl (.tmp 5) (.tmp 6) 22 22 5 (.int .u8 0) 1 1 (.slice 5) rfl Try.underlying22 Try.underlying22 (.inl ⟨_, rfl⟩) info5 rfl (.slice (some ⟨w.heap.size, 0, none⟩) 0 0) 0 [] _ n xs rfl rfl HW.out HS.out (by simp) (by simpa using HB.out) (by simpa using HL.out) ?_; intro v1 w1 g1 g2 g3 g4; have G1 := Aside0.mk g1; have G3 := Aside0.mk g3; clear g1 g2 g3 g4)
  go_ret
  refine ⟨v1, rfl, by simpa using G1.out, ?_⟩
  exact (Fr.alloc (S := No) w _).trans G3.out (fun _ _ h => h) (fun i hi h => by have := h.eq; simp at this; omega)
/-- slices.Clone at bytes, nil let in. -/
theorem clone_any (w : World) (A : Option Addr) (n c : Nat) (xs : List Value) (hr : RdV w A xs) (hl : xs.length = n) (h0 : A = none → c = 0) (hc : n ≤ c) (h1 : ∀ u ∈ xs, u.oneCell' = true) (hn : n ≤ 140737488355328) :
    Calls Try.prog 72 #[.slice A n c] w fun e w' => ∃ v, e = .returned v ∧ Win w' w.heap.size 5 1 v n xs ∧ Fr No w w' := by
  cases A with
  | none =>
    obtain rfl := h0 rfl
    obtain rfl : n = 0 := by omega
    obtain rfl : xs = [] := List.eq_nil_of_length_eq_zero hl
    exact (clone_none w).mono fun e w' ⟨h, h'⟩ => by subst h; subst h'; exact ⟨_, rfl, Win.nil _ _ _ _, Fr.refl _ _⟩
  | some ad => exact clone_some w ad n c xs hr hl h1 hn
set_option maxHeartbeats 400000 in
/-- slices.Clip at bytes. -/
theorem clip_any (w : World) (A : Option Addr) (n c : Nat) (hc : n ≤ c) (hn : n ≤ 9223372036854775807) :
    Calls Try.prog 79 #[.slice A n c] w fun e w' => e = .returned (.slice A n n) ∧ w' = w := by
  go_enter Try.func79, Try.ntmps79
  go_wp2_with fail
  go_ret
  exact ⟨rfl, rfl⟩
set_option maxHeartbeats 400000 in
theorem id_fn (w : World) (n : Int) : Calls Try.prog 76 #[.int .u64 n] w fun e w' => e = .returned (.int .u64 n) ∧ w' = w := by
  go_enter Try.func76, Try.ntmps76
  go_wp2_with fail
  go_ret
  exact ⟨rfl, rfl⟩
theorem zig_bits (n : Int) (h0 : -9223372036854775808 ≤ n) (h1 : n ≤ 9223372036854775807) :
    bits BinOp.xor IntKind.u64 (IntKind.u64.wrap (wrap64 (n * 2))) (IntKind.u64.wrap (n / 9223372036854775808)) = ((Lib.zigzag n : Nat) : Int) := by
  by_cases h : 0 ≤ n
  · have e1 : IntKind.u64.wrap (wrap64 (n * 2)) = ((2 * n).toNat : Nat) := by rw [IntKind.wrap_u64]; unfold wrap64; omega
    have e2 : IntKind.u64.wrap (n / 9223372036854775808) = ((0 : Nat) : Int) := by rw [IntKind.wrap_u64]; omega
    rw [e1, e2, bits_xor_u64_nat _ _ (by omega) (by decide), Nat.xor_zero]
    have := Lib.zigzag_nonneg h
    omega
  · have e1 : IntKind.u64.wrap (wrap64 (n * 2)) = ((2 * n + 18446744073709551616).toNat : Nat) := by rw [IntKind.wrap_u64]; unfold wrap64; omega
    have e2 : IntKind.u64.wrap (n / 9223372036854775808) = ((2 ^ 64 - 1 : Nat) : Int) := by rw [IntKind.wrap_u64]; omega
    rw [e1, e2, bits_xor_u64_nat _ _ (by omega) (by decide), Nat.xor_comm, Lib.xor_ones64 _ (by omega)]
    unfold Lib.zigzag
    rw [if_neg h]
    omega
theorem ret_int {k : IntKind} {a b : Int} (h : a = b) : Ending.returned (.int k a) = .returned (.int k b) := by rw [h]
set_option maxHeartbeats 400000 in
theorem zig_fn (w : World) (n : Int) (h0 : -9223372036854775808 ≤ n) (h1 : n ≤ 9223372036854775807) : Calls Try.prog 78 #[.int .i64 n] w fun e w' => e = .returned (.int .u64 (Lib.zigzag n : Nat)) ∧ w' = w := by
  go_enter Try.func78, Try.ntmps78
  go_wp2_with fail
  go_ret
  exact ⟨ret_int (zig_bits n h0 h1), rfl⟩

theorem nums_one (k : IntKind) (xs : List Int) : ∀ u ∈ nums k xs, u.oneCell' = true := by
  intro u hu
  obtain ⟨x, _, rfl⟩ := List.mem_map.1 hu
  rfl
def uenc (n : Nat) : List Int := if n < 128 then [(n : Int)] else ((n % 128 + 128 : Nat) : Int) :: uenc (n / 128)
termination_by n
decreasing_by omega
theorem uenc_len : ∀ (k u : Nat), u < 128 ^ (k + 1) → (uenc u).length ≤ k + 1
  | 0, u, h => by rw [uenc, if_pos (by simpa using h)]; simp
  | k + 1, u, h => by
    rw [uenc]
    split
    · simp
    · have := uenc_len k (u / 128) (Nat.div_lt_of_lt_mul (by rw [Nat.pow_succ] at h; omega))
      simp only [List.length_cons]
      omega
theorem uenc_10 (u : Nat) (h : u < 18446744073709551616) : (uenc u).length ≤ 10 := uenc_len 9 u (by omega)
theorem uenc_pos (u : Nat) : 0 < (uenc u).length := by rw [uenc]; split <;> simp
theorem or128 (x : Int) (h0 : 0 ≤ x) : bits .or .u8 (x % 256) 128 = ((x.toNat % 128 + 128 : Nat) : Int) := by
  have e : x % 256 = ((x.toNat % 256 : Nat) : Int) := by omega
  rw [e]
  have h : x.toNat % 256 < 256 := Nat.mod_lt _ (by decide)
  have e2 : x.toNat % 128 = x.toNat % 256 % 128 := by omega
  rw [e2]
  generalize x.toNat % 256 = y at h
  revert y
  decide +kernel
def M64 : Nat := 18446744073709551616
theorem M64_eq : M64 = 18446744073709551616 := rfl
/-- The state of put's loop. -/
def PutRel (w : World) (n u : Nat) (xs : List Int) (v7 v8 : Value) (wr : World) : Prop :=
  ∃ (u' : Nat) (ys : List Int), v8 = .int .u64 (u' : Int) ∧ u' < M64 ∧ ys ++ uenc u' = uenc u ∧ Win wr w.heap.size 5 1 v7 (n + ys.length) (nums .u8 (xs ++ ys)) ∧ Fr No w wr
/-- What is written lies in rows of the call's own: nothing of w has turned. -/
theorem own_step {w wr w1 : World} {v : Value} {m size : Nat} {e : TypeId} {xs : List Value} (hF : Fr No w wr) (hW : Win wr w.heap.size e size v m xs) (g3 : Fr (At v) wr w1) : Fr No w w1 :=
  hF.trans g3 (fun _ _ h => h) (fun i hi h => (hW.young h hi).elim)
theorem nums_snoc (k : IntKind) (xs : List Int) (x : Int) : nums k xs ++ [.int k x] = nums k (xs ++ [x]) := by simp [nums]
set_option maxRecDepth 100000 in
set_option maxHeartbeats 400000 in
theorem put_u (w : World) (A : Option Addr) (n c : Nat) (u : Nat) (xs : List Int) (hr : RdV w A (nums .u8 xs)) (hl : xs.length = n) (h0 : A = none → c = 0) (hc : n ≤ c) (hn : n ≤ 140737488355000) (hu : u < M64) :
    Calls Try.prog 75 #[.slice A n c, .int .u64 u, .func (.func 76) #[] #[]] w fun e w' => ∃ v, e = .returned v ∧ Win w' w.heap.size 5 1 v (n + (uenc u).length) (nums .u8 (xs ++ uenc u)) ∧ Fr No w w' := by
  have hlv : (nums .u8 xs).length = n := by simpa [nums] using hl
  have hone : ∀ u ∈ nums .u8 xs, u.oneCell' = true := nums_one _ _
  have CL := Aside0.mk (clone_any w A n c (nums .u8 xs) hr hlv h0 hc hone (by omega))
  have HN := Aside0.mk hn
  have HU := Aside0.mk hu
  clear hr hlv h0 hc hone hn hu hl
  go_enter Try.func75, Try.ntmps75
  go_wp2_with (first | (go_at_call 72; go_must (refine CL.out.mono ?_; rintro e w1 ⟨v, rfl, hw, hf⟩; have HW := Aside0.mk hw; have HF := Aside0.mk hf; clear hw hf)) | (go_at_call 76; go_must (refine (id_fn _ _).mono ?_; rintro e w2 ⟨rfl, rfl⟩)))
  go_loopw [7, 8] (fun v7 v8 wr => PutRel w n u xs v7 v8 wr) (fun _ v8 _ => (intOf v8).toNat)
  case atStart => exact ⟨u, [], rfl, HU.out, rfl, by simpa using HW.out, HF.out⟩
  case round =>
    
    obtain ⟨u', ys, rfl, hu', hy, hW, hF⟩ := hrel
    have H1 := Aside0.mk hu'
    have H2 := Aside0.mk hy
    have H3 := Aside0.mk hW
    have H4 := Aside0.mk hF
    clear hu' hy hW hF
    have H5 := Aside0.mk (show n + ys.length + 1 ≤ maxLen ∧ (n + ys.length + 1 + (n + ys.length + 1) / 4 + 700) * 1 ≤ 281474976710656 from small_bound (by have := uenc_10 u HU.out; have := H2.out; have := congrArg List.length this; simp at this; have := HN.out; omega))
    have H6 := Aside0.mk H4.out.size
    by_cases hlt : 127 < u'
    · go_wp2_with (at_builtin; go_must (refine wpl_append1 wr w.heap.size rfl (.tmp 18) (.tmp 22) 22 5 (.int .u8 0) 1 1 rfl Try.underlying22 info5 rfl u7 _ _ [.int .u8 (bits BinOp.or IntKind.u8 ((u' : Int) % 256) 128)] rfl rfl H3.out rfl (by simp [Value.oneCell']) H6.out H5.out.1 H5.out.2 ?_; intro v1 w1 g1 _ g3 _; have G1 := Aside0.mk g1; have G3 := Aside0.mk g3; clear g1 g3))
      go_roundw
      case rel =>
        have h2 := H2.out
        rw [uenc, if_neg (by omega)] at h2
        refine ⟨u' / 128, ys ++ [((u' % 128 + 128 : Nat) : Int)], by simp, Nat.lt_of_le_of_lt (Nat.div_le_self _ _) H1.out, by simpa using h2, ?_, own_step H4.out H3.out G3.out⟩
        have g := G1.out
        rw [or128 _ (by omega), nums_snoc, Int.toNat_natCast] at g
        simpa [Nat.add_assoc] using g
      case measure => simp [intOf]; omega
    · go_wp2_with (first | (at_builtin; go_must (refine wpl_append1 wr w.heap.size rfl (.tmp 24) (.tmp 27) 22 5 (.int .u8 0) 1 1 rfl Try.underlying22 info5 rfl u7 _ _ [.int .u8 (u' : Int)] rfl rfl H3.out rfl (by simp [Value.oneCell']) H6.out H5.out.1 H5.out.2 ?_; intro v1 w1 g1 _ g3 _; have G1 := Aside0.mk g1; have G3 := Aside0.mk g3; clear g1 g3; obtain ⟨A1, c1, e1, l1⟩ := G1.out.shape; subst e1; have L1 := Aside0.mk l1; clear l1)) | (go_at_call 79; go_must (refine (clip_any _ _ _ _ L1.out G1.out.max).mono ?_; rintro e w3 ⟨rfl, rfl⟩)))
      go_ret
      have h2 := H2.out
      rw [uenc, if_pos (by omega)] at h2
      have g := G1.out.clip
      rw [nums_snoc] at g
      refine ⟨_, rfl, ?_, own_step H4.out H3.out G3.out⟩
      rw [← h2]
      simpa [Nat.add_assoc] using g
set_option maxRecDepth 100000 in
set_option maxHeartbeats 400000 in
theorem put_i (w : World) (A : Option Addr) (n c : Nat) (q : Int) (u : Nat) (xs : List Int) (hr : RdV w A (nums .u8 xs)) (hl : xs.length = n) (h0 : A = none → c = 0) (hc : n ≤ c) (hn : n ≤ 140737488355000) (hu : u < M64) (hq0 : -9223372036854775808 ≤ q) (hq1 : q ≤ 9223372036854775807) (hz : u = Lib.zigzag q) :
    Calls Try.prog 77 #[.slice A n c, .int .i64 q, .func (.func 78) #[] #[]] w fun e w' => ∃ v, e = .returned v ∧ Win w' w.heap.size 5 1 v (n + (uenc u).length) (nums .u8 (xs ++ uenc u)) ∧ Fr No w w' := by
  have hlv : (nums .u8 xs).length = n := by simpa [nums] using hl
  have hone : ∀ u ∈ nums .u8 xs, u.oneCell' = true := nums_one _ _
  have CL := Aside0.mk (clone_any w A n c (nums .u8 xs) hr hlv h0 hc hone (by omega))
  have ZG := Aside0.mk (fun w => zig_fn w q hq0 hq1)
  rw [← hz] at ZG
  have HN := Aside0.mk hn
  clear hz hq0 hq1
  have HU := Aside0.mk hu
  clear hr hlv h0 hc hone hn hu hl
  go_enter Try.func77, Try.ntmps77
  go_wp2_with (first | (go_at_call 72; go_must (refine CL.out.mono ?_; rintro e w1 ⟨v, rfl, hw, hf⟩; have HW := Aside0.mk hw; have HF := Aside0.mk hf; clear hw hf)) | (go_at_call 78; go_must (refine (ZG.out _).mono ?_; rintro e w2 ⟨rfl, rfl⟩)))
  go_loopw [7, 8] (fun v7 v8 wr => PutRel w n u xs v7 v8 wr) (fun _ v8 _ => (intOf v8).toNat)
  case atStart => exact ⟨u, [], rfl, HU.out, rfl, by simpa using HW.out, HF.out⟩
  case round =>
    
    obtain ⟨u', ys, rfl, hu', hy, hW, hF⟩ := hrel
    have H1 := Aside0.mk hu'
    have H2 := Aside0.mk hy
    have H3 := Aside0.mk hW
    have H4 := Aside0.mk hF
    clear hu' hy hW hF
    have H5 := Aside0.mk (show n + ys.length + 1 ≤ maxLen ∧ (n + ys.length + 1 + (n + ys.length + 1) / 4 + 700) * 1 ≤ 281474976710656 from small_bound (by have := uenc_10 u HU.out; have := H2.out; have := congrArg List.length this; simp at this; have := HN.out; omega))
    have H6 := Aside0.mk H4.out.size
    by_cases hlt : 127 < u'
    · go_wp2_with (at_builtin; go_must (refine wpl_append1 wr w.heap.size rfl (.tmp 18) (.tmp 22) 22 5 (.int .u8 0) 1 1 rfl Try.underlying22 info5 rfl u7 _ _ [.int .u8 (bits BinOp.or IntKind.u8 ((u' : Int) % 256) 128)] rfl rfl H3.out rfl (by simp [Value.oneCell']) H6.out H5.out.1 H5.out.2 ?_; intro v1 w1 g1 _ g3 _; have G1 := Aside0.mk g1; have G3 := Aside0.mk g3; clear g1 g3))
      go_roundw
      case rel =>
        have h2 := H2.out
        rw [uenc, if_neg (by omega)] at h2
        refine ⟨u' / 128, ys ++ [((u' % 128 + 128 : Nat) : Int)], by simp, Nat.lt_of_le_of_lt (Nat.div_le_self _ _) H1.out, by simpa using h2, ?_, own_step H4.out H3.out G3.out⟩
        have g := G1.out
        rw [or128 _ (by omega), nums_snoc, Int.toNat_natCast] at g
        simpa [Nat.add_assoc] using g
      case measure => simp [intOf]; omega
    · go_wp2_with (first | (at_builtin; go_must (refine wpl_append1 wr w.heap.size rfl (.tmp 24) (.tmp 27) 22 5 (.int .u8 0) 1 1 rfl Try.underlying22 info5 rfl u7 _ _ [.int .u8 (u' : Int)] rfl rfl H3.out rfl (by simp [Value.oneCell']) H6.out H5.out.1 H5.out.2 ?_; intro v1 w1 g1 _ g3 _; have G1 := Aside0.mk g1; have G3 := Aside0.mk g3; clear g1 g3; obtain ⟨A1, c1, e1, l1⟩ := G1.out.shape; subst e1; have L1 := Aside0.mk l1; clear l1)) | (go_at_call 79; go_must (refine (clip_any _ _ _ _ L1.out G1.out.max).mono ?_; rintro e w3 ⟨rfl, rfl⟩)))
      go_ret
      have h2 := H2.out
      rw [uenc, if_pos (by omega)] at h2
      have g := G1.out.clip
      rw [nums_snoc] at g
      refine ⟨_, rfl, ?_, own_step H4.out H3.out G3.out⟩
      rw [← h2]
      simpa [Nat.add_assoc] using g
theorem zig_64 (q : Int) (hq0 : -9223372036854775808 ≤ q) (hq1 : q ≤ 9223372036854775807) : Lib.zigzag q < M64 := Lib.zigzag_lt hq0 hq1
set_option maxHeartbeats 400000 in
theorem PutUint_any (w : World) (A : Option Addr) (n c : Nat) (u : Nat) (xs : List Int) (hr : RdV w A (nums .u8 xs)) (hl : xs.length = n) (h0 : A = none → c = 0) (hc : n ≤ c) (hn : n ≤ 140737488355000) (hu : u < M64) :
    Calls Try.prog 25 #[.slice A n c, .int .u64 u] w fun e w' => ∃ v, e = .returned v ∧ Win w' w.heap.size 5 1 v (n + (uenc u).length) (nums .u8 (xs ++ uenc u)) ∧ Fr No w w' := by
  have H := Aside0.mk (put_u w A n c u xs hr hl h0 hc hn hu)
  clear hr hl h0 hc hn hu
  go_enter Try.func25, Try.ntmps25
  go_wp2_with (go_at_call 75; go_must (refine H.out.mono ?_; rintro e w1 ⟨v, rfl, hq⟩; have Q := Aside0.mk hq; clear hq))
  go_ret
  exact ⟨v, rfl, Q.out⟩
set_option maxHeartbeats 400000 in
theorem PutInt_any (w : World) (A : Option Addr) (n c : Nat) (q : Int) (xs : List Int) (hr : RdV w A (nums .u8 xs)) (hl : xs.length = n) (h0 : A = none → c = 0) (hc : n ≤ c) (hn : n ≤ 140737488355000) (hq0 : -9223372036854775808 ≤ q) (hq1 : q ≤ 9223372036854775807) :
    Calls Try.prog 26 #[.slice A n c, .int .i64 q] w fun e w' => ∃ v, e = .returned v ∧ Win w' w.heap.size 5 1 v (n + (uenc (Lib.zigzag q)).length) (nums .u8 (xs ++ uenc (Lib.zigzag q))) ∧ Fr No w w' := by
  have H := Aside0.mk (put_i w A n c q _ xs hr hl h0 hc hn (zig_64 q hq0 hq1) hq0 hq1 rfl)
  clear hr hl h0 hc hn hq0 hq1
  go_enter Try.func26, Try.ntmps26
  go_wp2_with (go_at_call 77; go_must (refine H.out.mono ?_; rintro e w1 ⟨v, rfl, hq⟩; have Q := Aside0.mk hq; clear hq))
  go_ret
  exact ⟨v, rfl, Q.out⟩
/-- A text's bytes as numbers. -/
theorem strCells_nums (s : ByteArray) : Lib.strCells s = nums .u8 (bytesOf s) := by simp [nums, bytesOf, Lib.strCells]
set_option maxHeartbeats 400000 in
theorem PutText_any (w : World) (A : Option Addr) (n c : Nat) (s : ByteArray) (xs : List Int) (hr : RdV w A (nums .u8 xs)) (hl : xs.length = n) (h0 : A = none → c = 0) (hc : n ≤ c) (hn : n + s.size ≤ 140737488355000) :
    Calls Try.prog 28 #[.slice A n c, .string s] w fun e w' => ∃ v, e = .returned v ∧ Win w' w.heap.size 5 1 v (n + (uenc s.size).length + s.size) (nums .u8 (xs ++ uenc s.size ++ bytesOf s)) ∧ Fr No w w' := by
  have hs : s.size < M64 := by rw [M64_eq]; omega
  have H := Aside0.mk (PutUint_any w A n c s.size xs hr hl h0 hc (by omega) hs)
  have hS : (s.size : Int) ≤ 9223372036854775807 := by omega
  have HB := Aside0.mk (show n + (uenc s.size).length + s.size ≤ maxLen ∧ (n + (uenc s.size).length + s.size + (n + (uenc s.size).length + s.size) / 4 + 700) * 1 ≤ 281474976710656 from small_bound (by have := uenc_10 s.size hs; omega))
  clear hr hl h0 hc hn hs
  go_enter Try.func28, Try.ntmps28
  go_wp2_with (first | (go_at_call 25; go_must (refine H.out.mono ?_; rintro e w1 ⟨v, rfl, hq, hf⟩; have Q := Aside0.mk hq; have F := Aside0.mk hf; clear hq hf)) | (at_builtin; go_must (refine wpl_append w1 w.heap.size rfl (.tmp 9) (.tmp 10) 22 9 5 (.int .u8 0) 1 1 .string rfl Try.underlying22 Try.underlying9 (.inr rfl) info5 rfl v _ _ (.string s) s.size (nums .u8 (bytesOf s)) rfl rfl Q.out (by rw [← strCells_nums]; exact Src.of_string _ _) F.out.size HB.out.1 HB.out.2 ?_; intro v1 w2 g1 _ g3 _; have G1 := Aside0.mk g1; have G3 := Aside0.mk g3; clear g1 g3; obtain ⟨A1, c1, e1, l1⟩ := G1.out.shape; subst e1; have L1 := Aside0.mk l1; clear l1)) | (go_at_call 79; go_must (refine (clip_any _ _ _ _ L1.out G1.out.max).mono ?_; rintro e w3 ⟨rfl, rfl⟩)))
  go_ret
  refine ⟨_, rfl, ?_, own_step F.out Q.out G3.out⟩
  have g := G1.out.clip
  rwa [← nums_append] at g
end Go.Proofs.Ytchcimkmjoegdaa.C
namespace Go.Proofs.Ytchcimkmjoegdaa.M
open Go.RowKit Go.Proofs.YtchcimkmjoegdaaW.PrintWords
/-- 'xs[:h]' -/
theorem cuth {P : Program} (t e : TypeId) (kh : IntKind) {i : TypeInfo} (ht : P.underlying t = some (.slice e)) (hi : P.info? e = some i) (A : Option Addr) (n c h : Nat) (hc : h ≤ c) :
    ∀ W : World, (Instr.slice t (.slice A n c) none (some (.int kh (h : Int))) none).run P W = .ok (.slice A h c) W := by
  intro W
  have hel : P.elem t = e := by simp [Program.elem, ht]
  have hu : P.underlying t = some (.slice (P.elem t)) := by rw [hel]; exact ht
  have ha : (A.map fun x => x.add 0) = A := by cases A <;> simp [Addr.add]
  rw [run_slice_h W t A n c hu kh (h : Int) (by omega) (by omega), hel]
  simp [sizeOf, typeInfo, hi, sliced, Result.andThen, ha]
theorem RdV.take {w : World} {A : Option Addr} {xs : List Value} (h : RdV w A xs) (m : Nat) : RdV w A (xs.take m) := fun hn => by
  obtain ⟨ad, e, hc⟩ := h (by intro h0; subst h0; simp at hn)
  refine ⟨ad, e, fun j u hj => ?_⟩
  rw [List.getElem?_take] at hj
  split at hj
  · exact hc j u hj
  · cases hj
/-- One step more of a body that leaves alone what lay below B. -/
theorem acc {B : Nat} {S : Nat → Prop} {w w1 w2 : World} (h : Below B w w1) (hB : B ≤ w.heap.size) (k : Fr S w1 w2) (hS : ∀ i, S i → B ≤ i) : Below B w w2 :=
  ⟨k.os.trans h.os, k.tape.trans h.tape, k.output.trans h.output, Nat.le_trans h.size k.size, fun i hi => (k.block i (Nat.lt_of_lt_of_le hi (Nat.le_trans hB h.size)) (fun hs => by have := hS i hs; omega)).trans (h.block i hi)⟩
theorem accNo {B : Nat} {w w1 w2 : World} (h : Below B w w1) (hB : B ≤ w.heap.size) (k : Fr No w1 w2) : Below B w w2 := acc h hB k (fun _ h => h.elim)
theorem accOne {B g : Nat} {w w1 w2 : World} (h : Below B w w1) (hB : B ≤ w.heap.size) (k : Fr (One g) w1 w2) (hg : B ≤ g) : Below B w w2 := acc h hB k (fun i h => by have h' : i = g := h; omega)
theorem accAlloc {B : Nat} {w w1 : World} (h : Below B w w1) (hB : B ≤ w.heap.size) (o : Obj) : Below B w (w1.alloc o) := accNo h hB (Fr.alloc w1 o)
theorem accDrew {B : Nat} {w w1 : World} (h : Below B w w1) (n : Nat) : Below B w (w1.drewN n) := pw_below_drewN h n
theorem Fr.of_No {w w' : World} (h : Below w.heap.size w w') : Fr No w w' := Fr.of_below h No
end Go.Proofs.Ytchcimkmjoegdaa.M
namespace Go.Proofs.Ytchcimkmjoegdaa.C
open Go.RowKit Go.Proofs.YtchcimkmjoegdaaW.PrintWords Go.Proofs.YtchcimkmjoegdaaW.PrintMore Go.Proofs.Ytchcimkmjoegdaa.M
set_option linter.unusedVariables false
set_option linter.unusedSimpArgs false

theorem rd_at {w : World} {A : Option Addr} {k : IntKind} {xs : List Int} {i : Nat} {x : Int} (h : RdV w A (nums k xs)) (hx : xs[i]? = some x) : ∃ ad, A = some ad ∧ w.cell? (ad.add i) = some (.int k x) := by
  obtain ⟨ad, e, hc⟩ := h (by intro h0; have h1 : xs = [] := (by simpa [nums] using h0); subst h1; simp at hx)
  exact ⟨ad, e, hc i _ (by simp [nums, hx])⟩
theorem get_some {xs : List Int} {i : Nat} (h : i < xs.length) : ∃ x, xs[i]? = some x := ⟨_, List.getElem?_eq_getElem h⟩
theorem take_succ_of {xs : List Int} {i : Nat} {x : Int} (h : xs[i]? = some x) : xs.take (i + 1) = xs.take i ++ [x] := by
  rw [List.take_add_one, h]
  rfl
set_option maxHeartbeats 1000000 in
theorem KBytes_true (w : World) (A B : Option Addr) (n c d : Nat) (xs : List Int) (hx : RdV w A (nums .u8 xs)) (hy : RdV w B (nums .u8 xs)) (hl : xs.length = n) (hn : n ≤ 9223372036854775807) (hc : n ≤ c) (hd : n ≤ d) :
    Calls Try.prog 24 #[.slice A n c, .slice B n d] w fun e w' => e = .returned (.bool true) ∧ ∃ m, w' = w.drewN m := by
  have HX := Aside0.mk hx
  have HY := Aside0.mk hy
  have HL := Aside0.mk hl
  clear hx hy hl
  go_enter Try.func24, Try.ntmps24
  go_wp2_with fail
  go_loopw [5] (fun v5 wr => ∃ i m : Nat, v5 = .int .i64 i ∧ i ≤ n ∧ wr = w.drewN m) (fun v5 _ => n - (intOf v5).toNat)
  case atStart => exact ⟨0, 0, rfl, by omega, rfl⟩
  case round =>
    obtain ⟨i, m, rfl, hi, rfl⟩ := hrel
    by_cases hlt : i < n
    · obtain ⟨x, hx⟩ := get_some (xs := xs) (i := i) (by have := HL.out; omega)
      obtain ⟨a1, e1, h1⟩ := rd_at HX.out hx
      obtain ⟨a2, e2, h2⟩ := rd_at HY.out hx
      clear hx
      subst e1; subst e2
      go_wp2_with fail
      go_quiet (fail)
      go_wp2_with fail
      go_roundw
      case rel => exact ⟨i + 1, m + nq, by simp, by omega, (by first | rfl | exact World.drewN_drewN ..)⟩
      case measure => simp [intOf]; omega
    · go_wp2_with fail
      go_ret
      exact ⟨rfl, m, rfl⟩
set_option maxHeartbeats 1000000 in
theorem KBytes_len (w : World) (A B : Option Addr) (n n' c d : Nat) (h : n ≠ n') (hn : n ≤ 9223372036854775807) (hn' : n' ≤ 9223372036854775807) :
    Calls Try.prog 24 #[.slice A n c, .slice B n' d] w fun e w' => e = .returned (.bool false) ∧ w' = w := by
  have hb : ((n : Int) != (n' : Int)) = true := by simp; omega
  clear h
  go_enter Try.func24, Try.ntmps24
  go_wp2_with fail
  go_ret
  exact ⟨rfl, rfl⟩
set_option maxHeartbeats 1000000 in
theorem KBytes_false (w : World) (A B : Option Addr) (n c d : Nat) (xs ys : List Int) (hx : RdV w A (nums .u8 xs)) (hy : RdV w B (nums .u8 ys)) (hl : xs.length = n) (hl' : ys.length = n) (hn : n ≤ 9223372036854775807) (hc : n ≤ c) (hd : n ≤ d) (hne : xs ≠ ys) :
    Calls Try.prog 24 #[.slice A n c, .slice B n d] w fun e w' => e = .returned (.bool false) ∧ ∃ m, w' = w.drewN m := by
  have HX := Aside0.mk hx
  have HY := Aside0.mk hy
  have HL := Aside0.mk hl
  have HL' := Aside0.mk hl'
  have HNE := Aside0.mk hne
  clear hx hy hl hl' hne
  go_enter Try.func24, Try.ntmps24
  go_wp2_with fail
  go_loopw [5] (fun v5 wr => ∃ i m : Nat, v5 = .int .i64 i ∧ i ≤ n ∧ wr = w.drewN m ∧ Aside0 (xs.take i = ys.take i)) (fun v5 _ => n - (intOf v5).toNat)
  case atStart => exact ⟨0, 0, rfl, by omega, rfl, ⟨rfl⟩⟩
  case round =>
    obtain ⟨i, m, rfl, hi, rfl, HT⟩ := hrel
    by_cases hlt : i < n
    · obtain ⟨x, hx⟩ := get_some (xs := xs) (i := i) (by have := HL.out; omega)
      obtain ⟨y, hy⟩ := get_some (xs := ys) (i := i) (by have := HL'.out; omega)
      obtain ⟨a1, e1, h1⟩ := rd_at HX.out hx
      obtain ⟨a2, e2, h2⟩ := rd_at HY.out hy
      have HXX := Aside0.mk hx
      have HYY := Aside0.mk hy
      clear hx hy
      subst e1; subst e2
      by_cases hxy : x = y
      · subst hxy
        go_wp2_with fail
        go_quiet (fail)
        go_wp2_with fail
        go_roundw
        case rel => exact ⟨i + 1, m + nq, by simp, by omega, (by first | rfl | exact World.drewN_drewN ..), ⟨by rw [take_succ_of HXX.out, take_succ_of HYY.out, HT.out]⟩⟩
        case measure => simp [intOf]; omega
      · have hb : (x != y) = true := by simp [hxy]
        clear hxy
        go_wp2_with fail
        go_quiet (fail)
        go_wp2_with fail
        go_ret
        exact ⟨rfl, m + nq, (by first | rfl | exact World.drewN_drewN ..)⟩
    · exact absurd (by have := HT.out; rwa [List.take_of_length_le (by have := HL.out; omega), List.take_of_length_le (by have := HL'.out; omega)] at this) HNE.out
/-- kit.Bytes. -/
theorem KBytes_any (w : World) (A B : Option Addr) (n n' c d : Nat) (xs ys : List Int) (hx : RdV w A (nums .u8 xs)) (hy : RdV w B (nums .u8 ys)) (hl : xs.length = n) (hl' : ys.length = n') (hn : n ≤ 9223372036854775807) (hn' : n' ≤ 9223372036854775807) (hc : n ≤ c) (hd : n' ≤ d) :
    Calls Try.prog 24 #[.slice A n c, .slice B n' d] w fun e w' => e = .returned (.bool (decide (xs = ys))) ∧ ∃ m, w' = w.drewN m := by
  by_cases h : n = n'
  · subst h
    by_cases hxy : xs = ys
    · subst hxy
      rw [decide_eq_true rfl]
      exact KBytes_true w A B n c d xs hx hy hl hn hc hd
    · rw [decide_eq_false hxy]
      exact KBytes_false w A B n c d xs ys hx hy hl hl' hn hc hd hxy
  · rw [decide_eq_false (by intro h'; subst h'; omega)]
    exact (KBytes_len w A B n n' c d h hn hn').mono fun e w' ⟨h1, h2⟩ => ⟨h1, 0, h2⟩
set_option maxHeartbeats 1000000 in
/-- kit.LentBytes: the bytes in memory of their own, a mark behind them. -/
theorem LentBytes_any (w : World) (A : Option Addr) (n c : Nat) (xs : List Int) (hr : RdV w A (nums .u8 xs)) (hl : xs.length = n) (hc : n ≤ c) (hn : n ≤ 140737488355327) :
    Calls Try.prog 27 #[.slice A n c] w fun e w' => ∃ A' c', e = .returned (.slice A' n c') ∧ Win w' w.heap.size 5 1 (.slice A' (n + 1) c') (n + 1) (nums .u8 (xs ++ [201])) ∧ Fr No w w' := by
  have HS := Aside0.mk (Src.of_rd (P := Try.prog) (size := 1) (m := n) (c := c) hr (by simp [nums, hl]) (nums_one _ _))
  have HB := Aside0.mk (small_bound (n := n) (by omega))
  have HB1 := Aside0.mk (small_bound (n := n + 1) (by omega))
  obtain ⟨i0, hi, _, hsz, _⟩ := info_parts info5
  have hcut := fun (A : Option Addr) (c : Nat) (h : n + 1 ≤ c) => cuth (P := Try.prog) 22 5 .i64 Try.underlying22 hi A (n + 1) c n (by omega)
  have HC := Aside0.mk hcut
  have hn' : (n : Int) ≤ 9223372036854775807 := by omega
  clear hr hl hi hsz hcut
  go_enter Try.func27, Try.ntmps27
  go_wp2_with (first | ((with_reducible refine gate_builtin (b := .append) (xs := #[.tmp 4, .tmp 5]) rfl ?_); at_builtin; go_must (refine wpl_append w w.heap.size rfl (.tmp 4) (.tmp 5) 22 22 5 (.int .u8 0) 1 1 (.slice 5) rfl Try.underlying22 Try.underlying22 (.inl ⟨_, rfl⟩) info5 rfl (.slice none 0 0) 0 [] (.slice A n c) n (nums .u8 xs) rfl rfl (Win.nil _ _ _ _) HS.out (Nat.le_refl _) (by simpa using HB.out.1) (by simpa using HB.out.2) ?_; intro v1 w1 g1 _ g3 _; have G1 := Aside0.mk g1; have G3 := Aside0.mk g3; clear g1 g3)) | ((with_reducible refine gate_builtin (b := .append) (xs := #[.tmp 7, .tmp 8]) rfl ?_); at_builtin; go_must (refine wpl_append1 w1 w.heap.size rfl (.tmp 7) (.tmp 8) 22 5 (.int .u8 0) 1 1 rfl Try.underlying22 info5 rfl v1 n (nums .u8 xs) [.int .u8 201] rfl rfl (by simpa using G1.out) rfl (by simp [Value.oneCell']) G3.out.size HB1.out.1 HB1.out.2 ?_; intro v2 w2 k1 _ k3 _; have K1 := Aside0.mk k1; have K3 := Aside0.mk k3; clear k1 k3; obtain ⟨A2, c2, e2, l2⟩ := K1.out.shape; subst e2; have hcut := HC.out A2 c2 l2)))
  go_ret
  have F1 : Fr No w w1 := G3.out.mono (fun k hk h => (At.none h).elim)
  refine ⟨A2, c2, rfl, by simpa [nums] using K1.out, F1.trans K3.out (fun _ _ h => h) (fun k hk h => ?_)⟩
  exact ((show Win w1 w.heap.size 5 1 v1 n (nums .u8 xs) by simpa using G1.out).young h hk).elim
set_option maxHeartbeats 1000000 in
/-- kit.KeptBytes: the bytes and the mark behind them. -/
theorem KeptBytes_any (w : World) (A B : Option Addr) (n c d n' : Nat) (xs ys : List Int) (x : Int) (hx : RdV w A (nums .u8 (xs ++ [x]))) (hy : RdV w B (nums .u8 ys)) (hl : xs.length = n) (hl' : ys.length = n') (hn : n + 1 ≤ 9223372036854775807) (hn' : n' ≤ 9223372036854775807) (hc : n + 1 ≤ c) (hd : n' ≤ d) :
    Calls Try.prog 32 #[.slice A n c, .slice B n' d] w fun e w' => e = .returned (.bool (decide (xs = ys) && decide (x = 201))) ∧ ∃ m, w' = w.drewN m := by
  have HB := KBytes_any w A B n n' c d xs ys (by have := RdV.take hx n; rw [nums_take, ← hl, List.take_left] at this; exact this) hy hl hl' (by omega) hn' (by omega) hd
  obtain ⟨ad, eA, hcell⟩ := rd_at (i := n) (x := x) hx (by rw [← hl]; simp)
  subst eA
  obtain ⟨i0, hi, _, hsz, _⟩ := info_parts info5
  have hcut := cuth (P := Try.prog) 22 5 .i64 Try.underlying22 hi (some ad) n c (n + 1) hc
  simp only [Int.natCast_add, Int.natCast_one] at hcut
  have hn1 : (n : Int) + 1 ≤ 9223372036854775807 := by omega
  clear hx hy hi hsz hl hl'
  by_cases hxy : xs = ys
  · rw [decide_eq_true hxy] at HB ⊢
    have H := Aside0.mk HB
    clear HB hxy
    go_enter Try.func32, Try.ntmps32
    go_wp2_with (go_at_call 24; go_must (refine H.out.mono ?_; rintro e' w1 ⟨rfl, m, rfl⟩))
    go_ret
    exact ⟨congrArg (fun b => Ending.returned (.bool b)) (show (x == 201) = (true && decide (x = 201)) by rw [Bool.true_and]; rfl), m, rfl⟩
  · rw [decide_eq_false hxy] at HB ⊢
    have H := Aside0.mk HB
    clear HB hxy
    go_enter Try.func32, Try.ntmps32
    go_wp2_with (go_at_call 24; go_must (refine H.out.mono ?_; rintro e' w1 ⟨rfl, m, rfl⟩))
    go_ret
    exact ⟨rfl, m, rfl⟩
end Go.Proofs.Ytchcimkmjoegdaa.C
