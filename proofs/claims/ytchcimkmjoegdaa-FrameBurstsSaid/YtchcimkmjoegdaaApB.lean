/- kit.ApartBytes: lists that were handed out in blocks of their own are told as apart. Conditions: as each theorem states. -/
import Derived.Test.YtchcimkmjoegdaaKitA
import Derived.Test.YtchcimkmjoegdaaMemC
namespace Go.Proofs.Ytchcimkmjoegdaa.ApB
open Go.RowKit Go.Proofs.YtchcimkmjoegdaaW.PrintWords Go.Proofs.YtchcimkmjoegdaaW.PrintMore Go.Proofs.Ytchcimkmjoegdaa.M Go.Proofs.Ytchcimkmjoegdaa.C
set_option linter.unusedVariables false
set_option linter.unusedSimpArgs false

def markA (i k : Nat) : Int := (37 * (i : Int) + k) % 256
def markB (i k : Nat) : Int := (11 * (i : Int) + k) % 256
/-- The first marks of row i. -/
def mkA (i n : Nat) : List Int := (List.range n).map fun k => markA i k
/-- The marks behind them. -/
def mkB (i n : Nat) : List Int := (List.range n).map fun k => markB i k
theorem mkA_len (i n : Nat) : (mkA i n).length = n := by simp [mkA]
theorem mkB_len (i n : Nat) : (mkB i n).length = n := by simp [mkB]
theorem mkA_get (i n k : Nat) (h : k < n) : (mkA i n)[k]? = some (markA i k) := by simp [mkA, h]
theorem mkB_get (i n k : Nat) (h : k < n) : (mkB i n)[k]? = some (markB i k) := by simp [mkB, h]
theorem mkB_succ (i n : Nat) : mkB i (n + 1) = mkB i n ++ [markB i n] := by simp [mkB, List.range_succ]
section
variable (base : Nat) (L : List (Value × Nat))
def UL : Nat → Prop := fun k => ∃ (j : Nat) (v : Value) (n : Nat), L[j]? = some (v, n) ∧ At v k
def SepL : Prop := ∀ (i j : Nat) (v : Value) (n : Nat) (v' : Value) (n' k : Nat), i ≠ j → L[i]? = some (v, n) → L[j]? = some (v', n') → At v k → ¬ At v' k
/-- Rows ahead of i bear their marks, row i's first k cells too. -/
def AllA (i k : Nat) (W : World) : Prop := ∀ (j : Nat) (v : Value) (n : Nat), L[j]? = some (v, n) → ∃ xs, Win W base 5 1 v n xs ∧ (j < i → xs = nums .u8 (mkA j n)) ∧ (j = i → ∀ q, q < k → q < n → xs[q]? = some (.int .u8 (markA i q)))
variable {base L}
theorem AllA.store {i k g off n c : Nat} {W : World} (hS : SepL L) (h : AllA base L i k W) (hi : L[i]? = some (.slice (some ⟨g, off, none⟩) n c, n)) (hk : k < n) :
    AllA base L i (k + 1) (W.setCell ⟨g, off + k, none⟩ (.int .u8 (markA i k))) ∧ Fr (UL L) W (W.setCell ⟨g, off + k, none⟩ (.int .u8 (markA i k))) := by
  obtain ⟨xs, hw, _, h2⟩ := h i _ n hi
  obtain ⟨g1, g2⟩ := hw.store k hk (.int .u8 (markA i k))
  refine ⟨fun j v m hj => ?_, g2.mono (fun q _ hq => ⟨i, _, n, hi, hq⟩)⟩
  by_cases hji : j = i
  · subst hji
    rw [hi] at hj
    injection hj with hj
    injection hj with h3 h4
    subst h3; subst h4
    refine ⟨_, g1, fun h => absurd h (Nat.lt_irrefl _), fun _ q hq hqn => ?_⟩
    have hxl : xs.length = n := by have := hw.1; omega
    rw [List.getElem?_set]
    by_cases hqk : k = q
    · subst hqk
      rw [if_pos rfl, if_pos (by omega)]
    · rw [if_neg hqk]
      exact h2 rfl q (by omega) hqn
  · obtain ⟨ys, hy, h3, h4⟩ := h j v m hj
    exact ⟨ys, hy.fr g2 (fun q hq hq' => hS j i v m _ n q hji hj hi hq hq'), h3, fun e => absurd e hji⟩
theorem AllA.next {i k n : Nat} {v : Value} {W : World} (h : AllA base L i k W) (hi : L[i]? = some (v, n)) (hk : n ≤ k) : AllA base L (i + 1) 0 W := fun j u m hj => by
  obtain ⟨xs, hw, h1, h2⟩ := h j u m hj
  refine ⟨xs, hw, fun hlt => ?_, fun _ q hq _ => absurd hq (Nat.not_lt_zero _)⟩
  by_cases hji : j = i
  · subst hji
    rw [hi] at hj
    injection hj with hj
    injection hj with h3 h4
    subst h3; subst h4
    have hxl : xs.length = n := by have := hw.1; omega
    apply List.ext_getElem?
    intro q
    by_cases hq : q < n
    · rw [h2 rfl q (by omega) hq]
      simp [nums, mkA_get _ _ _ hq]
    · rw [List.getElem?_eq_none (by omega), List.getElem?_eq_none (by rw [nums_length, mkA_len]; omega)]
  · exact h1 (by omega)
theorem AllA.done {i : Nat} {W : World} (h : AllA base L i 0 W) (hi : L.length ≤ i) {j n : Nat} {v : Value} (hj : L[j]? = some (v, n)) : Win W base 5 1 v n (nums .u8 (mkA j n)) := by
  obtain ⟨xs, hw, h1, _⟩ := h j v n hj
  rw [← h1 (by have := (List.getElem?_eq_some_iff.1 hj).1; omega)]
  exact hw
/-- Behind i rows gone on with. -/
structure AfterB (B : Nat) (w0 : World) (M : List Value) (u5 : Value) (W : World) : Prop where
  all : ∀ (j : Nat) (v : Value) (n : Nat), L[j]? = some (v, n) → Win W base 5 1 v n (nums .u8 (mkA j n))
  more : ∀ (j : Nat) (m v : Value) (n : Nat), M[j]? = some m → L[j]? = some (v, n) → Win W base 5 1 m (n + 70) (nums .u8 (mkA j n ++ mkB j 70)) ∧ ∀ k, At m k → At v k ∨ B ≤ k
  sep : ∀ (i j : Nat) (m m' : Value) (k : Nat), i ≠ j → M[i]? = some m → M[j]? = some m' → At m k → ¬ At m' k
  hdr : Win W B 22 1 u5 M.length M
  fr : Fr (UL L) w0 W
/-- Row i while it is gone on with: what l is. -/
def LRow (B : Nat) (M : List Value) (u5 : Value) (v : Value) (n k : Nat) (l : Value) : Prop :=
  (∃ A c, v = .slice A n c ∧ l = .slice A (n + k) c) ∨ ∀ q, At l q → B ≤ q ∧ (¬ ∃ (j : Nat) (m : Value), M[j]? = some m ∧ At m q) ∧ ¬ At u5 q
theorem at_same {A : Option Addr} {n m c k : Nat} (h : At (.slice A n c) k) : At (.slice A m c) k := by
  cases A <;> cases c <;> exact h
/-- One mark more behind l. -/
theorem AfterB.grow {B : Nat} {w0 W W1 : World} {M : List Value} {u5 l l1 v : Value} {n k i : Nat} {ys : List Value} (hS : SepL L) (hlt : ∀ k, UL L k → k < B) (hi : L[i]? = some (v, n)) (hM : M.length = i) (h : AfterB (base := base) (L := L) B w0 M u5 W) (hB : B = w0.heap.size)
    (hl : LRow B M u5 v n k l) (hlw : Win W base 5 1 l (n + k) ys) (hl1 : Win W1 base 5 1 l1 (n + k + 1) (ys ++ [.int .u8 (markB i k)])) (hys : ys = nums .u8 (mkA i n ++ mkB i k)) (hf : Fr (At l) W W1)
    (hg : (∃ A c, l = .slice A (n + k) c ∧ l1 = .slice A (n + k + 1) c) ∨ (Fr No W W1 ∧ ∃ c, l1 = .slice (some ⟨W.heap.size + 1, 0, none⟩) (n + k + 1) c)) :
    AfterB (base := base) (L := L) B w0 M u5 W1 ∧ LRow B M u5 v n (k + 1) l1 ∧ Win W1 base 5 1 l1 (n + (k + 1)) (nums .u8 (mkA i n ++ mkB i (k + 1))) := by
  -- l's block: row i's own, or a new one
  have hlb : ∀ q, At l q → (At v q ∧ q < B) ∨ (B ≤ q ∧ (¬ ∃ (j : Nat) (m : Value), M[j]? = some m ∧ At m q) ∧ ¬ At u5 q) := fun q hq => by
    rcases hl with ⟨A, c, rfl, rfl⟩ | hl
    · exact .inl ⟨at_same hq, hlt q ⟨i, _, n, hi, at_same hq⟩⟩
    · exact .inr (hl q hq)
  refine ⟨⟨fun j v' n' hj => ?_, fun j m v' n' hm hj => ?_, h.sep, ?_, ?_⟩, ?_, ?_⟩
  · by_cases hji : j = i
    · subst hji
      rw [hi] at hj
      injection hj with hj
      injection hj with h3 h4
      subst h3; subst h4
      rcases hl with ⟨A, c, rfl, rfl⟩ | hl
      · rcases hg with ⟨A1, c1, he, rfl⟩ | ⟨hno, _⟩
        · injection he with e1 _ e3
          subst e1; subst e3
          have := hl1.take (m := n) (by omega)
          rw [hys, Nat.mul_one, nums_append, List.append_assoc, List.take_left' (by rw [nums_length, mkA_len])] at this
          exact this
        · exact (h.all _ _ _ hi).fr hno (fun _ _ h => h)
      · exact (h.all _ _ _ hi).fr hf (fun q hq hq' => by have := hlt q ⟨_, _, _, hi, hq⟩; have := (hl q hq').1; omega)
    · exact (h.all _ _ _ hj).fr hf (fun q hq hq' => by
        rcases hlb q hq' with ⟨h1, _⟩ | ⟨h1, _⟩
        · exact hS j i _ _ _ _ q hji hj hi hq h1
        · have := hlt q ⟨_, _, _, hj, hq⟩; omega)
  · obtain ⟨h1, h2⟩ := h.more j m v' n' hm hj
    refine ⟨h1.fr hf (fun q hq hq' => ?_), h2⟩
    have hji : j ≠ i := by have := (List.getElem?_eq_some_iff.1 hm).1; omega
    rcases hlb q hq' with ⟨h3, h4⟩ | ⟨_, h4, _⟩
    · rcases h2 q hq with h5 | h5
      · exact hS j i _ _ _ _ q hji hj hi h5 h3
      · omega
    · exact h4 ⟨j, m, hm, hq⟩
  · exact h.hdr.fr hf (fun q hq hq' => by
      rcases hlb q hq' with ⟨_, h4⟩ | ⟨_, _, h4⟩
      · have := (h.hdr.at_ hq).1; omega
      · exact h4 hq)
  · exact h.fr.trans hf (fun _ _ h => h) (fun q hq hq' => by
      rcases hlb q hq' with ⟨h3, _⟩ | ⟨h3, _⟩
      · exact ⟨i, _, n, hi, h3⟩
      · omega)
  · rcases hg with ⟨A1, c1, he, rfl⟩ | ⟨hno, c1, rfl⟩
    · rcases hl with ⟨A, c, rfl, hle⟩ | hl
      · left
        rw [he] at hle
        injection hle with e1 _ e3
        subst e1; subst e3
        exact ⟨_, _, rfl, rfl⟩
      · right
        intro q hq
        subst he
        exact hl q (at_same hq)
    · right
      intro q hq
      obtain rfl := hq.eq
      simp only
      have hBW : B ≤ W.heap.size := hB ▸ h.fr.size
      refine ⟨by omega, ?_, fun hq' => ?_⟩
      · rintro ⟨j, m, hm, hq'⟩
        obtain ⟨v', n', hj⟩ : ∃ v' n', L[j]? = some (v', n') := by
          have h1 := (List.getElem?_eq_some_iff.1 hm).1
          have h2 := (List.getElem?_eq_some_iff.1 hi).1
          exact ⟨_, _, List.getElem?_eq_getElem (show j < L.length by omega)⟩
        have := ((h.more j m v' n' hm hj).1.at_ hq').2.1
        omega
      · have := (h.hdr.at_ hq').2.1
        omega
  · rw [hys, nums_snoc] at hl1
    rw [mkB_succ, ← List.append_assoc]
    exact hl1
/-- Row i is done: l is laid into the header. -/
theorem AfterB.snoc {B : Nat} {w0 W W1 : World} {M : List Value} {u5 u5' l v : Value} {n i : Nat} (hS : SepL L) (hlt : ∀ k, UL L k → k < B) (hi : L[i]? = some (v, n)) (hM : M.length = i) (h : AfterB (base := base) (L := L) B w0 M u5 W) (hB : B = w0.heap.size)
    (hl : LRow B M u5 v n 70 l) (hlw : Win W base 5 1 l (n + 70) (nums .u8 (mkA i n ++ mkB i 70))) (hw1 : Win W1 B 22 1 u5' (M.length + 1) (M ++ [l])) (hf : Fr (At u5) W W1) : AfterB (base := base) (L := L) B w0 (M ++ [l]) u5' W1 := by
  have hu5 : ∀ q, At u5 q → B ≤ q ∧ ∀ m k xs, Win W base 5 1 m k xs → ¬ At m q := fun q hq => by
    obtain ⟨h1, _, cur, h2⟩ := h.hdr.at_ hq
    exact ⟨h1, fun m k xs hm hmq => absurd (hm.ne_type hmq h2) (by decide)⟩
  have hlb : ∀ q, At l q → (At v q ∧ q < B) ∨ (B ≤ q ∧ (¬ ∃ (j : Nat) (m : Value), M[j]? = some m ∧ At m q)) := fun q hq => by
    rcases hl with ⟨A, c, rfl, rfl⟩ | hl
    · exact .inl ⟨at_same hq, hlt q ⟨i, _, n, hi, at_same hq⟩⟩
    · exact .inr ⟨(hl q hq).1, (hl q hq).2.1⟩
  have hget : ∀ j m, (M ++ [l])[j]? = some m → (j < M.length ∧ M[j]? = some m) ∨ (j = i ∧ m = l) := fun j m hj => by
    rcases Nat.lt_or_ge j M.length with h1 | h1
    · rw [List.getElem?_append_left h1] at hj
      exact .inl ⟨h1, hj⟩
    · have h2 := (List.getElem?_eq_some_iff.1 hj).1
      simp at h2
      have h3 : j = M.length := by omega
      subst h3
      simp at hj
      exact .inr ⟨hM, hj.symm⟩
  have hml : ∀ j m q, M[j]? = some m → At m q → At l q → False := fun j m q hm hq hq' => by
    have hj := (List.getElem?_eq_some_iff.1 hm).1
    obtain ⟨v', n', hj'⟩ : ∃ v' n', L[j]? = some (v', n') := ⟨_, _, List.getElem?_eq_getElem (show j < L.length by have h2 := (List.getElem?_eq_some_iff.1 hi).1; omega)⟩
    rcases hlb q hq' with ⟨h3, h4⟩ | ⟨_, h4⟩
    · rcases (h.more j m v' n' hm hj').2 q hq with h5 | h5
      · exact hS j i _ _ _ _ q (by omega) hj' hi h5 h3
      · omega
    · exact h4 ⟨j, m, hm, hq⟩
  refine ⟨fun j v' n' hj => (h.all j v' n' hj).fr hf (fun q hq hq' => (hu5 q hq').2 _ _ _ (h.all j v' n' hj) hq), fun j m v' n' hm hj => ?_, fun j j' m m' q hne hm hm' hq hq' => ?_, by simpa using hw1, h.fr.trans hf (fun _ _ h => h) (fun q hq hq' => by have := (hu5 q hq').1; omega)⟩
  · rcases hget j m hm with ⟨_, h1⟩ | ⟨rfl, rfl⟩
    · obtain ⟨h2, h3⟩ := h.more j m v' n' h1 hj
      exact ⟨h2.fr hf (fun q hq hq' => (hu5 q hq').2 _ _ _ h2 hq), h3⟩
    · rw [hi] at hj
      injection hj with hj
      injection hj with h3 h4
      subst h3; subst h4
      refine ⟨hlw.fr hf (fun q hq hq' => (hu5 q hq').2 _ _ _ hlw hq), fun q hq => ?_⟩
      rcases hlb q hq with ⟨h3, _⟩ | ⟨h3, _⟩
      · exact .inl h3
      · exact .inr h3
  · rcases hget j m hm with ⟨_, h1⟩ | ⟨rfl, rfl⟩
    · rcases hget j' m' hm' with ⟨_, h2⟩ | ⟨rfl, rfl⟩
      · exact h.sep j j' m m' q hne h1 h2 hq hq'
      · exact hml j m q h1 hq hq'
    · rcases hget j' m' hm' with ⟨_, h2⟩ | ⟨h2, _⟩
      · exact hml j' m' q h2 hq' hq
      · exact hne h2.symm
end
end Go.Proofs.Ytchcimkmjoegdaa.ApB
