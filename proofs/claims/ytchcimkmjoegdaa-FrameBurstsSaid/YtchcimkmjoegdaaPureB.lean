/- Plain laws on numbers and texts laid one behind another, read whole and read cut short. No program here. Conditions: as each theorem states. -/
import Derived.Test.YtchcimkmjoegdaaPureA
import Derived.Test.YtchcimkmjoegdaaCodF
import Derived.Test.YtchcimkmjoegdaaRefA
namespace Go.Proofs.Ytchcimkmjoegdaa.C
open Go.RowKit Go.Proofs.YtchcimkmjoegdaaW.PrintWords Go.Proofs.YtchcimkmjoegdaaW.PrintMore Go.Proofs.Ytchcimkmjoegdaa.M
set_option linter.unusedVariables false

theorem numK_uenc : ∀ (k u : Nat) (r : List Int), k ≤ 9 → u < 2 * 128 ^ k → (k = 9 ∨ u ≠ 0) → numK (k + 1) (uenc u ++ r) = some (u, (uenc u).length)
  | 0, u, r, _, h, h0 => by
    have hu : u < 128 := by simp at h; omega
    rw [uenc_small hu, List.singleton_append, numK, if_neg (by simp at h ⊢; omega), if_pos (by omega), if_neg (by omega)]
    simp
    omega
  | k + 1, u, r, hk, h, h0 => by
    by_cases hu : u < 128
    · rw [uenc_small hu, List.singleton_append, numK, if_neg (by omega), if_pos (by omega), if_neg (by omega)]
      simp
      omega
    · have ih := numK_uenc k (u / 128) r (by omega) (by rw [Nat.pow_succ] at h; omega) (.inr (by omega))
      rw [uenc_big hu, List.cons_append, numK, if_neg (by omega), if_neg (by omega), ih]
      simp
      omega
theorem num_uenc (u : Nat) (r : List Int) (h : u < M64) : num (uenc u ++ r) = some (u, (uenc u).length) :=
  numK_uenc 9 u r (Nat.le_refl _) (by rw [M64_eq] at h; omega) (.inl rfl)
theorem numK_cut : ∀ (k u j : Nat), j < (uenc u).length → numK k ((uenc u).take j) = none
  | 0, u, j, h => by cases (uenc u).take j <;> rfl
  | k + 1, u, 0, h => rfl
  | k + 1, u, j + 1, h => by
    by_cases hu : u < 128
    · rw [uenc_small hu] at h
      simp at h
    · rw [uenc_big hu] at h ⊢
      rw [List.take_succ_cons, numK]
      split
      · rfl
      · rw [if_neg (by omega), numK_cut k (u / 128) j (by simpa using h)]
        rfl
theorem num_cut (u j : Nat) (h : j < (uenc u).length) : num ((uenc u).take j) = none := numK_cut 10 u j h
theorem byt_uenc : ∀ (u : Nat), Byt (uenc u) := fun u => by
  induction u using Nat.strongRecOn with
  | _ u ih =>
    intro x hx
    by_cases hu : u < 128
    · rw [uenc_small hu] at hx
      simp at hx
      omega
    · rw [uenc_big hu] at hx
      rcases List.mem_cons.1 hx with rfl | h
      · omega
      · exact ih (u / 128) (by omega) x h
theorem byt_str (s : ByteArray) : Byt (bytesOf s) := fun x hx => by
  obtain ⟨b, _, rfl⟩ := List.mem_map.1 hx
  have := b.toNat_lt
  omega
theorem Byt.app {a b : List Int} (ha : Byt a) (hb : Byt b) : Byt (a ++ b) := fun x hx => (List.mem_append.1 hx).elim (ha x) (hb x)
theorem Byt.take {a : List Int} (ha : Byt a) (n : Nat) : Byt (a.take n) := fun x hx => ha x (List.mem_of_mem_take hx)
theorem str_back (s : ByteArray) : strOfNums (bytesOf s) = s := by
  cases s with
  | mk d =>
    unfold strOfNums bytesOf
    congr 1
    rw [List.map_map, show ((fun n : Int => UInt8.ofNat n.toNat) ∘ fun b : UInt8 => (b.toNat : Int)) = id from by funext b; simp]
    simp

/-- What stands from a place on in a list cut at c. -/
theorem cut_at (pre it post : List Int) (c : Nat) : ((pre ++ it ++ post).take c).drop pre.length = (it ++ post).take (c - pre.length) := by
  rw [List.drop_take, List.append_assoc, List.drop_left]
/-- The reader of the cut list: it has failed, or stands where the whole one's does. -/
def Cut (p i : Nat) (e : Int) : Prop := e = 20 ∨ (e = 0 ∧ i = p)
theorem rU_full (pre post : List Int) (u : Nat) (h : u < M64) : rU (pre ++ uenc u ++ post) pre.length 0 = (u, pre.length + (uenc u).length, 0) := by
  rw [rU, if_pos rfl, List.append_assoc, List.drop_left, num_uenc u post h]
theorem num_piece (u : Nat) (post : List Int) (m : Nat) (h : u < M64) : num ((uenc u ++ post).take m) = if (uenc u).length ≤ m then some (u, (uenc u).length) else none := by
  rw [List.take_append]
  split
  · rename_i hm
    rw [List.take_of_length_le hm, num_uenc u _ h]
  · rename_i hm
    rw [show m - (uenc u).length = 0 by omega, List.take_zero, List.append_nil, num_cut u m (by omega)]
theorem rU_cut (pre post : List Int) (u c i : Nat) (e : Int) (h : u < M64) (hs : Cut pre.length i e) : Cut (pre.length + (uenc u).length) (rU ((pre ++ uenc u ++ post).take c) i e).2.1 (rU ((pre ++ uenc u ++ post).take c) i e).2.2 := by
  rcases hs with rfl | ⟨rfl, rfl⟩
  · exact .inl rfl
  · rw [rU, if_pos rfl, cut_at, num_piece u post _ h]
    split
    · exact .inl rfl
    · rename_i a b hq
      split at hq
      · injection hq with hq
        injection hq with q1 q2
        subst q1; subst q2
        exact .inr ⟨rfl, rfl⟩
      · cases hq
theorem rT_full (pre post : List Int) (s : ByteArray) (most : Int) (h : s.size < M64) (hm : (s.size : Int) ≤ most) : rT (pre ++ (uenc s.size ++ bytesOf s) ++ post) pre.length 0 most = (bytesOf s, pre.length + (uenc s.size ++ bytesOf s).length, 0) := by
  have e1 : (pre ++ (uenc s.size ++ bytesOf s) ++ post).drop pre.length = uenc s.size ++ (bytesOf s ++ post) := by simp
  have e2 : (pre ++ (uenc s.size ++ bytesOf s) ++ post).drop (pre.length + (uenc s.size).length) = bytesOf s ++ post := by
    rw [← List.drop_drop, e1, List.drop_left]
  have hl := bytesOf_length s
  rw [rT, if_pos rfl, e1, num_uenc s.size _ h]
  simp only
  rw [if_pos ⟨hm, by simp [hl]; omega⟩, e2, ← hl, List.take_left]
  simp [Nat.add_assoc]
theorem rT_cut (pre post : List Int) (s : ByteArray) (c i : Nat) (e most : Int) (h : s.size < M64) (hs : Cut pre.length i e) : Cut (pre.length + (uenc s.size ++ bytesOf s).length) (rT ((pre ++ (uenc s.size ++ bytesOf s) ++ post).take c) i e most).2.1 (rT ((pre ++ (uenc s.size ++ bytesOf s) ++ post).take c) i e most).2.2 := by
  rcases hs with rfl | ⟨rfl, rfl⟩
  · exact .inl rfl
  · rw [rT, if_pos rfl, cut_at, List.append_assoc, num_piece s.size _ _ h]
    split
    · exact .inl rfl
    · rename_i a b hq
      split at hq
      · injection hq with hq
        injection hq with q1 q2
        subst q1; subst q2
        split
        · refine .inr ⟨rfl, ?_⟩
          simp [bytesOf_length, Nat.add_assoc]
        · exact .inl rfl
      · cases hq
/-- The bytes of the values put. -/
def bU (l : List Int) : List Int := l.flatMap fun u => uenc u.toNat
def bI (l : List Int) : List Int := l.flatMap fun q => uenc (Lib.zigzag q)
def bT (l : List ByteArray) : List Int := l.flatMap fun s => uenc s.size ++ bytesOf s
theorem flat_take {α β : Type} (f : α → List β) {l : List α} {i : Nat} {x : α} (h : l[i]? = some x) : (l.take (i + 1)).flatMap f = (l.take i).flatMap f ++ f x := by
  rw [List.take_add_one, h, List.flatMap_append]
  simp
theorem flat_split {α β : Type} (f : α → List β) {l : List α} {i : Nat} {x : α} (h : l[i]? = some x) : l.flatMap f = (l.take i).flatMap f ++ f x ++ (l.drop (i + 1)).flatMap f := by
  rw [← flat_take f h, ← List.flatMap_append, List.take_append_drop]
theorem byt_flat {α : Type} (f : α → List Int) (h : ∀ x, Byt (f x)) (l : List α) : Byt (l.flatMap f) := fun x hx => by
  obtain ⟨y, _, hy⟩ := List.mem_flatMap.1 hx
  exact h y x hy
theorem flat_len {α β : Type} (f : α → List β) (k : Nat) : ∀ (l : List α), (∀ x ∈ l, (f x).length ≤ k) → (l.flatMap f).length ≤ l.length * k
  | [], _ => by simp
  | a :: l, h => by
    have h1 := h a (by simp)
    have h2 := flat_len f k l (fun x hx => h x (by simp [hx]))
    rw [List.flatMap_cons, List.length_append, List.length_cons, Nat.succ_mul]
    omega
theorem flat_take_le {α β : Type} (f : α → List β) (l : List α) (i : Nat) : ((l.take i).flatMap f).length ≤ (l.flatMap f).length := by
  have h : l.flatMap f = (l.take i).flatMap f ++ (l.drop i).flatMap f := by rw [← List.flatMap_append, List.take_append_drop]
  rw [h, List.length_append]
  omega
end Go.Proofs.Ytchcimkmjoegdaa.C
