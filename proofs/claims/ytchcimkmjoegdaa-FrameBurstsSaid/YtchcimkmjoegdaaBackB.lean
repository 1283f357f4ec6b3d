/- CodecBack's steps that put: one number or text more. Conditions: as each theorem states. -/
import Derived.Test.YtchcimkmjoegdaaBackA
namespace Go.Proofs.Ytchcimkmjoegdaa.C
open Go.RowKit Go.Proofs.YtchcimkmjoegdaaW.PrintWords Go.Proofs.YtchcimkmjoegdaaW.PrintMore Go.Proofs.Ytchcimkmjoegdaa.M
set_option linter.unusedVariables false

/-- A list of bytes of the call's own. -/
def Acc (W : World) (B : Nat) (v : Value) (ys : List Int) : Prop := Win W B 5 1 v ys.length (nums .u8 ys)
theorem Acc.of {W : World} {B n : Nat} {v : Value} {ys : List Int} (h : Win W B 5 1 v n (nums .u8 ys)) : Acc W B v ys := by
  have := h.1
  rw [nums_length, Nat.mul_one] at this
  subst this
  exact h
theorem put_step_u (W : World) (B : Nat) (v : Value) (ys : List Int) (x : Int) (h : Acc W B v ys) (hB : B ≤ W.heap.size) (hx : 0 ≤ x ∧ x < 18446744073709551616) (hl : ys.length ≤ 1099511627776) :
    Calls Try.prog 25 #[v, .int .u64 x] W fun e w' => ∃ v', e = .returned v' ∧ Acc w' B v' (ys ++ uenc x.toNat) ∧ Fr No W w' := by
  obtain ⟨A, c, rfl, hc⟩ := Win.shape h
  obtain ⟨k, rfl⟩ := Int.eq_ofNat_of_zero_le hx.1
  refine (PutUint_any W A ys.length c k ys (RdV.of_win h) rfl (fun e => by subst e; exact Win.nil_cap h) hc (by omega) (by rw [M64_eq]; omega)).mono ?_
  rintro e w' ⟨v', rfl, q1, q2⟩
  exact ⟨v', rfl, Acc.of (q1.lower hB), q2⟩
theorem put_step_i (W : World) (B : Nat) (v : Value) (ys : List Int) (x : Int) (h : Acc W B v ys) (hB : B ≤ W.heap.size) (hx : -9223372036854775808 ≤ x ∧ x ≤ 9223372036854775807) (hl : ys.length ≤ 1099511627776) :
    Calls Try.prog 26 #[v, .int .i64 x] W fun e w' => ∃ v', e = .returned v' ∧ Acc w' B v' (ys ++ uenc (Lib.zigzag x)) ∧ Fr No W w' := by
  obtain ⟨A, c, rfl, hc⟩ := Win.shape h
  refine (PutInt_any W A ys.length c x ys (RdV.of_win h) rfl (fun e => by subst e; exact Win.nil_cap h) hc (by omega) hx.1 hx.2).mono ?_
  rintro e w' ⟨v', rfl, q1, q2⟩
  exact ⟨v', rfl, Acc.of (q1.lower hB), q2⟩
theorem put_step_t (W : World) (B : Nat) (v : Value) (ys : List Int) (s : ByteArray) (h : Acc W B v ys) (hB : B ≤ W.heap.size) (hx : s.size ≤ 1099511627776) (hl : ys.length ≤ 1099511627776) :
    Calls Try.prog 28 #[v, .string s] W fun e w' => ∃ v', e = .returned v' ∧ Acc w' B v' (ys ++ (uenc s.size ++ bytesOf s)) ∧ Fr No W w' := by
  obtain ⟨A, c, rfl, hc⟩ := Win.shape h
  refine (PutText_any W A ys.length c s ys (RdV.of_win h) rfl (fun e => by subst e; exact Win.nil_cap h) hc (by omega)).mono ?_
  rintro e w' ⟨v', rfl, q1, q2⟩
  rw [List.append_assoc] at q1
  exact ⟨v', rfl, Acc.of (q1.lower hB), q2⟩
theorem rdv_at {w : World} {A : Option Addr} {α : Type} {f : α → Value} {l : List α} {i : Nat} {x : α} (h : RdV w A (l.map f)) (hx : l[i]? = some x) : ∃ ad, A = some ad ∧ w.cell? (ad.add i) = some (f x) := by
  obtain ⟨ad, e, hc⟩ := h (by intro h0; have h1 : l = [] := by simpa using h0
                              subst h1; simp at hx)
  exact ⟨ad, e, hc i _ (by simp [hx])⟩
theorem get_some' {α : Type} {xs : List α} {i : Nat} (h : i < xs.length) : ∃ x, xs[i]? = some x := ⟨_, List.getElem?_eq_getElem h⟩
theorem rdv_some {w : World} {ad : Addr} {α : Type} {f : α → Value} {l : List α} {i : Nat} {x : α} (h : RdV w (some ad) (l.map f)) (hx : l[i]? = some x) : w.cell? (ad.add i) = some (f x) := by
  obtain ⟨ad', e, hc⟩ := rdv_at h hx
  injection e with e
  subst e
  exact hc
theorem rd_some {w : World} {ad : Addr} {k : IntKind} {l : List Int} {i : Nat} {x : Int} (h : RdV w (some ad) (nums k l)) (hx : l[i]? = some x) : w.cell? (ad.add i) = some (.int k x) := rdv_some (f := Value.int k) h hx
/-- The cut's place. -/
theorem cut_place (a : Int) (n : Nat) (ha0 : -9223372036854775808 ≤ a) (ha1 : a ≤ 9223372036854775807) (hn : n ≤ 20000) :
    ∃ k : Nat, k ≤ n ∧ ((n = 0 ∧ k = 0) ∨ (0 < n ∧ k < n ∧ ((a.tmod n < 0 ∧ wrap64 (a.tmod n + n) = k) ∨ (0 ≤ a.tmod n ∧ a.tmod n = k)))) := by
  by_cases h0 : n = 0
  · exact ⟨0, by omega, .inl ⟨h0, rfl⟩⟩
  · have h1 : a.tmod n < n := Int.tmod_lt_of_pos a (by omega)
    have h2 : -(n : Int) < a.tmod n := by
      have h := Int.tmod_lt_of_pos (-a) (b := (n : Int)) (by omega)
      rw [Int.neg_tmod] at h
      omega
    by_cases h3 : a.tmod n < 0
    · refine ⟨(a.tmod n + n).toNat, by omega, .inr ⟨by omega, by omega, .inl ⟨h3, ?_⟩⟩⟩
      unfold wrap64
      omega
    · exact ⟨(a.tmod n).toNat, by omega, .inr ⟨by omega, by omega, .inr ⟨by omega, by omega⟩⟩⟩
theorem two_full_x {W : World} {B g1 g2 : Nat} {xs pre post : List Int} {c p q : Nat} (h : Two W B g1 g2 xs c p q) (hb : Byt xs) (hB : B ≤ W.heap.size) (x : Int) (hx0 : 0 ≤ x ∧ x < 18446744073709551616) (hx : xs = pre ++ uenc x.toNat ++ post) (hp : pre.length = q) :
    Calls Try.prog 19 #[.pointer (some ⟨g2, 0, none⟩)] W fun e w' => e = .returned (.int .u64 x) ∧ Two w' B g1 g2 xs c p (q + (uenc x.toNat).length) ∧ Below B W w' := by
  have H := two_full_u h hb hB x.toNat (by rw [M64_eq]; omega) hx hp
  rwa [show ((x.toNat : Nat) : Int) = x from by omega] at H
/-- Both readers, made. -/
theorem two_start {w0 w1 w2 : World} {B g1 g2 k : Nat} {xs : List Int} (hB : B ≤ w0.heap.size) (h1 : Rdr w1 w0.heap.size g1 (xs.take k) 0 0) (f1 : Fr No w0 w1) (h2 : Rdr w2 w1.heap.size g2 xs 0 0) (f2 : Fr No w1 w2) : Two w2 B g1 g2 xs k 0 0 :=
  ⟨fun e => by have := h1.lt; have := h2.1; omega, ⟨0, 0, (h1.below f2.no).lower hB, .inr ⟨rfl, rfl⟩⟩, h2.lower (by have := f1.size; omega)⟩
def HidT (w wr : World) (g1 g2 : Nat) (xs : List Int) (k : Nat) (pre : List Int) : Prop := Two wr w.heap.size g1 g2 xs k pre.length pre.length ∧ Below w.heap.size w wr
theorem hidT_step {w wr : World} {g1 g2 k : Nat} {xs pre it : List Int} (h : Two wr w.heap.size g1 g2 xs k (pre.length + it.length) (pre.length + it.length)) (hb : Below w.heap.size w wr) : HidT w wr g1 g2 xs k (pre ++ it) :=
  ⟨by rw [List.length_append]; exact h, hb⟩
theorem text_small {us is xs : List Int} {ts : List ByteArray} (h : xs = bU us ++ bI is ++ bT ts) {i : Nat} {x : ByteArray} (hx : ts[i]? = some x) (hn : xs.length ≤ 20000) : x.size ≤ 20000 := by
  have h2 : bT ts = (bT (ts.take i)) ++ (uenc x.size ++ bytesOf x) ++ bT (ts.drop (i + 1)) := by unfold bT; rw [flat_split _ hx]
  rw [h, h2] at hn
  simp only [List.length_append, bytesOf_length] at hn
  omega
theorem split_u {us is xs : List Int} {ts : List ByteArray} (h : xs = bU us ++ bI is ++ bT ts) {i : Nat} {x : Int} (hx : us[i]? = some x) : ∃ post, xs = bU (us.take i) ++ uenc x.toNat ++ post := ⟨bU (us.drop (i + 1)) ++ bI is ++ bT ts, by rw [h]; unfold bU; rw [flat_split _ hx]; simp only [List.append_assoc]⟩
theorem split_i {us is xs : List Int} {ts : List ByteArray} (h : xs = bU us ++ bI is ++ bT ts) {i : Nat} {x : Int} (hx : is[i]? = some x) : ∃ post, xs = (bU us ++ bI (is.take i)) ++ uenc (Lib.zigzag x) ++ post := ⟨bI (is.drop (i + 1)) ++ bT ts, by rw [h]; unfold bI; rw [flat_split _ hx]; simp only [List.append_assoc]⟩
theorem split_t {us is xs : List Int} {ts : List ByteArray} (h : xs = bU us ++ bI is ++ bT ts) {i : Nat} {x : ByteArray} (hx : ts[i]? = some x) : ∃ post, xs = (bU us ++ bI is ++ bT (ts.take i)) ++ (uenc x.size ++ bytesOf x) ++ post := ⟨bT (ts.drop (i + 1)), by rw [h]; unfold bT; rw [flat_split _ hx]; simp only [List.append_assoc]⟩
end Go.Proofs.Ytchcimkmjoegdaa.C
