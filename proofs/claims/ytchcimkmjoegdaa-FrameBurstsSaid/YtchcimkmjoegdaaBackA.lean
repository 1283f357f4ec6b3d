/- Two readers, one of a list cut short and one of the whole: each step of both. Conditions: as each theorem states. -/
import Derived.Test.YtchcimkmjoegdaaPureB
import Derived.Test.YtchcimkmjoegdaaLawOne
namespace Go.Proofs.Ytchcimkmjoegdaa.C
open Go.RowKit Go.Proofs.YtchcimkmjoegdaaW.PrintWords Go.Proofs.YtchcimkmjoegdaaW.PrintMore Go.Proofs.Ytchcimkmjoegdaa.M
set_option linter.unusedVariables false

theorem Rdr.lower {w : World} {b b' g i : Nat} {xs : List Int} {e : Int} (h : Rdr w b g xs i e) (hb : b' ≤ b) : Rdr w b' g xs i e := by
  obtain ⟨h1, h2, v, h3, h4⟩ := h
  exact ⟨Nat.le_trans hb h1, h2, v, h3, h4.lower hb⟩
def Two (w : World) (B g1 g2 : Nat) (xs : List Int) (c p q : Nat) : Prop := g1 ≠ g2 ∧ (∃ i e, Rdr w B g1 (xs.take c) i e ∧ Cut p i e) ∧ Rdr w B g2 xs q 0
section
variable {W : World} {B g1 g2 : Nat} {xs pre post : List Int} {c p q : Nat}
theorem Two.below {w' : World} (h : Two W B g1 g2 xs c p q) (hb : Below W.heap.size W w') : Two w' B g1 g2 xs c p q := by
  obtain ⟨h0, ⟨i, e, h1, h2⟩, h3⟩ := h
  exact ⟨h0, ⟨i, e, h1.below hb, h2⟩, h3.below hb⟩
theorem Two.drewN (h : Two W B g1 g2 xs c p q) (m : Nat) : Two (W.drewN m) B g1 g2 xs c p q := h.below (pw_below_drewN (Below.refl _ _) m)
theorem two_cut_u (h : Two W B g1 g2 xs c p q) (hb : Byt xs) (hB : B ≤ W.heap.size) (u : Nat) (hu : u < M64) (hx : xs = pre ++ uenc u ++ post) (hp : pre.length = p) :
    Calls Try.prog 19 #[.pointer (some ⟨g1, 0, none⟩)] W fun e w' => (∃ z : Nat, e = .returned (.int .u64 z)) ∧ Two w' B g1 g2 xs c (p + (uenc u).length) q ∧ Below B W w' := by
  obtain ⟨h0, ⟨i, e, h1, h2⟩, h3⟩ := h
  refine (Uint_any W B g1 i (xs.take c) e h1 (hb.take c)).mono ?_
  rintro e' w' ⟨rfl, q1, q2⟩
  subst hx; subst hp
  exact ⟨⟨_, rfl⟩, ⟨h0, ⟨_, _, q1, rU_cut pre post u c i e hu h2⟩, h3.other h1 q2 (Ne.symm h0)⟩, q2.below hB fun k hk => by have : k = g1 := hk; have := h1.1; omega⟩
theorem two_full_u (h : Two W B g1 g2 xs c p q) (hb : Byt xs) (hB : B ≤ W.heap.size) (u : Nat) (hu : u < M64) (hx : xs = pre ++ uenc u ++ post) (hp : pre.length = q) :
    Calls Try.prog 19 #[.pointer (some ⟨g2, 0, none⟩)] W fun e w' => e = .returned (.int .u64 u) ∧ Two w' B g1 g2 xs c p (q + (uenc u).length) ∧ Below B W w' := by
  obtain ⟨h0, ⟨i, e, h1, h2⟩, h3⟩ := h
  have H := Uint_any W B g2 q xs 0 h3 hb
  have hf : rU xs q 0 = (u, q + (uenc u).length, 0) := by subst hx; subst hp; exact rU_full pre post u hu
  rw [hf] at H
  refine H.mono ?_
  rintro e' w' ⟨rfl, q1, q2⟩
  exact ⟨rfl, ⟨h0, ⟨_, _, h1.other h3 q2 h0, h2⟩, q1⟩, q2.below hB fun k hk => by have : k = g2 := hk; have := h3.1; omega⟩
theorem two_cut_i (h : Two W B g1 g2 xs c p q) (hb : Byt xs) (hB : B ≤ W.heap.size) (u : Nat) (hu : u < M64) (hx : xs = pre ++ uenc u ++ post) (hp : pre.length = p) :
    Calls Try.prog 21 #[.pointer (some ⟨g1, 0, none⟩)] W fun e w' => (∃ z : Int, e = .returned (.int .i64 z)) ∧ Two w' B g1 g2 xs c (p + (uenc u).length) q ∧ Below B W w' := by
  obtain ⟨h0, ⟨i, e, h1, h2⟩, h3⟩ := h
  refine (Int_any W B g1 i (xs.take c) e h1 (hb.take c)).mono ?_
  rintro e' w' ⟨rfl, q1, q2⟩
  subst hx; subst hp
  exact ⟨⟨_, rfl⟩, ⟨h0, ⟨_, _, q1, rU_cut pre post u c i e hu h2⟩, h3.other h1 q2 (Ne.symm h0)⟩, q2.below hB fun k hk => by have : k = g1 := hk; have := h1.1; omega⟩
theorem two_full_i (h : Two W B g1 g2 xs c p q) (hb : Byt xs) (hB : B ≤ W.heap.size) (z : Int) (hu : Lib.zigzag z < M64) (hx : xs = pre ++ uenc (Lib.zigzag z) ++ post) (hp : pre.length = q) :
    Calls Try.prog 21 #[.pointer (some ⟨g2, 0, none⟩)] W fun e w' => e = .returned (.int .i64 z) ∧ Two w' B g1 g2 xs c p (q + (uenc (Lib.zigzag z)).length) ∧ Below B W w' := by
  obtain ⟨h0, ⟨i, e, h1, h2⟩, h3⟩ := h
  have H := Int_any W B g2 q xs 0 h3 hb
  have hf : rU xs q 0 = (Lib.zigzag z, q + (uenc (Lib.zigzag z)).length, 0) := by subst hx; subst hp; exact rU_full pre post _ hu
  rw [hf] at H
  refine H.mono ?_
  rintro e' w' ⟨rfl, q1, q2⟩
  exact ⟨by rw [unzig_zig], ⟨h0, ⟨_, _, h1.other h3 q2 h0, h2⟩, q1⟩, q2.below hB fun k hk => by have : k = g2 := hk; have := h3.1; omega⟩
theorem two_cut_t (h : Two W B g1 g2 xs c p q) (hb : Byt xs) (hB : B ≤ W.heap.size) (s : ByteArray) (hs : s.size < M64) (hx : xs = pre ++ (uenc s.size ++ bytesOf s) ++ post) (hp : pre.length = p) :
    Calls Try.prog 34 #[.pointer (some ⟨g1, 0, none⟩), .int .i64 20000] W fun e w' => (∃ z : ByteArray, e = .returned (.string z)) ∧ Two w' B g1 g2 xs c (p + (uenc s.size ++ bytesOf s).length) q ∧ Below B W w' := by
  obtain ⟨h0, ⟨i, e, h1, h2⟩, h3⟩ := h
  refine (Text_any W B g1 i (xs.take c) e 20000 h1 (hb.take c) (by decide)).mono ?_
  rintro e' w' ⟨rfl, q1, q2⟩
  subst hx; subst hp
  exact ⟨⟨_, rfl⟩, ⟨h0, ⟨_, _, q1, rT_cut pre post s c i e 20000 hs h2⟩, h3.other h1 q2 (Ne.symm h0)⟩, q2.below hB fun k hk => by have : k = g1 := hk; have := h1.1; omega⟩
theorem two_full_t (h : Two W B g1 g2 xs c p q) (hb : Byt xs) (hB : B ≤ W.heap.size) (s : ByteArray) (hs : s.size < M64) (hs2 : s.size ≤ 20000) (hx : xs = pre ++ (uenc s.size ++ bytesOf s) ++ post) (hp : pre.length = q) :
    Calls Try.prog 34 #[.pointer (some ⟨g2, 0, none⟩), .int .i64 20000] W fun e w' => e = .returned (.string s) ∧ Two w' B g1 g2 xs c p (q + (uenc s.size ++ bytesOf s).length) ∧ Below B W w' := by
  obtain ⟨h0, ⟨i, e, h1, h2⟩, h3⟩ := h
  have H := Text_any W B g2 q xs 0 20000 h3 hb (by decide)
  have hf : rT xs q 0 20000 = (bytesOf s, q + (uenc s.size ++ bytesOf s).length, 0) := by subst hx; subst hp; exact rT_full pre post s 20000 hs (by omega)
  rw [hf, str_back] at H
  refine H.mono ?_
  rintro e' w' ⟨rfl, q1, q2⟩
  exact ⟨rfl, ⟨h0, ⟨_, _, h1.other h3 q2 h0, h2⟩, q1⟩, q2.below hB fun k hk => by have : k = g2 := hk; have := h3.1; omega⟩
/-- At the end. -/
theorem two_left (h : Two W B g1 g2 xs c p xs.length) :
    Calls Try.prog 20 #[.pointer (some ⟨g2, 0, none⟩)] W fun e w' => e = .returned (.int .i64 0) ∧ ∃ m, w' = W.drewN m := by
  obtain ⟨h0, ⟨i, e, h1, h2⟩, h3⟩ := h
  refine (Left_any W B g2 xs.length xs 0 h3).mono ?_
  rintro e' w' ⟨rfl, q1⟩
  exact ⟨by simp, q1⟩
theorem two_end (h : Two W B g1 g2 xs c p xs.length) (hB : B ≤ W.heap.size) :
    Calls Try.prog 35 #[.pointer (some ⟨g2, 0, none⟩)] W fun e w' => e = .returned (.int .i64 0) ∧ Two w' B g1 g2 xs c p xs.length ∧ Below B W w' := by
  obtain ⟨h0, ⟨i, e, h1, h2⟩, h3⟩ := h
  have H := End_any W B g2 xs.length xs 0 h3
  have hf : rE xs xs.length 0 = 0 := by unfold rE; rw [if_neg (by omega)]
  rw [hf] at H
  refine H.mono ?_
  rintro e' w' ⟨rfl, q1, q2⟩
  exact ⟨rfl, ⟨h0, ⟨_, _, h1.other h3 q2 h0, h2⟩, q1⟩, q2.below hB fun k hk => by have : k = g2 := hk; have := h3.1; omega⟩
theorem two_err (h : Two W B g1 g2 xs c xs.length q) (hc : c < xs.length) :
    Calls Try.prog 22 #[.pointer (some ⟨g1, 0, none⟩)] W fun e w' => e = .returned (.int .i64 20) ∧ W = w' := by
  obtain ⟨h0, ⟨i, e, h1, h2⟩, h3⟩ := h
  have he : e = 20 := by
    rcases h2 with h2 | ⟨_, h2⟩
    · exact h2
    · obtain ⟨_, hi, _⟩ := h1
      rw [List.length_take] at hi
      omega
  subst he
  refine (Err_any W B g1 i _ 20 h1).mono ?_
  rintro e' w' ⟨rfl, rfl⟩
  exact ⟨rfl, rfl⟩
end
end Go.Proofs.Ytchcimkmjoegdaa.C
