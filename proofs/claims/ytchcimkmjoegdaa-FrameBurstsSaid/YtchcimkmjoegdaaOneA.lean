/- The codec's reader and the reference's, in step: each method moves both alike. Conditions: the lengths' bounds. -/
import Derived.Test.YtchcimkmjoegdaaRefF
import Derived.Test.YtchcimkmjoegdaaBackB
namespace Go.Proofs.Ytchcimkmjoegdaa.C
open Go.RowKit Go.Proofs.YtchcimkmjoegdaaW.PrintWords Go.Proofs.YtchcimkmjoegdaaW.PrintMore Go.Proofs.Ytchcimkmjoegdaa.M
set_option linter.unusedVariables false

/-- What is given once: the input's bytes, read in w0. -/
structure Inp (w0 : World) (A : Option Addr) (n c : Nat) (xs : List Int) : Prop where
  rd : RdV w0 A (nums .u8 xs)
  len : xs.length = n
  cap : n ≤ c
  max : n ≤ 140737488355328
  byt : Byt xs
/-- Both readers over the same bytes, each at its place. -/
structure Syn (w0 W : World) (g1 g2 : Nat) (A : Option Addr) (n c : Nat) (xs : List Int) (i1 : Nat) (e1 : Int) (i2 : Nat) (e2 : Int) : Prop where
  cod : Rdr W w0.heap.size g1 xs i1 e1
  mod : W.heap[g2]? = some (.cells #[.slice A n c, .int .i64 i2, .int .i64 e2] 67 (0, 0))
  bel : Below w0.heap.size w0 W
  old : w0.heap.size ≤ g2
  at2 : i2 ≤ n
theorem Syn.ne {w0 W : World} {g1 g2 n c i1 i2 : Nat} {A : Option Addr} {xs : List Int} {e1 e2 : Int} (h : Syn w0 W g1 g2 A n c xs i1 e1 i2 e2) : g1 ≠ g2 := fun e => by
  subst e
  obtain ⟨_, _, v, h3, _⟩ := h.cod
  have h4 := h.mod
  rw [h3] at h4
  injection h4 with h4
  injection h4 with _ h4
  exact absurd h4 (by decide)
section
variable {w0 W : World} {g1 g2 n c i1 i2 : Nat} {A : Option Addr} {xs : List Int} {e1 e2 : Int}
theorem Syn.below {w' : World} (h : Syn w0 W g1 g2 A n c xs i1 e1 i2 e2) (hb : Below W.heap.size W w') : Syn w0 w' g1 g2 A n c xs i1 e1 i2 e2 :=
  ⟨h.cod.below hb, (hb.block g2 (blk_lt h.mod)).trans h.mod, h.bel.trans (hb.mono h.bel.size), h.old, h.at2⟩
theorem Syn.no {w' : World} (h : Syn w0 W g1 g2 A n c xs i1 e1 i2 e2) (hb : Fr No W w') : Syn w0 w' g1 g2 A n c xs i1 e1 i2 e2 := h.below hb.no
theorem Syn.rd (h : Syn w0 W g1 g2 A n c xs i1 e1 i2 e2) (I : Inp w0 A n c xs) : RdV W A (nums .u8 xs) := I.rd.below h.bel
theorem Syn.far (h : Syn w0 W g1 g2 A n c xs i1 e1 i2 e2) (I : Inp w0 A n c xs) : 0 < n → ∀ ad, A = some ad → ad.block ≠ g2 := fun hn ad e => by
  obtain ⟨x, hx⟩ := get_some (xs := xs) (i := 0) (by rw [I.len]; exact hn)
  obtain ⟨ad', e', hc⟩ := rd_at I.rd hx
  rw [e] at e'
  injection e' with e'
  subst e'
  have h1 := World.block_lt_of_cell? w0 _ hc
  have h2 : (ad.add 0).block = ad.block := by unfold Addr.add; split <;> rfl
  have := h.old
  omega
theorem Syn.cod1 {w' : World} {j : Nat} {e : Int} (h : Syn w0 W g1 g2 A n c xs i1 e1 i2 e2) (hr : Rdr w' w0.heap.size g1 xs j e) (hf : Fr (One g1) W w') : Syn w0 w' g1 g2 A n c xs j e i2 e2 :=
  ⟨hr, hf.get h.mod (fun hk => h.ne (Eq.symm hk)), h.bel.trans (hf.below h.bel.size fun k hk => by have : k = g1 := hk; have := h.cod.1; omega), h.old, h.at2⟩
theorem Syn.mod1 {w' : World} {j : Nat} {e : Int} (h : Syn w0 W g1 g2 A n c xs i1 e1 i2 e2) (hr : w'.heap[g2]? = some (.cells #[.slice A n c, .int .i64 j, .int .i64 e] 67 (0, 0))) (hj : j ≤ n) (hf : Fr (One g2) W w') : Syn w0 w' g1 g2 A n c xs i1 e1 j e :=
  ⟨h.cod.fr hf h.ne (fun k cur hk hc => by
    have hk' : k = g2 := hk
    subst hk'
    rw [h.mod] at hc
    injection hc with hc
    injection hc with _ hc
    exact absurd hc (by decide)), hr, h.bel.trans (hf.below h.bel.size fun k hk => by have : k = g2 := hk; have := h.old; omega), h.old, hj⟩
theorem rU_le {xs : List Int} {i : Nat} {e : Int} (hi : i ≤ xs.length) : (rU xs i e).2.1 ≤ xs.length := by
  unfold rU
  split
  · split
    · exact hi
    · rename_i u k hq
      have := numK_le 10 _ u k hq
      simp at this
      show i + k ≤ xs.length
      omega
  · exact hi
theorem rS_le {xs : List Int} {i : Nat} {e m : Int} (hi : i ≤ xs.length) : (rS xs i e m).2.1 ≤ xs.length := by
  unfold rS
  split
  · split
    · exact hi
    · rename_i u k hq
      have := numK_le 10 _ u k hq
      simp at this
      split
      · show i + k ≤ xs.length
        omega
      · exact hi
  · exact hi
theorem rT_le {xs : List Int} {i : Nat} {e m : Int} (hi : i ≤ xs.length) : (rT xs i e m).2.1 ≤ xs.length := by
  unfold rT
  split
  · split
    · exact hi
    · split
      · rename_i h
        exact h.2
      · exact hi
  · exact hi
theorem rB_le {xs : List Int} {i : Nat} {e m : Int} (hi : i ≤ xs.length) : (rB xs i e m).2.1 ≤ xs.length := by
  unfold rB
  split
  · split
    · show i + m.toNat ≤ xs.length
      omega
    · exact hi
  · exact hi
theorem cod_u (h : Syn w0 W g1 g2 A n c xs i1 e1 i2 e2) (I : Inp w0 A n c xs) : Calls Try.prog 19 #[.pointer (some ⟨g1, 0, none⟩)] W fun e' w' => e' = .returned (.int .u64 (rU xs i1 e1).1) ∧ Syn w0 w' g1 g2 A n c xs (rU xs i1 e1).2.1 (rU xs i1 e1).2.2 i2 e2 ∧ Fr (One g1) W w' := by
  refine (Uint_any W w0.heap.size g1 i1 xs e1 h.cod I.byt).mono ?_
  rintro e' w' ⟨rfl, q1, q2⟩
  exact ⟨rfl, h.cod1 q1 q2, q2⟩
theorem mod_u (h : Syn w0 W g1 g2 A n c xs i1 e1 i2 e2) (I : Inp w0 A n c xs) : Calls Try.prog 95 #[.pointer (some ⟨g2, 0, none⟩)] W fun e' w' => e' = .returned (.int .u64 (rU xs i2 e2).1) ∧ Syn w0 w' g1 g2 A n c xs i1 e1 (rU xs i2 e2).2.1 (rU xs i2 e2).2.2 ∧ Fr (One g2) W w' := by
  refine (mUint_any W g2 A n c xs i2 e2 h.mod (h.rd I) I.len h.at2 I.cap I.max I.byt).mono ?_
  rintro e' w' ⟨rfl, q1, q2⟩
  exact ⟨rfl, h.mod1 q1 (I.len ▸ rU_le (I.len ▸ h.at2)) q2, q2⟩
theorem cod_i (h : Syn w0 W g1 g2 A n c xs i1 e1 i2 e2) (I : Inp w0 A n c xs) : Calls Try.prog 21 #[.pointer (some ⟨g1, 0, none⟩)] W fun e' w' => e' = .returned (.int .i64 (unzig (rU xs i1 e1).1)) ∧ Syn w0 w' g1 g2 A n c xs (rU xs i1 e1).2.1 (rU xs i1 e1).2.2 i2 e2 ∧ Fr (One g1) W w' := by
  refine (Int_any W w0.heap.size g1 i1 xs e1 h.cod I.byt).mono ?_
  rintro e' w' ⟨rfl, q1, q2⟩
  exact ⟨rfl, h.cod1 q1 q2, q2⟩
theorem mod_i (h : Syn w0 W g1 g2 A n c xs i1 e1 i2 e2) (I : Inp w0 A n c xs) : Calls Try.prog 90 #[.pointer (some ⟨g2, 0, none⟩)] W fun e' w' => e' = .returned (.int .i64 (unzig (rU xs i2 e2).1)) ∧ Syn w0 w' g1 g2 A n c xs i1 e1 (rU xs i2 e2).2.1 (rU xs i2 e2).2.2 ∧ Fr (One g2) W w' := by
  refine (mInt_any W g2 A n c xs i2 e2 h.mod (h.rd I) I.len h.at2 I.cap I.max I.byt).mono ?_
  rintro e' w' ⟨rfl, q1, q2⟩
  exact ⟨rfl, h.mod1 q1 (I.len ▸ rU_le (I.len ▸ h.at2)) q2, q2⟩
theorem cod_s (h : Syn w0 W g1 g2 A n c xs i1 e1 i2 e2) (I : Inp w0 A n c xs) (m : Int) (hm : m ≤ 9223372036854775807) : Calls Try.prog 53 #[.pointer (some ⟨g1, 0, none⟩), .int .i64 m] W fun e' w' => e' = .returned (.int .i64 (rS xs i1 e1 m).1) ∧ Syn w0 w' g1 g2 A n c xs (rS xs i1 e1 m).2.1 (rS xs i1 e1 m).2.2 i2 e2 ∧ Fr (One g1) W w' := by
  refine (Size_any W w0.heap.size g1 i1 xs e1 m h.cod I.byt hm).mono ?_
  rintro e' w' ⟨rfl, q1, q2⟩
  exact ⟨rfl, h.cod1 q1 q2, q2⟩
theorem mod_s (h : Syn w0 W g1 g2 A n c xs i1 e1 i2 e2) (I : Inp w0 A n c xs) (m : Int) (hm : m ≤ 9223372036854775807) : Calls Try.prog 88 #[.pointer (some ⟨g2, 0, none⟩), .int .i64 m] W fun e' w' => e' = .returned (.int .i64 (rS xs i2 e2 m).1) ∧ Syn w0 w' g1 g2 A n c xs i1 e1 (rS xs i2 e2 m).2.1 (rS xs i2 e2 m).2.2 ∧ Fr (One g2) W w' := by
  refine (mSize_any W g2 A n c xs i2 e2 m hm h.mod (h.rd I) I.len h.at2 I.cap I.max I.byt).mono ?_
  rintro e' w' ⟨rfl, q1, q2⟩
  exact ⟨rfl, h.mod1 q1 (I.len ▸ rS_le (I.len ▸ h.at2)) q2, q2⟩
theorem cod_t (h : Syn w0 W g1 g2 A n c xs i1 e1 i2 e2) (I : Inp w0 A n c xs) (m : Int) (hm : m ≤ 9223372036854775807) : Calls Try.prog 34 #[.pointer (some ⟨g1, 0, none⟩), .int .i64 m] W fun e' w' => e' = .returned (.string (strOfNums (rT xs i1 e1 m).1)) ∧ Syn w0 w' g1 g2 A n c xs (rT xs i1 e1 m).2.1 (rT xs i1 e1 m).2.2 i2 e2 ∧ Fr (One g1) W w' := by
  refine (Text_any W w0.heap.size g1 i1 xs e1 m h.cod I.byt hm).mono ?_
  rintro e' w' ⟨rfl, q1, q2⟩
  exact ⟨rfl, h.cod1 q1 q2, q2⟩
theorem mod_t (h : Syn w0 W g1 g2 A n c xs i1 e1 i2 e2) (I : Inp w0 A n c xs) (m : Int) (hm : m ≤ 9223372036854775807) : Calls Try.prog 89 #[.pointer (some ⟨g2, 0, none⟩), .int .i64 m] W fun e' w' => e' = .returned (.string (strOfNums (rT xs i2 e2 m).1)) ∧ Syn w0 w' g1 g2 A n c xs i1 e1 (rT xs i2 e2 m).2.1 (rT xs i2 e2 m).2.2 ∧ Fr (One g2) W w' := by
  refine (mText_any W g2 A n c xs i2 e2 m hm h.mod (h.rd I) I.len h.at2 I.cap I.max I.byt (h.far I)).mono ?_
  rintro e' w' ⟨rfl, q1, q2⟩
  exact ⟨rfl, h.mod1 q1 (I.len ▸ rT_le (I.len ▸ h.at2)) q2, q2⟩
theorem cod_b (h : Syn w0 W g1 g2 A n c xs i1 e1 i2 e2) (I : Inp w0 A n c xs) (m : Int) (hm0 : -9223372036854775808 ≤ m) (hm : m ≤ 9223372036854775807) : Calls Try.prog 52 #[.pointer (some ⟨g1, 0, none⟩), .int .i64 m] W fun e' w' => ∃ v, e' = .returned v ∧ Win w' W.heap.size 5 1 v (rB xs i1 e1 m).1.length (nums .u8 (rB xs i1 e1 m).1) ∧ Syn w0 w' g1 g2 A n c xs (rB xs i1 e1 m).2.1 (rB xs i1 e1 m).2.2 i2 e2 ∧ Fr (One g1) W w' := by
  refine (Bytes_any W w0.heap.size g1 i1 xs e1 m h.cod (by have := I.len; have := I.max; omega) hm0 hm).mono ?_
  rintro e' w' ⟨v, rfl, q0, q1, q2⟩
  exact ⟨v, rfl, q0, h.cod1 q1 q2, q2⟩
theorem mod_b (h : Syn w0 W g1 g2 A n c xs i1 e1 i2 e2) (I : Inp w0 A n c xs) (m : Int) : Calls Try.prog 96 #[.pointer (some ⟨g2, 0, none⟩), .int .i64 m] W fun e' w' => ∃ v, e' = .returned v ∧ Win w' W.heap.size 5 1 v (rB xs i2 e2 m).1.length (nums .u8 (rB xs i2 e2 m).1) ∧ Syn w0 w' g1 g2 A n c xs i1 e1 (rB xs i2 e2 m).2.1 (rB xs i2 e2 m).2.2 ∧ Fr (One g2) W w' := by
  refine (mBytes_any W g2 A n c xs i2 e2 m h.mod (h.rd I) I.len h.at2 I.cap I.max).mono ?_
  rintro e' w' ⟨v, rfl, q0, q1, q2⟩
  exact ⟨v, rfl, q0, h.mod1 q1 (I.len ▸ rB_le (I.len ▸ h.at2)) q2, q2⟩
theorem cod_e (h : Syn w0 W g1 g2 A n c xs i1 e1 i2 e2) (I : Inp w0 A n c xs) : Calls Try.prog 35 #[.pointer (some ⟨g1, 0, none⟩)] W fun e' w' => e' = .returned (.int .i64 (rE xs i1 e1)) ∧ Syn w0 w' g1 g2 A n c xs i1 (rE xs i1 e1) i2 e2 ∧ Fr (One g1) W w' := by
  refine (End_any W w0.heap.size g1 i1 xs e1 h.cod).mono ?_
  rintro e' w' ⟨rfl, q1, q2⟩
  exact ⟨rfl, h.cod1 q1 q2, q2⟩
theorem mod_e (h : Syn w0 W g1 g2 A n c xs i1 e1 i2 e2) (I : Inp w0 A n c xs) : Calls Try.prog 91 #[.pointer (some ⟨g2, 0, none⟩)] W fun e' w' => e' = .returned (.int .i64 (rE xs i2 e2)) ∧ Syn w0 w' g1 g2 A n c xs i1 e1 i2 (rE xs i2 e2) ∧ Fr (One g2) W w' := by
  refine (mEnd_any W g2 A n c xs i2 e2 h.mod I.len h.at2 I.max).mono ?_
  rintro e' w' ⟨rfl, q1, q2⟩
  exact ⟨rfl, h.mod1 q1 h.at2 q2, q2⟩
end
end Go.Proofs.Ytchcimkmjoegdaa.C
