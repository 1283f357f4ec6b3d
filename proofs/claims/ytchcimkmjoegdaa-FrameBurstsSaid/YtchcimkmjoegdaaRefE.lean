/- The reference's reader of chapter 2: Bytes, Int, End, Left, Err. Conditions: the lengths' bounds. -/
import Derived.Test.YtchcimkmjoegdaaRefD
namespace Go.Proofs.Ytchcimkmjoegdaa.C
open Go.RowKit Go.Proofs.YtchcimkmjoegdaaW.PrintWords Go.Proofs.YtchcimkmjoegdaaW.PrintMore Go.Proofs.Ytchcimkmjoegdaa.M
set_option linter.unusedVariables false
set_option linter.unusedSimpArgs false
section
variable (w : World) (g : Nat) (A : Option Addr) (n c : Nat) (xs : List Int) (i : Nat) (e : Int)

set_option maxHeartbeats 400000 in
theorem mErr_any (h : w.heap[g]? = some (.cells #[.slice A n c, .int .i64 i, .int .i64 e] 67 (0, 0))) : Calls Try.prog 48 #[.pointer (some ⟨g, 0, none⟩)] w fun e' w' => e' = .returned (.int .i64 e) ∧ w' = w := by
  obtain ⟨c0, c1, c2, f1, f2⟩ := t3_cells h
  clear h
  go_enter Try.func48, Try.ntmps48
  go_wp2_with fail
  go_ret
  exact ⟨rfl, rfl⟩
set_option maxHeartbeats 400000 in
theorem mErr_nil : Calls Try.prog 48 #[.pointer none] w fun e' w' => e' = .returned (.int .i64 20) ∧ w' = w := by
  go_enter Try.func48, Try.ntmps48
  go_wp2_with fail
  go_ret
  exact ⟨rfl, rfl⟩
set_option maxHeartbeats 400000 in
theorem mLeft_any (h : w.heap[g]? = some (.cells #[.slice A n c, .int .i64 i, .int .i64 e] 67 (0, 0))) (hi : i ≤ n) (hn : n ≤ 140737488355328) : Calls Try.prog 47 #[.pointer (some ⟨g, 0, none⟩)] w fun e' w' => e' = .returned (.int .i64 ((n : Int) - i)) ∧ ∃ m, w' = w.drewN m := by
  obtain ⟨c0, c1, c2, f1, f2⟩ := t3_cells h
  clear h
  go_enter Try.func47, Try.ntmps47
  go_wp2_with fail
  go_quiet (fail)
  go_wp2_with fail
  go_ret
  exact ⟨rfl, _, rfl⟩
set_option maxHeartbeats 400000 in
theorem mLeft_nil : Calls Try.prog 47 #[.pointer none] w fun e' w' => e' = .returned (.int .i64 0) ∧ w' = w := by
  go_enter Try.func47, Try.ntmps47
  go_wp2_with fail
  go_ret
  exact ⟨rfl, rfl⟩
set_option maxHeartbeats 400000 in
theorem mBack_any (u : Nat) (hu : u < M64) : Calls Try.prog 114 #[.int .u64 u] w fun e' w' => e' = .returned (.int .i64 (unzig u)) ∧ w' = w := by
  rw [M64_eq] at hu
  by_cases h : u % 2 = 0
  · have h2 : ((u : Int) % 2 == 0) = true := by simp; omega
    go_enter Try.func114, Try.ntmps114
    go_wp2_with fail
    go_ret
    exact ⟨ret_int (by unfold unzig; rw [if_pos h]; omega), rfl⟩
  · have h2 : ((u : Int) % 2 == 0) = false := by simp; omega
    go_enter Try.func114, Try.ntmps114
    go_wp2_with fail
    go_ret
    exact ⟨ret_int (by unfold unzig; rw [if_neg h]; omega), rfl⟩
theorem mUint_any (h : w.heap[g]? = some (.cells #[.slice A n c, .int .i64 i, .int .i64 e] 67 (0, 0))) (hr : RdV w A (nums .u8 xs)) (hl : xs.length = n) (hi : i ≤ n) (hc : n ≤ c) (hn : n ≤ 140737488355328) (hb : Byt xs) :
    Calls Try.prog 95 #[.pointer (some ⟨g, 0, none⟩)] w fun e' w' => e' = .returned (.int .u64 (rU xs i e).1) ∧ w'.heap[g]? = some (.cells #[.slice A n c, .int .i64 ((rU xs i e).2.1 : Nat), .int .i64 (rU xs i e).2.2] 67 (0, 0)) ∧ Fr (One g) w w' := by
  by_cases he : e = 0
  · subst he
    rcases hq : num (xs.drop i) with _ | ⟨u, k⟩
    · have hr' : rU xs i 0 = (0, i, 20) := by simp [rU, hq]
      rw [hr']
      exact mUint_none w g A n c xs i h hr hl hi hc hn hb hq
    · have hr' : rU xs i 0 = (u, i + k, 0) := by simp [rU, hq]
      rw [hr']
      exact mUint_some w g A n c xs i h hr hl hi hc hn hb u k hq
  · have hr' : rU xs i e = (0, i, e) := by simp [rU, he]
    rw [hr']
    refine (mUint_err w g A n c i e h he).mono ?_
    rintro e' w' ⟨rfl, rfl⟩
    exact ⟨rfl, h, Fr.refl _ _⟩
theorem mSize_any (most : Int) (hm2 : most ≤ 9223372036854775807) (h : w.heap[g]? = some (.cells #[.slice A n c, .int .i64 i, .int .i64 e] 67 (0, 0))) (hr : RdV w A (nums .u8 xs)) (hl : xs.length = n) (hi : i ≤ n) (hc : n ≤ c) (hn : n ≤ 140737488355328) (hb : Byt xs) :
    Calls Try.prog 88 #[.pointer (some ⟨g, 0, none⟩), .int .i64 most] w fun e' w' => e' = .returned (.int .i64 (rS xs i e most).1) ∧ w'.heap[g]? = some (.cells #[.slice A n c, .int .i64 ((rS xs i e most).2.1 : Nat), .int .i64 (rS xs i e most).2.2] 67 (0, 0)) ∧ Fr (One g) w w' := by
  by_cases he : e = 0
  · subst he
    rcases hq : num (xs.drop i) with _ | ⟨u, k⟩
    · have hr' : rS xs i 0 most = (0, i, 20) := by simp [rS, hq]
      rw [hr']
      exact mSize_none w g A n c xs i h hr hl hi hc hn hb most hq
    · by_cases h0 : most < 0
      · have hr' : rS xs i 0 most = (0, i, 20) := by simp only [rS, if_pos, hq]; rw [if_neg (by omega)]
        rw [hr']
        exact mSize_neg w g A n c xs i h hr hl hi hc hn hb most u k h0 hq
      · by_cases h1 : most < u
        · have hr' : rS xs i 0 most = (0, i, 20) := by simp only [rS, if_pos, hq]; rw [if_neg (by omega)]
          rw [hr']
          exact mSize_big w g A n c xs i h hr hl hi hc hn hb most u k (by omega) hm2 h1 hq
        · have hr' : rS xs i 0 most = (u, i + k, 0) := by simp only [rS, if_pos, hq]; rw [if_pos (by omega)]
          rw [hr']
          exact mSize_ok w g A n c xs i h hr hl hi hc hn hb most u k (by omega) hm2 (by omega) hq
  · have hr' : rS xs i e most = (0, i, e) := by simp [rS, he]
    rw [hr']
    refine (mSize_err w g A n c i e h he most).mono ?_
    rintro e' w' ⟨rfl, rfl⟩
    exact ⟨rfl, h, Fr.refl _ _⟩
theorem mText_any (most : Int) (hm2 : most ≤ 9223372036854775807) (h : w.heap[g]? = some (.cells #[.slice A n c, .int .i64 i, .int .i64 e] 67 (0, 0))) (hr : RdV w A (nums .u8 xs)) (hl : xs.length = n) (hi : i ≤ n) (hc : n ≤ c) (hn : n ≤ 140737488355328) (hb : Byt xs) (hg : 0 < n → ∀ ad, A = some ad → ad.block ≠ g) :
    Calls Try.prog 89 #[.pointer (some ⟨g, 0, none⟩), .int .i64 most] w fun e' w' => e' = .returned (.string (strOfNums (rT xs i e most).1)) ∧ w'.heap[g]? = some (.cells #[.slice A n c, .int .i64 ((rT xs i e most).2.1 : Nat), .int .i64 (rT xs i e most).2.2] 67 (0, 0)) ∧ Fr (One g) w w' := by
  by_cases he : e = 0
  · subst he
    rcases hq : num (xs.drop i) with _ | ⟨u, k⟩
    · have hr' : rT xs i 0 most = ([], i, 20) := by simp [rT, hq]
      rw [hr']
      exact mText_none w g A n c xs i h hr hl hi hc hn hb most hq
    · by_cases h0 : most < 0
      · have hr' : rT xs i 0 most = ([], i, 20) := by simp only [rT, if_pos, hq]; rw [if_neg (by omega)]
        rw [hr']
        exact mText_neg w g A n c xs i h hr hl hi hc hn hb most u k h0 hq
      · by_cases h1 : most < u
        · have hr' : rT xs i 0 most = ([], i, 20) := by simp only [rT, if_pos, hq]; rw [if_neg (by omega)]
          rw [hr']
          exact mText_big w g A n c xs i h hr hl hi hc hn hb most u k (by omega) hm2 h1 hq
        · by_cases h2 : n < i + k + u
          · have hr' : rT xs i 0 most = ([], i, 20) := by simp only [rT, if_pos, hq]; rw [if_neg (by omega)]
            rw [hr']
            exact mText_long w g A n c xs i h hr hl hi hc hn hb most u k (by omega) hm2 (by omega) h2 hq
          · have hr' : rT xs i 0 most = ((xs.drop (i + k)).take u, i + k + u, 0) := by simp only [rT, if_pos, hq]; rw [if_pos (by omega)]
            rw [hr']
            exact mText_ok w g A n c xs i h hr hl hi hc hn hb most u k (by omega) hm2 (by omega) (by omega) (hg (by have := numK_le 10 _ u k hq; simp at this; omega)) hq
  · have hr' : rT xs i e most = ([], i, e) := by simp [rT, he]
    rw [hr']
    refine (mText_err w g A n c i e h he most).mono ?_
    rintro e' w' ⟨rfl, rfl⟩
    exact ⟨rfl, h, Fr.refl _ _⟩
set_option maxHeartbeats 400000 in
theorem mInt_any (h : w.heap[g]? = some (.cells #[.slice A n c, .int .i64 i, .int .i64 e] 67 (0, 0))) (hr : RdV w A (nums .u8 xs)) (hl : xs.length = n) (hi : i ≤ n) (hc : n ≤ c) (hn : n ≤ 140737488355328) (hb : Byt xs) :
    Calls Try.prog 90 #[.pointer (some ⟨g, 0, none⟩)] w fun e' w' => e' = .returned (.int .i64 (unzig (rU xs i e).1)) ∧ w'.heap[g]? = some (.cells #[.slice A n c, .int .i64 ((rU xs i e).2.1 : Nat), .int .i64 (rU xs i e).2.2] 67 (0, 0)) ∧ Fr (One g) w w' := by
  have H := Aside0.mk (mUint_any w g A n c xs i e h hr hl hi hc hn hb)
  have HU := Aside0.mk (rU_64 xs i e)
  clear h hr hl hi hc hn hb
  generalize (rU xs i e).1 = u at H HU ⊢
  go_enter Try.func90, Try.ntmps90
  go_wp2_with (first | (go_at_call 95; go_must (refine H.out.mono ?_; rintro e' w1 ⟨rfl, hq⟩; have Q := Aside0.mk hq; clear hq)) | (go_at_call 114; go_must (refine (mBack_any w1 u HU.out).mono ?_; rintro e' w2 ⟨rfl, rfl⟩)))
  go_ret
  exact ⟨rfl, Q.out⟩
set_option maxHeartbeats 400000 in
theorem mInt_nil : Calls Try.prog 90 #[.pointer none] w fun e' w' => e' = .returned (.int .i64 0) ∧ w' = w := by
  go_enter Try.func90, Try.ntmps90
  go_wp2_with (first | (go_at_call 95; go_must (refine (mUint_nil _).mono ?_; rintro e' w1 ⟨rfl, rfl⟩)) | (go_at_call 114; go_must (refine (mBack_any _ 0 (by decide)).mono ?_; rintro e' w2 ⟨rfl, rfl⟩)))
  go_ret
  exact ⟨rfl, rfl⟩
end
end Go.Proofs.Ytchcimkmjoegdaa.C
