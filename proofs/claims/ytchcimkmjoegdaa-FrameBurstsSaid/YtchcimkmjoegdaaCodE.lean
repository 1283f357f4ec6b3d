/- The codec's reader: Text, Bytes, End. Conditions: as each theorem states. -/
import Derived.Test.YtchcimkmjoegdaaCodD
namespace Go.Proofs.Ytchcimkmjoegdaa.C
open Go.RowKit Go.Proofs.YtchcimkmjoegdaaW.PrintWords Go.Proofs.YtchcimkmjoegdaaW.PrintMore Go.Proofs.Ytchcimkmjoegdaa.M
set_option linter.unusedVariables false
set_option linter.unusedSimpArgs false

/-- 'xs[l:h]' of what is read (elements of one cell). -/
theorem cutlh_rd {P : Program} (t e : TypeId) (kl kh : IntKind) {i : TypeInfo} (ht : P.underlying t = some (.slice e)) (hi : P.info? e = some i) (hsz : i.size = 1) (A : Option Addr) (n c l h : Nat) (hl : l ≤ h) (hh : h ≤ n) (hc : n ≤ c) :
    ∃ A' : Option Addr, (∀ W : World, (Instr.slice t (.slice A n c) (some (.int kl (l : Int))) (some (.int kh (h : Int))) none).run P W = .ok (.slice A' (h - l) (c - l)) W) ∧
      (∀ (w : World) (xs : List Value), xs.length = n → RdV w A xs → RdV w A' ((xs.drop l).take (h - l))) ∧ (A' = none → A = none) := by
  refine ⟨if c = l then A else A.map (·.add l), fun W => ?_, fun w xs hn hr hne => ?_, fun h => ?_⟩
  · have hel : P.elem t = e := by simp [Program.elem, ht]
    have hu : P.underlying t = some (.slice (P.elem t)) := by rw [hel]; exact ht
    rw [run_slice_lh W t A n c hu kl kh (l : Int) (h : Int) (Int.natCast_nonneg _) (by omega) (by omega), hel]
    simp [sizeOf, typeInfo, hi, hsz, sliced, Result.andThen]
  · have hlen : l < xs.length := by
      rcases Nat.lt_or_ge l xs.length with h1 | h1
      · exact h1
      · exact absurd (by rw [List.drop_eq_nil_of_le h1]; simp) hne
    obtain ⟨ad, rfl, hcell⟩ := hr (by intro h0; subst h0; simp at hlen)
    rw [if_neg (by omega)]
    refine ⟨ad.add l, rfl, fun j u hj => ?_⟩
    have ha : (ad.add l).add j = ad.add (l + j) := by
      unfold Addr.add
      by_cases h1 : l = 0 <;> by_cases h2 : j = 0 <;> simp [h1, h2, Nat.add_assoc]
    rw [ha]
    rw [List.getElem?_take] at hj
    split at hj
    · rw [List.getElem?_drop] at hj
      exact hcell _ _ hj
    · cases hj
  · split at h
    · exact h
    · cases A with
      | none => rfl
      | some a => cases h
/-- 'string(xs)' of bytes that are read. -/
theorem conv_rd {P : Program} (w : World) (src dst e : TypeId) (hs : P.underlying src = some (.slice e)) (he : P.underlying e = some (.int .u8)) (hd : P.underlying dst = some .string) (A : Option Addr) (n c : Nat) (xs : List Int) (hl : xs.length = n) (h : RdV w A (nums .u8 xs)) :
    (convert src dst (.slice A n c)).run P w = .ok (.string (strOfNums xs)) w := by
  cases A with
  | none =>
    have : xs = [] := by
      cases xs with
      | nil => rfl
      | cons x r =>
        obtain ⟨ad, h1, _⟩ := h (by simp [nums])
        cases h1
    subst this
    exact run_convert_bytes_nil w src e hs he n c dst hd
  | some ad =>
    have hlo : (loadCells ad n).run P w = .ok (xs.map (Value.int .u8)).toArray w := by
      have h2 := run_loadCells_list (P := P) w ad (nums .u8 xs) (fun j v hj => by
        obtain ⟨ad', h1, h2⟩ := h (by intro h0; rw [h0] at hj; simp at hj)
        injection h1 with h1
        subst h1
        exact h2 j v hj)
      rw [nums_length, hl] at h2
      exact h2
    rw [run_convert_bytes_string w src dst e _ n c hs he hd, run_bytesToString w _ n c xs hlo, foldl_push_bytes]
    simp [strOfNums, ByteArray.empty, ByteArray.emptyWithCapacity]
    rfl
set_option maxHeartbeats 400000 in
/-- Text's inner function where there is no number. -/
theorem text_none (w : World) (A : Option Addr) (n c : Nat) (b : List Int) (p q : Addr) (r : Value) (most : Int) (hr : RdV w A (nums .u8 b)) (hl : b.length = n) (hc : n ≤ c) (hn : n ≤ 9223372036854775807) (hb : Byt b)
    (hp : w.cell? p = some r) (hq : w.cell? q = some (.int .i64 most)) (hnum : num b = none) :
    Calls Try.prog 81 #[.slice A n c, .pointer (some p), .pointer (some q)] w fun e w' => e = .returned (.tuple #[.string ByteArray.empty, .int .i64 (-1)]) ∧ w' = w := by
  have H := fun p => number_any w p A n c b hr hl hc hn hb
  rw [hnum] at H
  simp only [numV] at H
  have HN := Aside0.mk H
  clear H hr hl hb hnum
  go_enter Try.func81, Try.ntmps81
  go_wp2_with (go_at_call 74; go_must (refine (HN.out _).mono ?_; rintro e' w1 ⟨rfl, rfl⟩))
  go_ret2
  exact ⟨rfl, rfl⟩
set_option maxHeartbeats 400000 in
theorem text_big (w : World) (A : Option Addr) (n c : Nat) (b : List Int) (p q : Addr) (r : Value) (most : Int) (u k : Nat) (hr : RdV w A (nums .u8 b)) (hl : b.length = n) (hc : n ≤ c) (hn : n ≤ 9223372036854775807) (hb : Byt b)
    (hp : w.cell? p = some r) (hq : w.cell? q = some (.int .i64 most)) (hm : most ≤ 9223372036854775807) (hnum : num b = some (u, k)) (hk : k ≤ n) (hbig : most < u ∨ n - k < u) :
    Calls Try.prog 81 #[.slice A n c, .pointer (some p), .pointer (some q)] w fun e w' => e = .returned (.tuple #[.string ByteArray.empty, .int .i64 (-1)]) ∧ w' = w := by
  have H := fun p => number_any w p A n c b hr hl hc hn hb
  rw [hnum] at H
  simp only [numV] at H
  have HN := Aside0.mk H
  clear H hr hl hb hnum
  have hcase : most < 0 ∨ (0 ≤ most ∧ most < (u : Int)) ∨ (0 ≤ most ∧ (u : Int) ≤ most ∧ (n : Int) - k < u) := by omega
  clear hbig
  rcases hcase with h0 | ⟨h0, h1⟩ | ⟨h0, h1, h2⟩
  all_goals
    go_enter Try.func81, Try.ntmps81
    go_wp2_with (go_at_call 74; go_must (refine (HN.out _).mono ?_; rintro e' w1 ⟨rfl, rfl⟩))
    go_ret2
    exact ⟨rfl, rfl⟩
set_option maxRecDepth 100000 in
set_option maxHeartbeats 400000 in
theorem text_ok (w : World) (A : Option Addr) (n c : Nat) (b : List Int) (p q : Addr) (r : Value) (most : Int) (u k : Nat) (hr : RdV w A (nums .u8 b)) (hl : b.length = n) (hc : n ≤ c) (hn : n ≤ 9223372036854775807) (hb : Byt b)
    (hp : w.cell? p = some r) (hq : w.cell? q = some (.int .i64 most)) (hm : most ≤ 9223372036854775807) (hnum : num b = some (u, k)) (hk : k ≤ n) (hle : (u : Int) ≤ most) (hle2 : k + u ≤ n) :
    Calls Try.prog 81 #[.slice A n c, .pointer (some p), .pointer (some q)] w fun e w' => e = .returned (.tuple #[.string (strOfNums ((b.drop k).take u)), .int .i64 ((k + u : Nat) : Int)]) ∧ w' = w := by
  have H := fun p => number_any w p A n c b hr hl hc hn hb
  rw [hnum] at H
  simp only [numV] at H
  obtain ⟨i0, hi, _, hsz, _⟩ := info_parts info5
  obtain ⟨A', hcut, hrd, _⟩ := cutlh_rd (P := Try.prog) 22 5 .i64 .i64 Try.underlying22 hi hsz A n c k (k + u) (by omega) hle2 hc
  have hconv := conv_rd (P := Try.prog) w 22 9 5 Try.underlying22 Try.underlying5 Try.underlying9 A' u (c - k) ((b.drop k).take u) (by simp; omega) (by
    have := hrd w (nums .u8 b) (by simp [nums, hl]) hr
    rw [nums_drop, nums_take, Nat.add_sub_cancel_left] at this
    exact this)
  rw [Nat.add_sub_cancel_left] at hcut
  simp only [Int.natCast_add] at hcut
  have HN := Aside0.mk H
  have h2 : (u : Int) ≤ (n : Int) - k := by omega
  clear H hr hl hb hnum hrd hi hsz
  go_enter Try.func81, Try.ntmps81
  go_wp2_with (go_at_call 74; go_must (refine (HN.out _).mono ?_; rintro e' w1 ⟨rfl, rfl⟩))
  go_ret2
  exact ⟨by rw [Int.natCast_add]; rfl, rfl⟩
/-- What Text answers (its bytes), and where the reader stands behind it. -/
def rT (xs : List Int) (i : Nat) (e : Int) (most : Int) : List Int × Nat × Int :=
  if e = 0 then (match num (xs.drop i) with | none => ([], i, 20) | some (u, k) => if (u : Int) ≤ most ∧ i + k + u ≤ xs.length then ((xs.drop (i + k)).take u, i + k + u, 0) else ([], i, 20)) else ([], i, e)
theorem strOfNums_nil : strOfNums [] = ByteArray.empty := rfl
set_option maxHeartbeats 400000 in
theorem Text_any (w : World) (base g i : Nat) (xs : List Int) (e most : Int) (h : Rdr w base g xs i e) (hb : Byt xs) (hm : most ≤ 9223372036854775807) :
    Calls Try.prog 34 #[.pointer (some ⟨g, 0, none⟩), .int .i64 most] w fun e' w' => e' = .returned (.string (strOfNums (rT xs i e most).1)) ∧ Rdr w' base g xs (rT xs i e most).2.1 (rT xs i e most).2.2 ∧ Fr (One g) w w' := by
  obtain ⟨bx, by'⟩ := boxes w (.pointer (some ⟨g, 0, none⟩)) (.int .i64 most) 23 3
  have hW := h.below (below_alloc (below_alloc (Below.refl _ _) (.cells #[.pointer (some ⟨g, 0, none⟩)] 23)) (.cells #[.int .i64 most] 3))
  have hx : xs.length ≤ 9223372036854775807 := by obtain ⟨_, _, v, _, h4⟩ := h; exact h4.max
  have BX := Aside0.mk bx
  have BY := Aside0.mk by'
  by_cases he : e = 0
  · subst he
    rcases hq : num (xs.drop i) with _ | ⟨u, k⟩
    · have T := Aside0.mk (take_t_bad _ base g i xs ⟨w.heap.size, 0, none⟩ ⟨w.heap.size + 1, 0, none⟩ (.string ByteArray.empty) hW (fun A' c' m hrd hc => text_none _ A' (xs.length - i) c' (xs.drop i) _ _ _ most (hrd.below (pw_below_drewN (Below.refl _ _) m)) (by simp) hc (by omega) (fun x hx => hb x (List.mem_of_mem_drop hx)) ((cell_drewN _ _ m).trans BX.out) ((cell_drewN _ _ m).trans BY.out) hq))
      have hr : rT xs i 0 most = ([], i, 20) := by simp [rT, hq]
      rw [hr]
      clear hr hq hb hW h bx by'
      go_enter Try.func34, Try.ntmps34
      go_wp2_with (go_at_call 80; go_must (refine T.out.mono ?_; rintro e' w1 ⟨rfl, q1, q2⟩; have Q1 := Aside0.mk q1; have Q2 := Aside0.mk q2; clear q1 q2))
      go_ret
      exact ⟨rfl, Q1.out, below_two Q2.out⟩
    · obtain ⟨hk1, hk2, hk3, hk4⟩ := numK_le 10 _ u k hq
      rw [List.length_drop] at hk1
      have hi : i ≤ xs.length := h.2.1
      clear hk4
      by_cases hle : (u : Int) ≤ most ∧ i + k + u ≤ xs.length
      · have T := Aside0.mk (take_t_ok _ base g i xs ⟨w.heap.size, 0, none⟩ ⟨w.heap.size + 1, 0, none⟩ (.string (strOfNums (((xs.drop i).drop k).take u))) (k + u) hW (fun A' c' m hrd hc => text_ok _ A' (xs.length - i) c' (xs.drop i) _ _ _ most u k (hrd.below (pw_below_drewN (Below.refl _ _) m)) (by simp) hc (by omega) (fun x hx => hb x (List.mem_of_mem_drop hx)) ((cell_drewN _ _ m).trans BX.out) ((cell_drewN _ _ m).trans BY.out) hm hq (by omega) hle.1 (by omega)) (by omega))
        rw [List.drop_drop] at T
        have hr : rT xs i 0 most = ((xs.drop (i + k)).take u, i + (k + u), 0) := by simp [rT, hq, hle]; omega
        rw [hr]
        clear hr hq hb hW h bx by'
        go_enter Try.func34, Try.ntmps34
        go_wp2_with (go_at_call 80; go_must (refine T.out.mono ?_; rintro e' w1 ⟨rfl, q1, q2⟩; have Q1 := Aside0.mk q1; have Q2 := Aside0.mk q2; clear q1 q2))
        go_ret
        exact ⟨rfl, Q1.out, below_two Q2.out⟩
      · have T := Aside0.mk (take_t_bad _ base g i xs ⟨w.heap.size, 0, none⟩ ⟨w.heap.size + 1, 0, none⟩ (.string ByteArray.empty) hW (fun A' c' m hrd hc => text_big _ A' (xs.length - i) c' (xs.drop i) _ _ _ most u k (hrd.below (pw_below_drewN (Below.refl _ _) m)) (by simp) hc (by omega) (fun x hx => hb x (List.mem_of_mem_drop hx)) ((cell_drewN _ _ m).trans BX.out) ((cell_drewN _ _ m).trans BY.out) hm hq (by omega) (by omega)))
        have hr : rT xs i 0 most = ([], i, 20) := by simp [rT, hq, hle]
        rw [hr]
        clear hr hq hb hW h bx by'
        go_enter Try.func34, Try.ntmps34
        go_wp2_with (go_at_call 80; go_must (refine T.out.mono ?_; rintro e' w1 ⟨rfl, q1, q2⟩; have Q1 := Aside0.mk q1; have Q2 := Aside0.mk q2; clear q1 q2))
        go_ret
        exact ⟨rfl, Q1.out, below_two Q2.out⟩
  · have T := Aside0.mk (fun f => take_t_err _ base g i xs e he f hW)
    have hr : rT xs i e most = ([], i, e) := by simp [rT, he]
    rw [hr]
    have HW := Aside0.mk hW
    clear hr hb hW h bx by'
    go_enter Try.func34, Try.ntmps34
    go_wp2_with (go_at_call 80; go_must (refine (T.out _).mono ?_; rintro e' w1 ⟨rfl, rfl⟩))
    go_ret
    exact ⟨rfl, HW.out, below_two (Fr.refl _ _)⟩
set_option maxHeartbeats 400000 in
theorem Text_nil (w : World) (most : Int) : Calls Try.prog 34 #[.pointer none, .int .i64 most] w fun e' w' => e' = .returned (.string ByteArray.empty) ∧ Fr No w w' := by
  obtain ⟨bx, by'⟩ := boxes w (.pointer none) (.int .i64 most) 23 3
  go_enter Try.func34, Try.ntmps34
  go_wp2_with (go_at_call 80; go_must (refine (take_t_nil _ _).mono ?_; rintro e' w1 ⟨rfl, rfl⟩))
  go_ret
  exact ⟨rfl, below_two (Fr.refl _ _)⟩
end Go.Proofs.Ytchcimkmjoegdaa.C
