/- The codec's reader: Bytes, End. Conditions: as each theorem states. | Plain laws on numbers' forms: what is read is what would be put, and back. No program here. Conditions: as each theorem states. | The reference of chapter 2: Uint, Turned, Text: what each call hands back. Conditions: the bounds that each theorem states. | Plain laws on numbers and texts laid one behind another, read whole and read cut short. No program here. Conditions: as each theorem states. | Two readers, one of a list cut short and one of the whole: each step of both. Conditions: as each theorem states. | CodecBack's steps that put: one number or text more. Conditions: as each theorem states. | frame.Seal (56). Conditions: as the theorem states. | The reference's Seal (57). Conditions: as the theorem states. | More of the memory words: what an append leaves, told to the place; a store into a window. Conditions: none beyond the hypotheses stated. | Append at a step of a region that draws its order. Conditions: as Mem's law. | What opening a file answers, in plain Lean; frame.Open (60) where the file is refused ahead of reading. Conditions: as each theorem states. (Several texts of mine laid into one by prune.py.) -/
import Derived.Test.YtchcimkmjoegdaaStB2
namespace Go.Proofs.Ytchcimkmjoegdaa.C
open Go.RowKit Go.Proofs.YtchcimkmjoegdaaW.PrintWords Go.Proofs.YtchcimkmjoegdaaW.PrintMore Go.Proofs.Ytchcimkmjoegdaa.M
set_option linter.unusedVariables false
set_option linter.unusedSimpArgs false

set_option maxHeartbeats 400000 in
theorem bytes_bad (w : World) (A : Option Addr) (n c : Nat) (q : Addr) (m : Int) (hn : n ≤ 9223372036854775807) (hq : w.cell? q = some (.int .i64 m)) (hm : m < 0 ∨ (n : Int) < m) :
    Calls Try.prog 98 #[.slice A n c, .pointer (some q)] w fun e w' => e = .returned (.tuple #[.slice none 0 0, .int .i64 (-1)]) ∧ w' = w := by
  have hcase : m < 0 ∨ (0 ≤ m ∧ (n : Int) < m) := by omega
  clear hm
  rcases hcase with h0 | ⟨h0, h1⟩
  all_goals
    go_enter Try.func98, Try.ntmps98
    go_wp2_with fail
    go_ret2
    exact ⟨rfl, rfl⟩
set_option maxHeartbeats 1000000 in
theorem bytes_ok (w : World) (A : Option Addr) (n c : Nat) (b : List Int) (q : Addr) (m : Nat) (hr : RdV w A (nums .u8 b)) (hl : b.length = n) (h0 : A = none → c = 0) (hc : n ≤ c) (hn : n ≤ 140737488355328) (hq : w.cell? q = some (.int .i64 m)) (hm : m ≤ n) :
    Calls Try.prog 98 #[.slice A n c, .pointer (some q)] w fun e w' => ∃ v, e = .returned (.tuple #[v, .int .i64 m]) ∧ Win w' w.heap.size 5 1 v m (nums .u8 (b.take m)) ∧ Fr No w w' := by
  obtain ⟨i0, hi, _, hsz, _⟩ := info_parts info5
  have hcut := cuth (P := Try.prog) 22 5 .i64 Try.underlying22 hi A n c m (by omega)
  have CL := Aside0.mk (fun W (h : RdV W A (nums .u8 (b.take m))) => clone_any W A m c (nums .u8 (b.take m)) h (by simp [nums]; omega) h0 (by omega) (nums_one _ _) (by omega))
  have HR := Aside0.mk (nums_take .u8 b m ▸ RdV.take hr m : RdV w A (nums .u8 (b.take m)))
  have hm' : (m : Int) ≤ n := by omega
  have hn' : (n : Int) ≤ 9223372036854775807 := by omega
  clear hr hl h0 hi hsz
  go_enter Try.func98, Try.ntmps98
  go_wp2_with fail
  go_region_held3 (fun w' => w'.cell? q = some (.int .i64 m) ∧ Aside0 (RdV w' A (nums .u8 (b.take m))) ∧ Aside0 (Fr No w w')) ((first | exact ⟨by simpa using hq, ⟨HR.out.drew⟩, ⟨Fr.of_below (below_drew (Below.refl _ _)) No⟩⟩ | exact ⟨by assumption, by assumption, by assumption⟩)) (first | (go_at_call 72; refine (CL.out w.drew HR.out.drew).mono ?_; rintro e w1 ⟨v, rfl, hw, hf⟩; have hcq := pw_cell_below hf.no (show w.drew.cell? q = some (.int .i64 m) by simpa using hq); have HRD1 := Aside0.mk (HR.out.drew.below hf.no); have HFR1 := Aside0.mk ((Fr.of_below (below_drew (Below.refl _ _)) No).trans hf (fun _ _ h => h) (fun _ _ h => h)); have HW := Aside0.mk hw; clear hw hf; obtain ⟨A1, c1, e1, l1⟩ := HW.out.shape; subst e1) | (go_at_call 79; refine (clip_any _ A1 m c1 l1 (by omega)).mono ?_; rintro e w2 ⟨rfl, rfl⟩))
  go_wp2_with fail
  go_ret2
  exact ⟨_, rfl, by simpa using HW.out.clip, HFR1.out⟩
set_option maxHeartbeats 1000000 in
theorem take_b_bad (w : World) (base g i : Nat) (xs : List Int) (q : Addr) (h : Rdr w base g xs i 0)
    (hcl : ∀ (A' : Option Addr) (c' m : Nat), RdV w A' (nums .u8 (xs.drop i)) → xs.length - i ≤ c' → Calls Try.prog 98 #[.slice A' (xs.length - i) c', .pointer (some q)] (w.drewN m) fun e w' => e = .returned (.tuple #[.slice none 0 0, .int .i64 (-1)]) ∧ w' = w.drewN m) :
    Calls Try.prog 97 #[.pointer (some ⟨g, 0, none⟩), .func (.func 98) #[] #[.pointer (some q)]] w fun e' w' => e' = .returned (.slice none 0 0) ∧ Rdr w' base g xs i 20 ∧ Fr (One g) w w' := by
  have H := Aside0.mk h
  obtain ⟨h1, h2, v, h3, h4⟩ := h
  obtain ⟨c0, c1, c2, f1, f2⟩ := Rdr.cells h3
  obtain ⟨A, c, rfl, hc⟩ := h4.shape
  have hm := h4.max
  obtain ⟨i0, hi, _, hsz, _⟩ := info_parts info5
  obtain ⟨A', hcut, hrd, _⟩ := cut_rd (P := Try.prog) 22 5 .i64 Try.underlying22 hi hsz A xs.length c i h2
  have HRD := Aside0.mk (nums_drop .u8 xs i ▸ hrd w (nums .u8 xs) hc (by simp [nums]) (RdV.of_win h4))
  have HN := Aside0.mk (fun m => hcl A' (c - i) m HRD.out (by omega))
  clear h4 h3 hrd hi hsz hcl
  go_enter Try.func97, Try.ntmps97
  go_wp2_with fail
  go_quiet ((go_at_call 98; go_must (exact Calls.quiet_of_same (HN.out _))))
  go_wp2_with fail
  go_ret
  have g := (H.out.drewN nq).set2 (e' := 20)
  exact ⟨rfl, g.1, (Fr.drewN w nq).trans g.2 (fun _ _ h => h) (fun _ _ h => h)⟩
set_option maxRecDepth 100000 in
set_option maxHeartbeats 1000000 in
theorem take_b_ok (w : World) (base g i : Nat) (xs : List Int) (q : Addr) (m : Nat) (h : Rdr w base g xs i 0) (hq : w.cell? q = some (.int .i64 m)) (hm : i + m ≤ xs.length) (hn : xs.length ≤ 140737488355328) :
    Calls Try.prog 97 #[.pointer (some ⟨g, 0, none⟩), .func (.func 98) #[] #[.pointer (some q)]] w fun e' w' => ∃ v, e' = .returned v ∧ Win w' w.heap.size 5 1 v m (nums .u8 ((xs.drop i).take m)) ∧ Rdr w' base g xs (i + m) 0 ∧ Fr (One g) w w' := by
  have H := Aside0.mk h
  obtain ⟨h1, h2, v, h3, h4⟩ := h
  obtain ⟨c0, c1, c2, f1, f2⟩ := Rdr.cells h3
  obtain ⟨A, c, rfl, hc⟩ := h4.shape
  have hx := h4.max
  obtain ⟨i0, hi, _, hsz, _⟩ := info_parts info5
  obtain ⟨A', hcut, hrd, hnone⟩ := cut_rd (P := Try.prog) 22 5 .i64 Try.underlying22 hi hsz A xs.length c i h2
  have HRD := Aside0.mk (nums_drop .u8 xs i ▸ hrd w (nums .u8 xs) hc (by simp [nums]) (RdV.of_win h4) : RdV w A' (nums .u8 (xs.drop i)))
  have hc0 : A' = none → c - i = 0 := fun he => by
    obtain rfl := hnone he
    have := h4.nil_cap
    omega
  have HB := Aside0.mk (bytes_ok w.drew A' (xs.length - i) (c - i) (xs.drop i) q m HRD.out.drew (by simp) hc0 (by omega) (by omega) (by simpa using hq) (by omega))
  clear h4 h3 hrd hi hsz hc0 hnone
  go_enter Try.func97, Try.ntmps97
  go_wp2_with fail
  go_region_held3 (fun w' => w'.cell? ⟨g, 0, none⟩ = some (.slice A xs.length c) ∧ w'.cell? ⟨g, 1, none⟩ = some (.int .i64 (i : Int))) ((first | exact ⟨by simpa using c0, by simpa using c1⟩ | exact ⟨by assumption, by assumption⟩)) (first | (go_at_call 98; refine HB.out.mono ?_; rintro e w1 ⟨v, rfl, hw, hf⟩; have hc0 := pw_cell_below hf.no (show w.drew.cell? ⟨g, 0, none⟩ = some (.slice A xs.length c) by simpa using c0); have hc1 := pw_cell_below hf.no (show w.drew.cell? ⟨g, 1, none⟩ = some (.int .i64 (i : Int)) by simpa using c1); have HW := Aside0.mk hw; have HF := Aside0.mk hf; clear hw hf))
  have HF0 := Aside0.mk (show Fr No w w1 from (Fr.of_below (below_drew (Below.refl _ _)) No).trans HF.out (fun _ _ h => h) (fun _ _ h => h))
  have H1 := Aside0.mk (H.out.below HF0.out.no)
  have f1' : w1.frozen? ⟨g, 1, none⟩ = false := by
    obtain ⟨_, _, v', h3', _⟩ := H1.out
    exact (Rdr.cells h3').2.2.2.1
  clear c0 c1 c2 f1 f2 hcut hq
  go_wp2_with fail
  go_ret
  have g1 := H1.out.set1 hm
  simp only [Int.natCast_add] at g1
  refine ⟨v, rfl, ?_, g1.1, ?_⟩
  · have hWb := HW.out
    have hs : w.drew.heap.size = w.heap.size := rfl
    rw [hs] at hWb
    exact hWb.fr g1.2 (fun k hk hs => by
      have hs' : k = g := hs
      subst hs'
      exact hWb.young hk H.out.lt)
  · exact HF0.out.trans g1.2 (fun _ _ h => h.elim) (fun _ _ h => h)
/-- What Bytes answers, and where the reader stands behind it. -/
def rB (xs : List Int) (i : Nat) (e : Int) (m : Int) : List Int × Nat × Int :=
  if e = 0 then (if 0 ≤ m ∧ (i : Int) + m ≤ xs.length then ((xs.drop i).take m.toNat, i + m.toNat, 0) else ([], i, 20)) else ([], i, e)
set_option maxHeartbeats 400000 in
theorem take_b_err (w : World) (base g i : Nat) (xs : List Int) (e : Int) (he : e ≠ 0) (f : Value) (h : Rdr w base g xs i e) :
    Calls Try.prog 97 #[.pointer (some ⟨g, 0, none⟩), f] w fun e' w' => e' = .returned (.slice none 0 0) ∧ w' = w := by
  obtain ⟨h1, h2, v, h3, h4⟩ := h
  obtain ⟨c0, c1, c2, f1, f2⟩ := Rdr.cells h3
  have heb : (e != 0) = true := by simp [he]
  clear h4 h3
  go_enter Try.func97, Try.ntmps97
  go_wp2_with fail
  go_ret
  exact ⟨rfl, rfl⟩
set_option maxHeartbeats 400000 in
theorem take_b_nil (w : World) (f : Value) : Calls Try.prog 97 #[.pointer none, f] w fun e' w' => e' = .returned (.slice none 0 0) ∧ w' = w := by
  go_enter Try.func97, Try.ntmps97
  go_wp2_with fail
  go_ret
  exact ⟨rfl, rfl⟩
theorem box (w : World) (a : Value) (t : TypeId) : (w.alloc (.cells #[a] t)).cell? ⟨w.heap.size, 0, none⟩ = some a := by
  have h := heap_alloc_new w (.cells #[a] t)
  unfold World.cell?
  rw [h]
  rfl
theorem below_one {w w' : World} {S : Nat → Prop} {o : Obj} (h : Fr S (w.alloc o) w') : Fr S w w' := (Fr.alloc (S := No) w o).trans h (fun _ _ h => h.elim) (fun _ _ h => h)
/-- The value that Bytes hands back is a window of its own, or nil. -/
theorem Win.up {w : World} {b b' size n : Nat} {e : TypeId} {v : Value} {xs : List Value} (h : Win w b e size v n xs) (hb : b' ≤ b) : Win w b' e size v n xs := h.lower hb
set_option maxHeartbeats 400000 in
theorem Bytes_any (w : World) (base g i : Nat) (xs : List Int) (e m : Int) (h : Rdr w base g xs i e) (hx : xs.length ≤ 140737488355328) (hm0 : -9223372036854775808 ≤ m) (hm : m ≤ 9223372036854775807) :
    Calls Try.prog 52 #[.pointer (some ⟨g, 0, none⟩), .int .i64 m] w fun e' w' => ∃ v, e' = .returned v ∧ Win w' w.heap.size 5 1 v (rB xs i e m).1.length (nums .u8 (rB xs i e m).1) ∧ Rdr w' base g xs (rB xs i e m).2.1 (rB xs i e m).2.2 ∧ Fr (One g) w w' := by
  have bx := box w (.int .i64 m) 3
  have hW := h.below (below_alloc (Below.refl _ _) (.cells #[.int .i64 m] 3))
  have BX := Aside0.mk bx
  have hi := h.2.1
  by_cases he : e = 0
  · subst he
    by_cases hle : 0 ≤ m ∧ (i : Int) + m ≤ xs.length
    · obtain ⟨k, rfl⟩ := Int.eq_ofNat_of_zero_le hle.1
      have T := Aside0.mk (take_b_ok _ base g i xs ⟨w.heap.size, 0, none⟩ k hW BX.out (by omega) hx)
      have hr : rB xs i 0 (k : Int) = ((xs.drop i).take k, i + k, 0) := by unfold rB; rw [if_pos rfl, if_pos hle]; simp
      rw [hr]
      have hlen : ((xs.drop i).take k).length = k := by simp; omega
      have HLEN := Aside0.mk hlen
      clear hr h hW bx hle hlen
      go_enter Try.func52, Try.ntmps52
      go_wp2_with (go_at_call 97; go_must (refine T.out.mono ?_; rintro e' w1 ⟨v, rfl, q1, q2, q3⟩; have Q1 := Aside0.mk q1; have Q2 := Aside0.mk q2; have Q3 := Aside0.mk q3; clear q1 q2 q3))
      go_ret
      exact ⟨v, rfl, by rw [HLEN.out]; exact Q1.out.lower (by simp), Q2.out, below_one Q3.out⟩
    · have T := Aside0.mk (take_b_bad _ base g i xs ⟨w.heap.size, 0, none⟩ hW (fun A' c' k hrd hc => bytes_bad _ A' (xs.length - i) c' _ m (by omega) ((cell_drewN _ _ k).trans BX.out) (by omega)))
      have hr : rB xs i 0 m = ([], i, 20) := by unfold rB; rw [if_pos rfl, if_neg hle]
      rw [hr]
      clear hr h hW bx hle
      go_enter Try.func52, Try.ntmps52
      go_wp2_with (go_at_call 97; go_must (refine T.out.mono ?_; rintro e' w1 ⟨rfl, q2, q3⟩; have Q2 := Aside0.mk q2; have Q3 := Aside0.mk q3; clear q2 q3))
      go_ret
      exact ⟨_, rfl, Win.nil _ _ _ _, Q2.out, below_one Q3.out⟩
  · have T := Aside0.mk (fun f => take_b_err _ base g i xs e he f hW)
    have hr : rB xs i e m = ([], i, e) := by simp [rB, he]
    rw [hr]
    have HW := Aside0.mk hW
    clear hr hW h bx
    go_enter Try.func52, Try.ntmps52
    go_wp2_with (go_at_call 97; go_must (refine (T.out _).mono ?_; rintro e' w1 ⟨rfl, rfl⟩))
    go_ret
    exact ⟨_, rfl, Win.nil _ _ _ _, HW.out, below_one (Fr.refl _ _)⟩
set_option maxHeartbeats 400000 in
theorem Bytes_nil (w : World) (m : Int) : Calls Try.prog 52 #[.pointer none, .int .i64 m] w fun e' w' => e' = .returned (.slice none 0 0) ∧ Fr No w w' := by
  go_enter Try.func52, Try.ntmps52
  go_wp2_with (go_at_call 97; go_must (refine (take_b_nil _ _).mono ?_; rintro e' w1 ⟨rfl, rfl⟩))
  go_ret
  exact ⟨rfl, below_one (Fr.refl _ _)⟩
/-- End's error. -/
def rE (xs : List Int) (i : Nat) (e : Int) : Int := if e = 0 ∧ i < xs.length then 20 else e
set_option maxHeartbeats 400000 in
theorem End_any (w : World) (base g i : Nat) (xs : List Int) (e : Int) (h : Rdr w base g xs i e) :
    Calls Try.prog 35 #[.pointer (some ⟨g, 0, none⟩)] w fun e' w' => e' = .returned (.int .i64 (rE xs i e)) ∧ Rdr w' base g xs i (rE xs i e) ∧ Fr (One g) w w' := by
  have H := Aside0.mk h
  obtain ⟨h1, h2, v, h3, h4⟩ := h
  obtain ⟨c0, c1, c2, f1, f2⟩ := Rdr.cells h3
  have hL := Aside0.mk (Left_any w base g i xs e H.out)
  clear h3 h4
  by_cases he : e = 0
  · subst he
    by_cases hi : i < xs.length
    · have hr : rE xs i 0 = 20 := by simp [rE, hi]
      rw [hr]
      have hpos : 0 < (xs.length : Int) - i := by omega
      have hE := Aside0.mk (fun m => Err_any ((w.drewN m).setCell ⟨g, 2, none⟩ (.int .i64 20)) base g i xs 20 ((H.out.drewN m).set2 (e' := 20)).1)
      clear hr
      go_enter Try.func35, Try.ntmps35
      go_wp2_with (first | (go_at_call 20; go_must (refine hL.out.mono ?_; rintro e' w1 ⟨rfl, m, rfl⟩)) | (go_at_call 22; go_must (refine (hE.out _).mono ?_; rintro e' w1 ⟨rfl, rfl⟩)))
      go_ret
      have g := (H.out.drewN m).set2 (e' := 20)
      exact ⟨rfl, g.1, (Fr.drewN w m).trans g.2 (fun _ _ h => h) (fun _ _ h => h)⟩
    · have hr : rE xs i 0 = 0 := by simp [rE, hi]
      rw [hr]
      have hpos : ¬ 0 < (xs.length : Int) - i := by omega
      have hE := Aside0.mk (fun m => Err_any (w.drewN m) base g i xs 0 (H.out.drewN m))
      clear hr
      go_enter Try.func35, Try.ntmps35
      go_wp2_with (first | (go_at_call 20; go_must (refine hL.out.mono ?_; rintro e' w1 ⟨rfl, m, rfl⟩)) | (go_at_call 22; go_must (refine (hE.out _).mono ?_; rintro e' w1 ⟨rfl, rfl⟩)))
      go_ret
      exact ⟨rfl, H.out.drewN m, Fr.drewN w m⟩
  · have hr : rE xs i e = e := by simp [rE, he]
    rw [hr]
    have heb : (e == 0) = false := by simp [he]
    have hE := Aside0.mk (Err_any w base g i xs e H.out)
    clear hr
    go_enter Try.func35, Try.ntmps35
    go_wp2_with (first | (go_at_call 22; go_must (refine hE.out.mono ?_; rintro e' w1 ⟨rfl, rfl⟩)))
    go_ret
    exact ⟨rfl, H.out, Fr.refl _ _⟩
set_option maxHeartbeats 400000 in
theorem End_nil (w : World) : Calls Try.prog 35 #[.pointer none] w fun e' w' => e' = .returned (.int .i64 20) ∧ w' = w := by
  go_enter Try.func35, Try.ntmps35
  go_wp2_with (first | (go_at_call 22; go_must (refine (Err_nil _).mono ?_; rintro e' w1 ⟨rfl, rfl⟩)))
  go_ret
  exact ⟨rfl, rfl⟩
end Go.Proofs.Ytchcimkmjoegdaa.C
namespace Go.Proofs.Ytchcimkmjoegdaa.C
set_option linter.unusedVariables false

theorem uenc_small {u : Nat} (h : u < 128) : uenc u = [(u : Int)] := by rw [uenc, if_pos h]
theorem uenc_big {u : Nat} (h : ¬ u < 128) : uenc u = ((u % 128 + 128 : Nat) : Int) :: uenc (u / 128) := by rw [uenc, if_neg h]
/-- What is read is what would be put. -/
theorem numK_enc : ∀ (k : Nat) (b : List Int) (u n : Nat), k ≤ 9 → Byt b → numK (k + 1) b = some (u, n) → uenc u = b.take n ∧ (k = 9 ∨ u ≠ 0)
  | k, [], u, n, _, _, h => by cases h
  | k, c :: r, u, n, hk, hb, h => by
    have hc := hb c (by simp)
    rw [numK] at h
    split at h
    · cases h
    · split at h
      · rename_i hc1
        split at h
        · cases h
        · rename_i hc2
          injection h with h
          injection h with h1 h2
          subst h1; subst h2
          have e : c.toNat % 128 = c.toNat := Nat.mod_eq_of_lt (by omega)
          refine ⟨?_, ?_⟩
          · rw [e, uenc_small (by omega)]
            simp
            omega
          · rw [e]
            by_cases h9 : k = 9
            · exact .inl h9
            · refine .inr fun h0 => hc2 ⟨by omega, h9⟩
      · rename_i hc1
        obtain ⟨⟨u', n'⟩, hp, he⟩ := Option.map_eq_some_iff.1 h
        injection he with h1 h2
        simp only at h1 h2
        subst h1; subst h2
        cases k with
        | zero => cases r <;> cases hp
        | succ k =>
          obtain ⟨g1, g2⟩ := numK_enc k r u' n' (by omega) (fun x hx => hb x (by simp [hx])) hp
          have hu' : u' ≠ 0 := g2.resolve_left (by omega)
          have hm : c.toNat % 128 < 128 := Nat.mod_lt _ (by decide)
          refine ⟨?_, .inr (by omega)⟩
          rw [uenc_big (by omega), show (c.toNat % 128 + 128 * u') / 128 = u' by omega, show (c.toNat % 128 + 128 * u') % 128 = c.toNat % 128 by omega, g1, List.take_succ_cons]
          congr 1
          omega
theorem num_enc {b : List Int} {u n : Nat} (hb : Byt b) (h : num b = some (u, n)) : uenc u = b.take n := (numK_enc 9 b u n (Nat.le_refl _) hb h).1
theorem zig_unzig (u : Nat) : Lib.zigzag (unzig u) = u := by
  unfold unzig Lib.zigzag
  split <;> split <;> omega
theorem unzig_range (u : Nat) (h : u < M64) : -9223372036854775808 ≤ unzig u ∧ unzig u ≤ 9223372036854775807 := by
  rw [M64_eq] at h
  unfold unzig
  split <;> omega
theorem unzig_zig (q : Int) : unzig (Lib.zigzag q) = q := by
  unfold unzig Lib.zigzag
  split <;> split <;> omega
end Go.Proofs.Ytchcimkmjoegdaa.C
namespace Go.Proofs.Ytchcimkmjoegdaa.C
open Go.RowKit Go.Proofs.YtchcimkmjoegdaaW.PrintWords Go.Proofs.YtchcimkmjoegdaaW.PrintMore Go.Proofs.Ytchcimkmjoegdaa.M
set_option linter.unusedVariables false
set_option linter.unusedSimpArgs false

/-- The i-th group of a form of k bytes. -/
def gr (u k i : Nat) : Int := ((u / 128 ^ i % 128 + (if i + 1 < k then 128 else 0) : Nat) : Int)
def grs (u k i : Nat) : List Int := (List.range i).map (gr u k)
theorem grs_succ (u k i : Nat) : grs u k (i + 1) = grs u k i ++ [gr u k i] := by simp [grs, List.range_succ]
theorem gr_shift (u k i : Nat) : gr u (k + 1) (i + 1) = gr (u / 128) k i := by
  unfold gr
  rw [Nat.pow_succ', ← Nat.div_div_eq_div_mul]
  simp
/-- The groups are the number's form. -/
theorem grs_uenc : ∀ (k u : Nat), u < 128 ^ (k + 1) → (k = 0 ∨ 128 ^ k ≤ u) → grs u (k + 1) (k + 1) = uenc u
  | 0, u, h, _ => by
    rw [uenc, if_pos (by simpa using h)]
    have : u % 128 = u := Nat.mod_eq_of_lt (by simpa using h)
    simp [grs, gr, this]
  | k + 1, u, h, h' => by
    have hk : 128 ^ (k + 1) ≤ u := by omega
    have h1 : 128 ^ 1 ≤ 128 ^ (k + 1) := Nat.pow_le_pow_right (by decide) (by omega)
    rw [uenc, if_neg (by omega)]
    have ih := grs_uenc k (u / 128) (Nat.div_lt_of_lt_mul (by rw [Nat.pow_succ] at h; omega)) (by
      rcases Nat.eq_zero_or_pos k with h0 | h0
      · exact .inl h0
      · right
        rw [Nat.le_div_iff_mul_le (by decide), ← Nat.pow_succ]
        exact hk)
    rw [← ih]
    unfold grs
    rw [List.range_succ_eq_map]
    simp only [List.map_cons, List.map_map]
    congr 1
    · simp [gr]
    · apply List.map_congr_left
      intro i _
      exact gr_shift u (k + 1) i
theorem sh128 (u i : Nat) : (u : Int) / 2 ^ (7 * i) = ((u / 128 ^ i : Nat) : Int) := by
  rw [show (2 : Int) ^ (7 * i) = ((128 ^ i : Nat) : Int) by rw [Int.pow_mul]; norm_cast]
  norm_cast
theorem gr_mid (u k i : Nat) (h : i + 1 < k) : (u : Int) / 2 ^ (7 * i) % 128 + 128 = gr u k i := by
  rw [sh128, gr, if_pos h]
  omega
theorem gr_last (u k i : Nat) (h : ¬ i + 1 < k) : (u : Int) / 2 ^ (7 * i) % 128 = gr u k i := by
  rw [sh128, gr, if_neg h]
  omega
set_option maxRecDepth 100000 in
set_option maxHeartbeats 2000000 in
theorem refUint_any (w : World) (u : Nat) (hu : u < M64) :
    Calls Try.prog 29 #[.int .u64 u] w fun e w' => ∃ v, e = .returned v ∧ Win w' w.heap.size 5 1 v (uenc u).length (nums .u8 (uenc u)) ∧ Fr No w w' := by
  have HU := Aside0.mk hu
  clear hu
  go_enter Try.func29, Try.ntmps29
  go_wp2_with fail
  go_loop [3] (fun v3 => ∃ k : Nat, v3 = .int .i64 k ∧ 1 ≤ k ∧ k ≤ 10 ∧ Aside0 (k = 1 ∨ 128 ^ (k - 1) ≤ u)) (fun v3 => 10 - (intOf v3).toNat)
  case atStart => exact ⟨1, rfl, by omega, by omega, ⟨.inl rfl⟩⟩
  case round =>
    obtain ⟨k, rfl, hk1, hk2, HK⟩ := hrel
    by_cases hgo : k < 10 ∧ 128 ^ k ≤ u
    · obtain ⟨hlt, hle⟩ := hgo
      have hpos : 0 < (u : Int) / 2 ^ (7 * k) := by
        rw [sh128]
        have := Nat.div_pos hle (Nat.pow_pos (by decide))
        omega
      have HLE := Aside0.mk hle
      clear hle
      go_wp2_with fail
      go_round
      case rel => exact ⟨k + 1, by simp, by omega, by omega, ⟨.inr HLE.out⟩⟩
      case measure => simp [intOf]; omega
    · have HN := Aside0.mk (show grs u k k = uenc u from by
        obtain ⟨k, rfl⟩ : ∃ j, k = j + 1 := ⟨k - 1, by omega⟩
        refine grs_uenc k u ?_ (by have := HK.out; simp at this; omega)
        rcases Nat.lt_or_ge (k + 1) 10 with h | h
        · exact Nat.lt_of_not_le fun h' => hgo ⟨h, h'⟩
        · obtain rfl : k = 9 := by omega
          have := HU.out
          rw [M64_eq] at this
          omega)
      have hcase : (k < 10 ∧ ¬ (0 < (u : Int) / 2 ^ (7 * k))) ∨ ¬ k < 10 := by
        rcases Nat.lt_or_ge k 10 with h | h
        · refine .inl ⟨h, ?_⟩
          rw [sh128, Nat.div_eq_of_lt (Nat.lt_of_not_le fun h' => hgo ⟨h, h'⟩)]
          simp
        · exact .inr (by omega)
      clear hgo
      have HL := Aside0.mk (show (uenc u).length = k from by rw [← HN.out]; simp [grs])
      rcases hcase with ⟨h1, h2⟩ | h1
      all_goals
        go_wp2_with fail
        go_loopw [4, 5] (fun v4 v5 wr => ∃ i : Nat, v5 = .int .i64 i ∧ i ≤ k ∧ Aside0 (Win wr w.heap.size 5 1 v4 i (nums .u8 (grs u k i))) ∧ Aside0 (Fr No w wr)) (fun _ v5 _ => k - (intOf v5).toNat)
        case atStart => exact ⟨0, rfl, by omega, ⟨Win.nil w w.heap.size 5 1⟩, ⟨Fr.refl _ _⟩⟩
        case round =>
          obtain ⟨i, rfl, hi, HW, HF⟩ := hrel
          by_cases hlt : i < k
          · have H6 := Aside0.mk (small_bound (n := i + 1) (by omega))
            by_cases hb : i + 1 < k
            · have HG := Aside0.mk (gr_mid u k i hb)
              go_wp2_with (at_builtin; go_must (refine wpl_append1 wr w.heap.size rfl (.tmp 37) (.tmp 39) 22 5 (.int .u8 0) 1 1 rfl Try.underlying22 info5 rfl u4 i _ [.int .u8 ((u : Int) / 2 ^ (7 * i) % 128 + 128)] rfl rfl HW.out rfl (by simp [Value.oneCell']) HF.out.size H6.out.1 H6.out.2 ?_; intro v1 w1 g1 _ g3 _; have G1 := Aside0.mk g1; have G3 := Aside0.mk g3; clear g1 g3))
              go_roundw
              case rel =>
                refine ⟨i + 1, by simp, by omega, ⟨?_⟩, ⟨own_step HF.out HW.out G3.out⟩⟩
                have g := G1.out
                rw [nums_snoc, HG.out, ← grs_succ] at g
                exact g
              case measure => simp [intOf]; omega
            · have HG := Aside0.mk (gr_last u k i hb)
              go_wp2_with (at_builtin; go_must (refine wpl_append1 wr w.heap.size rfl (.tmp 37) (.tmp 39) 22 5 (.int .u8 0) 1 1 rfl Try.underlying22 info5 rfl u4 i _ [.int .u8 ((u : Int) / 2 ^ (7 * i) % 128)] rfl rfl HW.out rfl (by simp [Value.oneCell']) HF.out.size H6.out.1 H6.out.2 ?_; intro v1 w1 g1 _ g3 _; have G1 := Aside0.mk g1; have G3 := Aside0.mk g3; clear g1 g3))
              go_roundw
              case rel =>
                refine ⟨i + 1, by simp, by omega, ⟨?_⟩, ⟨own_step HF.out HW.out G3.out⟩⟩
                have g := G1.out
                rw [nums_snoc, HG.out, ← grs_succ] at g
                exact g
              case measure => simp [intOf]; omega
          · go_wp2_with fail
            go_ret
            obtain rfl : i = k := by omega
            exact ⟨_, rfl, by rw [HL.out, ← HN.out]; exact HW.out, HF.out⟩
set_option maxHeartbeats 400000 in
theorem refTurned_any (w : World) (q : Int) (h0 : -9223372036854775808 ≤ q) (h1 : q ≤ 9223372036854775807) :
    Calls Try.prog 30 #[.int .i64 q] w fun e w' => e = .returned (.int .u64 (Lib.zigzag q : Nat)) ∧ w' = w := by
  by_cases h : 0 ≤ q
  · go_enter Try.func30, Try.ntmps30
    go_wp2_with fail
    go_ret
    exact ⟨ret_int (by unfold Lib.zigzag; rw [if_pos h]; omega), rfl⟩
  · go_enter Try.func30, Try.ntmps30
    go_wp2_with fail
    go_ret
    exact ⟨ret_int (by unfold Lib.zigzag; rw [if_neg (by omega)]; omega), rfl⟩
set_option maxRecDepth 100000 in
set_option maxHeartbeats 1000000 in
theorem refText_any (w : World) (s : ByteArray) (hs : s.size ≤ 140737488355000) :
    Calls Try.prog 31 #[.string s] w fun e w' => ∃ v, e = .returned v ∧ Win w' w.heap.size 5 1 v ((uenc s.size).length + s.size) (nums .u8 (uenc s.size ++ bytesOf s)) ∧ Fr No w w' := by
  have hu : s.size < M64 := by rw [M64_eq]; omega
  have H := Aside0.mk (refUint_any w s.size hu)
  have hS : (s.size : Int) ≤ 9223372036854775807 := by omega
  have HB := Aside0.mk (small_bound (n := (uenc s.size).length + s.size) (by have := uenc_10 s.size hu; omega))
  clear hu hs
  go_enter Try.func31, Try.ntmps31
  go_wp2_with (first | (go_at_call 29; go_must (refine H.out.mono ?_; rintro e w1 ⟨v, rfl, hq, hf⟩; have Q := Aside0.mk hq; have F := Aside0.mk hf; clear hq hf)) | (at_builtin; go_must (refine wpl_append w1 w.heap.size rfl (.tmp 8) (.tmp 9) 22 9 5 (.int .u8 0) 1 1 .string rfl Try.underlying22 Try.underlying9 (.inr rfl) info5 rfl v _ _ (.string s) s.size (nums .u8 (bytesOf s)) rfl rfl Q.out (by rw [← strCells_nums]; exact Src.of_string _ _) F.out.size HB.out.1 HB.out.2 ?_; intro v1 w2 g1 _ g3 _; have G1 := Aside0.mk g1; have G3 := Aside0.mk g3; clear g1 g3)))
  go_ret
  exact ⟨_, rfl, by rw [nums_append]; exact G1.out, own_step F.out Q.out G3.out⟩
end Go.Proofs.Ytchcimkmjoegdaa.C
namespace Go.Proofs.Ytchcimkmjoegdaa.C
open Go.RowKit Go.Proofs.YtchcimkmjoegdaaW.PrintWords Go.Proofs.YtchcimkmjoegdaaW.PrintMore Go.Proofs.Ytchcimkmjoegdaa.M
set_option linter.unusedVariables false

theorem numK_uenc : ∀ (k u : Nat) (r : List Int), k ≤ 9 → u < 2 * 128 ^ k → (k = 9 ∨ u ≠ 0) → numK (k + 1) (uenc u ++ r) = some (u, (uenc u).length)
  | 0, u, r, _, h, h0 => by
    have hu : u < 128 := by simp at h; omega
    rw [uenc_small hu, List.singleton_append, numK, if_neg (by simp at h ⊢; omega), if_pos (by omega), if_neg (by omega)]
    simp
    omega
  | k + 1, u, r, hk, h, h0 => by
    by_cases hu : u < 128
    · rw [uenc_small hu, List.singleton_append, numK, if_neg (by omega), if_pos (by omega), if_neg (by omega)]
      simp
      omega
    · have ih := numK_uenc k (u / 128) r (by omega) (by rw [Nat.pow_succ] at h; omega) (.inr (by omega))
      rw [uenc_big hu, List.cons_append, numK, if_neg (by omega), if_neg (by omega), ih]
      simp
      omega
theorem num_uenc (u : Nat) (r : List Int) (h : u < M64) : num (uenc u ++ r) = some (u, (uenc u).length) :=
  numK_uenc 9 u r (Nat.le_refl _) (by rw [M64_eq] at h; omega) (.inl rfl)
theorem numK_cut : ∀ (k u j : Nat), j < (uenc u).length → numK k ((uenc u).take j) = none
  | 0, u, j, h => by cases (uenc u).take j <;> rfl
  | k + 1, u, 0, h => rfl
  | k + 1, u, j + 1, h => by
    by_cases hu : u < 128
    · rw [uenc_small hu] at h
      simp at h
    · rw [uenc_big hu] at h ⊢
      rw [List.take_succ_cons, numK]
      split
      · rfl
      · rw [if_neg (by omega), numK_cut k (u / 128) j (by simpa using h)]
        rfl
theorem num_cut (u j : Nat) (h : j < (uenc u).length) : num ((uenc u).take j) = none := numK_cut 10 u j h
theorem byt_uenc : ∀ (u : Nat), Byt (uenc u) := fun u => by
  induction u using Nat.strongRecOn with
  | _ u ih =>
    intro x hx
    by_cases hu : u < 128
    · rw [uenc_small hu] at hx
      simp at hx
      omega
    · rw [uenc_big hu] at hx
      rcases List.mem_cons.1 hx with rfl | h
      · omega
      · exact ih (u / 128) (by omega) x h
theorem byt_str (s : ByteArray) : Byt (bytesOf s) := fun x hx => by
  obtain ⟨b, _, rfl⟩ := List.mem_map.1 hx
  have := b.toNat_lt
  omega
theorem Byt.app {a b : List Int} (ha : Byt a) (hb : Byt b) : Byt (a ++ b) := fun x hx => (List.mem_append.1 hx).elim (ha x) (hb x)
theorem Byt.take {a : List Int} (ha : Byt a) (n : Nat) : Byt (a.take n) := fun x hx => ha x (List.mem_of_mem_take hx)
theorem str_back (s : ByteArray) : strOfNums (bytesOf s) = s := by
  cases s with
  | mk d =>
    unfold strOfNums bytesOf
    congr 1
    rw [List.map_map, show ((fun n : Int => UInt8.ofNat n.toNat) ∘ fun b : UInt8 => (b.toNat : Int)) = id from by funext b; simp]
    simp

/-- What stands from a place on in a list cut at c. -/
theorem cut_at (pre it post : List Int) (c : Nat) : ((pre ++ it ++ post).take c).drop pre.length = (it ++ post).take (c - pre.length) := by
  rw [List.drop_take, List.append_assoc, List.drop_left]
/-- The reader of the cut list: it has failed, or stands where the whole one's does. -/
def Cut (p i : Nat) (e : Int) : Prop := e = 20 ∨ (e = 0 ∧ i = p)
theorem rU_full (pre post : List Int) (u : Nat) (h : u < M64) : rU (pre ++ uenc u ++ post) pre.length 0 = (u, pre.length + (uenc u).length, 0) := by
  rw [rU, if_pos rfl, List.append_assoc, List.drop_left, num_uenc u post h]
theorem num_piece (u : Nat) (post : List Int) (m : Nat) (h : u < M64) : num ((uenc u ++ post).take m) = if (uenc u).length ≤ m then some (u, (uenc u).length) else none := by
  rw [List.take_append]
  split
  · rename_i hm
    rw [List.take_of_length_le hm, num_uenc u _ h]
  · rename_i hm
    rw [show m - (uenc u).length = 0 by omega, List.take_zero, List.append_nil, num_cut u m (by omega)]
theorem rU_cut (pre post : List Int) (u c i : Nat) (e : Int) (h : u < M64) (hs : Cut pre.length i e) : Cut (pre.length + (uenc u).length) (rU ((pre ++ uenc u ++ post).take c) i e).2.1 (rU ((pre ++ uenc u ++ post).take c) i e).2.2 := by
  rcases hs with rfl | ⟨rfl, rfl⟩
  · exact .inl rfl
  · rw [rU, if_pos rfl, cut_at, num_piece u post _ h]
    split
    · exact .inl rfl
    · rename_i a b hq
      split at hq
      · injection hq with hq
        injection hq with q1 q2
        subst q1; subst q2
        exact .inr ⟨rfl, rfl⟩
      · cases hq
theorem rT_full (pre post : List Int) (s : ByteArray) (most : Int) (h : s.size < M64) (hm : (s.size : Int) ≤ most) : rT (pre ++ (uenc s.size ++ bytesOf s) ++ post) pre.length 0 most = (bytesOf s, pre.length + (uenc s.size ++ bytesOf s).length, 0) := by
  have e1 : (pre ++ (uenc s.size ++ bytesOf s) ++ post).drop pre.length = uenc s.size ++ (bytesOf s ++ post) := by simp
  have e2 : (pre ++ (uenc s.size ++ bytesOf s) ++ post).drop (pre.length + (uenc s.size).length) = bytesOf s ++ post := by
    rw [← List.drop_drop, e1, List.drop_left]
  have hl := bytesOf_length s
  rw [rT, if_pos rfl, e1, num_uenc s.size _ h]
  simp only
  rw [if_pos ⟨hm, by simp [hl]; omega⟩, e2, ← hl, List.take_left]
  simp [Nat.add_assoc]
theorem rT_cut (pre post : List Int) (s : ByteArray) (c i : Nat) (e most : Int) (h : s.size < M64) (hs : Cut pre.length i e) : Cut (pre.length + (uenc s.size ++ bytesOf s).length) (rT ((pre ++ (uenc s.size ++ bytesOf s) ++ post).take c) i e most).2.1 (rT ((pre ++ (uenc s.size ++ bytesOf s) ++ post).take c) i e most).2.2 := by
  rcases hs with rfl | ⟨rfl, rfl⟩
  · exact .inl rfl
  · rw [rT, if_pos rfl, cut_at, List.append_assoc, num_piece s.size _ _ h]
    split
    · exact .inl rfl
    · rename_i a b hq
      split at hq
      · injection hq with hq
        injection hq with q1 q2
        subst q1; subst q2
        split
        · refine .inr ⟨rfl, ?_⟩
          simp [bytesOf_length, Nat.add_assoc]
        · exact .inl rfl
      · cases hq
/-- The bytes of the values put. -/
def bU (l : List Int) : List Int := l.flatMap fun u => uenc u.toNat
def bI (l : List Int) : List Int := l.flatMap fun q => uenc (Lib.zigzag q)
def bT (l : List ByteArray) : List Int := l.flatMap fun s => uenc s.size ++ bytesOf s
theorem flat_take {α β : Type} (f : α → List β) {l : List α} {i : Nat} {x : α} (h : l[i]? = some x) : (l.take (i + 1)).flatMap f = (l.take i).flatMap f ++ f x := by
  rw [List.take_add_one, h, List.flatMap_append]
  simp
theorem flat_split {α β : Type} (f : α → List β) {l : List α} {i : Nat} {x : α} (h : l[i]? = some x) : l.flatMap f = (l.take i).flatMap f ++ f x ++ (l.drop (i + 1)).flatMap f := by
  rw [← flat_take f h, ← List.flatMap_append, List.take_append_drop]
theorem byt_flat {α : Type} (f : α → List Int) (h : ∀ x, Byt (f x)) (l : List α) : Byt (l.flatMap f) := fun x hx => by
  obtain ⟨y, _, hy⟩ := List.mem_flatMap.1 hx
  exact h y x hy
theorem flat_len {α β : Type} (f : α → List β) (k : Nat) : ∀ (l : List α), (∀ x ∈ l, (f x).length ≤ k) → (l.flatMap f).length ≤ l.length * k
  | [], _ => by simp
  | a :: l, h => by
    have h1 := h a (by simp)
    have h2 := flat_len f k l (fun x hx => h x (by simp [hx]))
    rw [List.flatMap_cons, List.length_append, List.length_cons, Nat.succ_mul]
    omega
theorem flat_take_le {α β : Type} (f : α → List β) (l : List α) (i : Nat) : ((l.take i).flatMap f).length ≤ (l.flatMap f).length := by
  have h : l.flatMap f = (l.take i).flatMap f ++ (l.drop i).flatMap f := by rw [← List.flatMap_append, List.take_append_drop]
  rw [h, List.length_append]
  omega
end Go.Proofs.Ytchcimkmjoegdaa.C
namespace Go.Proofs.Ytchcimkmjoegdaa.C
open Go.RowKit Go.Proofs.YtchcimkmjoegdaaW.PrintWords Go.Proofs.YtchcimkmjoegdaaW.PrintMore Go.Proofs.Ytchcimkmjoegdaa.M
set_option linter.unusedVariables false

theorem Rdr.lower {w : World} {b b' g i : Nat} {xs : List Int} {e : Int} (h : Rdr w b g xs i e) (hb : b' ≤ b) : Rdr w b' g xs i e := by
  obtain ⟨h1, h2, v, h3, h4⟩ := h
  exact ⟨Nat.le_trans hb h1, h2, v, h3, h4.lower hb⟩
def Two (w : World) (B g1 g2 : Nat) (xs : List Int) (c p q : Nat) : Prop := g1 ≠ g2 ∧ (∃ i e, Rdr w B g1 (xs.take c) i e ∧ Cut p i e) ∧ Rdr w B g2 xs q 0
section
variable {W : World} {B g1 g2 : Nat} {xs pre post : List Int} {c p q : Nat}
theorem Two.below {w' : World} (h : Two W B g1 g2 xs c p q) (hb : Below W.heap.size W w') : Two w' B g1 g2 xs c p q := by
  obtain ⟨h0, ⟨i, e, h1, h2⟩, h3⟩ := h
  exact ⟨h0, ⟨i, e, h1.below hb, h2⟩, h3.below hb⟩
theorem Two.drewN (h : Two W B g1 g2 xs c p q) (m : Nat) : Two (W.drewN m) B g1 g2 xs c p q := h.below (pw_below_drewN (Below.refl _ _) m)
/-- At the end. -/
theorem two_left (h : Two W B g1 g2 xs c p xs.length) :
    Calls Try.prog 20 #[.pointer (some ⟨g2, 0, none⟩)] W fun e w' => e = .returned (.int .i64 0) ∧ ∃ m, w' = W.drewN m := by
  obtain ⟨h0, ⟨i, e, h1, h2⟩, h3⟩ := h
  refine (Left_any W B g2 xs.length xs 0 h3).mono ?_
  rintro e' w' ⟨rfl, q1⟩
  exact ⟨by simp, q1⟩
theorem two_err (h : Two W B g1 g2 xs c xs.length q) (hc : c < xs.length) :
    Calls Try.prog 22 #[.pointer (some ⟨g1, 0, none⟩)] W fun e w' => e = .returned (.int .i64 20) ∧ W = w' := by
  obtain ⟨h0, ⟨i, e, h1, h2⟩, h3⟩ := h
  have he : e = 20 := by
    rcases h2 with h2 | ⟨_, h2⟩
    · exact h2
    · obtain ⟨_, hi, _⟩ := h1
      rw [List.length_take] at hi
      omega
  subst he
  refine (Err_any W B g1 i _ 20 h1).mono ?_
  rintro e' w' ⟨rfl, rfl⟩
  exact ⟨rfl, rfl⟩
end
end Go.Proofs.Ytchcimkmjoegdaa.C
namespace Go.Proofs.Ytchcimkmjoegdaa.C
open Go.RowKit Go.Proofs.YtchcimkmjoegdaaW.PrintWords Go.Proofs.YtchcimkmjoegdaaW.PrintMore Go.Proofs.Ytchcimkmjoegdaa.M
set_option linter.unusedVariables false

/-- A list of bytes of the call's own. -/
def Acc (W : World) (B : Nat) (v : Value) (ys : List Int) : Prop := Win W B 5 1 v ys.length (nums .u8 ys)
theorem Acc.of {W : World} {B n : Nat} {v : Value} {ys : List Int} (h : Win W B 5 1 v n (nums .u8 ys)) : Acc W B v ys := by
  have := h.1
  rw [nums_length, Nat.mul_one] at this
  subst this
  exact h
theorem put_step_u (W : World) (B : Nat) (v : Value) (ys : List Int) (x : Int) (h : Acc W B v ys) (hB : B ≤ W.heap.size) (hx : 0 ≤ x ∧ x < 18446744073709551616) (hl : ys.length ≤ 1099511627776) :
    Calls Try.prog 25 #[v, .int .u64 x] W fun e w' => ∃ v', e = .returned v' ∧ Acc w' B v' (ys ++ uenc x.toNat) ∧ Fr No W w' := by
  obtain ⟨A, c, rfl, hc⟩ := Win.shape h
  obtain ⟨k, rfl⟩ := Int.eq_ofNat_of_zero_le hx.1
  refine (PutUint_any W A ys.length c k ys (RdV.of_win h) rfl (fun e => by subst e; exact Win.nil_cap h) hc (by omega) (by rw [M64_eq]; omega)).mono ?_
  rintro e w' ⟨v', rfl, q1, q2⟩
  exact ⟨v', rfl, Acc.of (q1.lower hB), q2⟩
theorem put_step_i (W : World) (B : Nat) (v : Value) (ys : List Int) (x : Int) (h : Acc W B v ys) (hB : B ≤ W.heap.size) (hx : -9223372036854775808 ≤ x ∧ x ≤ 9223372036854775807) (hl : ys.length ≤ 1099511627776) :
    Calls Try.prog 26 #[v, .int .i64 x] W fun e w' => ∃ v', e = .returned v' ∧ Acc w' B v' (ys ++ uenc (Lib.zigzag x)) ∧ Fr No W w' := by
  obtain ⟨A, c, rfl, hc⟩ := Win.shape h
  refine (PutInt_any W A ys.length c x ys (RdV.of_win h) rfl (fun e => by subst e; exact Win.nil_cap h) hc (by omega) hx.1 hx.2).mono ?_
  rintro e w' ⟨v', rfl, q1, q2⟩
  exact ⟨v', rfl, Acc.of (q1.lower hB), q2⟩
theorem put_step_t (W : World) (B : Nat) (v : Value) (ys : List Int) (s : ByteArray) (h : Acc W B v ys) (hB : B ≤ W.heap.size) (hx : s.size ≤ 1099511627776) (hl : ys.length ≤ 1099511627776) :
    Calls Try.prog 28 #[v, .string s] W fun e w' => ∃ v', e = .returned v' ∧ Acc w' B v' (ys ++ (uenc s.size ++ bytesOf s)) ∧ Fr No W w' := by
  obtain ⟨A, c, rfl, hc⟩ := Win.shape h
  refine (PutText_any W A ys.length c s ys (RdV.of_win h) rfl (fun e => by subst e; exact Win.nil_cap h) hc (by omega)).mono ?_
  rintro e w' ⟨v', rfl, q1, q2⟩
  rw [List.append_assoc] at q1
  exact ⟨v', rfl, Acc.of (q1.lower hB), q2⟩
theorem rdv_at {w : World} {A : Option Addr} {α : Type} {f : α → Value} {l : List α} {i : Nat} {x : α} (h : RdV w A (l.map f)) (hx : l[i]? = some x) : ∃ ad, A = some ad ∧ w.cell? (ad.add i) = some (f x) := by
  obtain ⟨ad, e, hc⟩ := h (by intro h0; have h1 : l = [] := by simpa using h0
                              subst h1; simp at hx)
  exact ⟨ad, e, hc i _ (by simp [hx])⟩
theorem get_some' {α : Type} {xs : List α} {i : Nat} (h : i < xs.length) : ∃ x, xs[i]? = some x := ⟨_, List.getElem?_eq_getElem h⟩
theorem rdv_some {w : World} {ad : Addr} {α : Type} {f : α → Value} {l : List α} {i : Nat} {x : α} (h : RdV w (some ad) (l.map f)) (hx : l[i]? = some x) : w.cell? (ad.add i) = some (f x) := by
  obtain ⟨ad', e, hc⟩ := rdv_at h hx
  injection e with e
  subst e
  exact hc
theorem rd_some {w : World} {ad : Addr} {k : IntKind} {l : List Int} {i : Nat} {x : Int} (h : RdV w (some ad) (nums k l)) (hx : l[i]? = some x) : w.cell? (ad.add i) = some (.int k x) := rdv_some (f := Value.int k) h hx
/-- The cut's place. -/
theorem cut_place (a : Int) (n : Nat) (ha0 : -9223372036854775808 ≤ a) (ha1 : a ≤ 9223372036854775807) (hn : n ≤ 20000) :
    ∃ k : Nat, k ≤ n ∧ ((n = 0 ∧ k = 0) ∨ (0 < n ∧ k < n ∧ ((a.tmod n < 0 ∧ wrap64 (a.tmod n + n) = k) ∨ (0 ≤ a.tmod n ∧ a.tmod n = k)))) := by
  by_cases h0 : n = 0
  · exact ⟨0, by omega, .inl ⟨h0, rfl⟩⟩
  · have h1 : a.tmod n < n := Int.tmod_lt_of_pos a (by omega)
    have h2 : -(n : Int) < a.tmod n := by
      have h := Int.tmod_lt_of_pos (-a) (b := (n : Int)) (by omega)
      rw [Int.neg_tmod] at h
      omega
    by_cases h3 : a.tmod n < 0
    · refine ⟨(a.tmod n + n).toNat, by omega, .inr ⟨by omega, by omega, .inl ⟨h3, ?_⟩⟩⟩
      unfold wrap64
      omega
    · exact ⟨(a.tmod n).toNat, by omega, .inr ⟨by omega, by omega, .inr ⟨by omega, by omega⟩⟩⟩
/-- Both readers, made. -/
theorem two_start {w0 w1 w2 : World} {B g1 g2 k : Nat} {xs : List Int} (hB : B ≤ w0.heap.size) (h1 : Rdr w1 w0.heap.size g1 (xs.take k) 0 0) (f1 : Fr No w0 w1) (h2 : Rdr w2 w1.heap.size g2 xs 0 0) (f2 : Fr No w1 w2) : Two w2 B g1 g2 xs k 0 0 :=
  ⟨fun e => by have := h1.lt; have := h2.1; omega, ⟨0, 0, (h1.below f2.no).lower hB, .inr ⟨rfl, rfl⟩⟩, h2.lower (by have := f1.size; omega)⟩
def HidT (w wr : World) (g1 g2 : Nat) (xs : List Int) (k : Nat) (pre : List Int) : Prop := Two wr w.heap.size g1 g2 xs k pre.length pre.length ∧ Below w.heap.size w wr
theorem hidT_step {w wr : World} {g1 g2 k : Nat} {xs pre it : List Int} (h : Two wr w.heap.size g1 g2 xs k (pre.length + it.length) (pre.length + it.length)) (hb : Below w.heap.size w wr) : HidT w wr g1 g2 xs k (pre ++ it) :=
  ⟨by rw [List.length_append]; exact h, hb⟩
theorem text_small {us is xs : List Int} {ts : List ByteArray} (h : xs = bU us ++ bI is ++ bT ts) {i : Nat} {x : ByteArray} (hx : ts[i]? = some x) (hn : xs.length ≤ 20000) : x.size ≤ 20000 := by
  have h2 : bT ts = (bT (ts.take i)) ++ (uenc x.size ++ bytesOf x) ++ bT (ts.drop (i + 1)) := by unfold bT; rw [flat_split _ hx]
  rw [h, h2] at hn
  simp only [List.length_append, bytesOf_length] at hn
  omega
theorem split_u {us is xs : List Int} {ts : List ByteArray} (h : xs = bU us ++ bI is ++ bT ts) {i : Nat} {x : Int} (hx : us[i]? = some x) : ∃ post, xs = bU (us.take i) ++ uenc x.toNat ++ post := ⟨bU (us.drop (i + 1)) ++ bI is ++ bT ts, by rw [h]; unfold bU; rw [flat_split _ hx]; simp only [List.append_assoc]⟩
theorem split_i {us is xs : List Int} {ts : List ByteArray} (h : xs = bU us ++ bI is ++ bT ts) {i : Nat} {x : Int} (hx : is[i]? = some x) : ∃ post, xs = (bU us ++ bI (is.take i)) ++ uenc (Lib.zigzag x) ++ post := ⟨bI (is.drop (i + 1)) ++ bT ts, by rw [h]; unfold bI; rw [flat_split _ hx]; simp only [List.append_assoc]⟩
theorem split_t {us is xs : List Int} {ts : List ByteArray} (h : xs = bU us ++ bI is ++ bT ts) {i : Nat} {x : ByteArray} (hx : ts[i]? = some x) : ∃ post, xs = (bU us ++ bI is ++ bT (ts.take i)) ++ (uenc x.size ++ bytesOf x) ++ post := ⟨bT (ts.drop (i + 1)), by rw [h]; unfold bT; rw [flat_split _ hx]; simp only [List.append_assoc]⟩
end Go.Proofs.Ytchcimkmjoegdaa.C
namespace Go.Proofs.Ytchcimkmjoegdaa.C
open Go.RowKit Go.Proofs.YtchcimkmjoegdaaW.PrintWords Go.Proofs.YtchcimkmjoegdaaW.PrintMore Go.Proofs.Ytchcimkmjoegdaa.M
set_option linter.unusedVariables false
set_option linter.unusedSimpArgs false

/-- A sealed file's head with the lengths of its first i sections. -/
def hd (k : Int) (S : List (List Int)) (i : Nat) : List Int := [76, 84, 1, k] ++ uenc S.length ++ (S.take i).flatMap fun s => uenc s.length
def bodyS (k : Int) (S : List (List Int)) : List Int := hd k S S.length ++ S.flatten
theorem hd_succ {k : Int} {S : List (List Int)} {i : Nat} {s : List Int} (h : S[i]? = some s) : hd k S (i + 1) = hd k S i ++ uenc s.length := by
  unfold hd
  rw [List.take_add_one, h]
  simp
theorem hd_len (k : Int) (S : List (List Int)) (hs : S.length ≤ 1024) (hl : ∀ s ∈ S, s.length < M64) (i : Nat) : (hd k S i).length ≤ 20000 := by
  unfold hd
  have h1 := uenc_10 S.length (by omega)
  have h2 := flat_len (fun s : List Int => uenc s.length) 10 (S.take i) (fun x hx => uenc_10 _ (hl x (List.mem_of_mem_take hx)))
  rw [List.length_take] at h2
  simp only [List.length_append, List.length_cons, List.length_nil]
  omega
theorem hd_le (k : Int) (S : List (List Int)) (i : Nat) : (hd k S i).length ≤ (hd k S S.length).length := by
  unfold hd
  have e : S.take S.length = S.take i ++ S.drop i := by rw [List.take_length, List.take_append_drop]
  rw [e]
  simp only [List.length_append, List.flatMap_append]
  omega
theorem hd_byt {k : Int} (hk : 0 ≤ k ∧ k ≤ 255) (S : List (List Int)) (i : Nat) : Byt (hd k S i) := by
  unfold hd
  refine Byt.app (Byt.app ?_ (byt_uenc _)) (byt_flat (fun s : List Int => uenc s.length) (fun x => byt_uenc _) _)
  intro x hx
  simp only [List.mem_cons, List.mem_nil_iff, or_false] at hx
  rcases hx with rfl | rfl | rfl | rfl <;> omega
theorem byt_flatten {S : List (List Int)} (h : ∀ s ∈ S, Byt s) : Byt S.flatten := fun x hx => by
  obtain ⟨s, hs, hxs⟩ := List.mem_flatten.1 hx
  exact h s hs x hxs
theorem take_flatten_len (S : List (List Int)) (i : Nat) : (S.take i).flatten.length ≤ S.flatten.length := by
  have : S.flatten = (S.take i).flatten ++ (S.drop i).flatten := by rw [← List.flatten_append, List.take_append_drop]
  rw [this, List.length_append]
  omega
section
variable {P : Program} {ops : Array Oper} {rest : List Oper} {o : Oper} {a : Act} {Q : Exit → Act → World → Prop}
/-- An append that has no room: what it appends to is only read. -/
theorem wpl_append_new (w : World) (hgd : o.guard = none) (s x : Operand) (t tx e : TypeId) (z : Value) (size bytes : Nat) (dx : TypeDesc)
    (ho : o.op = .call { callee := .builtin .append, args := #[s, x], argTypes := #[t, tx] })
    (ht : P.underlying t = some (.slice e)) (htx : P.underlying tx = some dx) (hnx : (∃ q, dx = .slice q) ∨ dx = .string) (hinfo : (P.info? e).map (fun i => (i.zero, i.size, i.bytes)) = some (some z, size, bytes)) (hzs : z.cells.size = size)
    (A : Option Addr) (n c : Nat) (xs : List Value) (y : Value) (m : Nat) (news : List Value) (hs : a.eval s = .slice A n c) (hx : a.eval x = y)
    (HR : RdV w A xs) (hxl : xs.length = n * size) (HS : Src P w size y m news) (hroom : c < n + m) (hm : n + m ≤ maxLen) (hl : (n + m + (n + m) / 4 + 700) * bytes ≤ 281474976710656)
    (h : ∀ v1 w1, Win w1 w.heap.size e size v1 (n + m) (xs ++ news) → Fr No w w1 → wpList P ops Q rest (a.put o.dst v1) w1) :
    wpList P ops Q (o :: rest) a w := by
  obtain ⟨i0, hi, hzz⟩ := Option.map_eq_some_iff.1 hinfo
  simp only [Prod.mk.injEq] at hzz
  obtain ⟨hz0, hz1, hz2⟩ := hzz
  subst hz1
  subst hz2
  have hr := run_append_new (ty := o.type) w ht htx hnx hi hz0 A n c m xs HR hxl y news HS hroom (by simp only [maxLen] at hm; omega) hl
  have hge := grownCap_ge w (n + m) c e
  have hcm : grownCap w (n + m) c e ≤ maxLen := grownCap_le_maxLen w (n + m) c e hm
  have hlen : (xs ++ news).length = (n + m) * i0.size := by rw [List.length_append, hxl, HS.len, Nat.add_mul]
  refine wpList_plain hgd fun K hK => ?_
  unfold Oper.wp execOp
  simp only [ho, resolve, invoke, builtin, Sem.run_bind, Sem.run_pure, Result.andThen_ok, List.map_toArray, List.map_cons, List.map_nil, hs, hx, hr]
  refine hK _ _ (h _ _ ⟨hlen, .inr ⟨w.heap.size, 0, _, _, rfl, Nat.le_refl _, heap_alloc_new w.drew _, hge, hcm, ?_, ?_⟩⟩ ⟨rfl, rfl, rfl, by simp, fun k hk _ => Go.heap_alloc_old w.drew _ hk⟩)
  · simp only [Array.size_append, List.size_toArray, size_zeroCells, hzs, hxl, HS.len, ← Nat.add_mul]
    have : n + m + (grownCap w (n + m) c e - (n + m)) = grownCap w (n + m) c e := by omega
    rw [this]
    omega
  · simp only [Array.toList_append, List.append_assoc, List.drop_zero]
    rw [← List.append_assoc, ← hlen]
    exact List.take_left
end
/-- A row that is read, whatever its mark. -/
theorem rd_row (w : World) (k : IntKind) (t : TypeId) (xs : List Int) (fr : Nat × Nat) : RdV (w.alloc (.cells (nums k xs).toArray t fr)) (some ⟨w.heap.size, 0, none⟩) (nums k xs) :=
  fun _ => ⟨_, rfl, by simpa using World.news_of_block (cs := (nums k xs).toArray) (t := t) (fr := fr) (heap_alloc_new w (.cells (nums k xs).toArray t fr))⟩
end Go.Proofs.Ytchcimkmjoegdaa.C
namespace Go.Proofs.Ytchcimkmjoegdaa.C
open Go.RowKit Go.Proofs.YtchcimkmjoegdaaW.PrintWords Go.Proofs.YtchcimkmjoegdaaW.PrintMore Go.Proofs.Ytchcimkmjoegdaa.M
set_option linter.unusedVariables false
set_option linter.unusedSimpArgs false

theorem take_flatten_succ {S : List (List Int)} {i : Nat} {s : List Int} (h : S[i]? = some s) : (S.take (i + 1)).flatten = (S.take i).flatten ++ s := by
  rw [List.take_add_one, h]
  simp
end Go.Proofs.Ytchcimkmjoegdaa.C
namespace Go.Proofs.Ytchcimkmjoegdaa.M
open Go.RowKit Go.Proofs.YtchcimkmjoegdaaW.PrintWords

/-- Where an append leaves its value: in place, or in a new block. -/
def Grew (w w' : World) (v v' : Value) (n m : Nat) : Prop :=
  (∃ A c, v = .slice A n c ∧ v' = .slice A (n + m) c) ∨ (Fr No w w' ∧ ∃ c, v' = .slice (some ⟨w.heap.size, 0, none⟩) (n + m) c)
theorem run_append_win2 {P : Program} (w : World) (base : Nat) (t tx ty e : TypeId) (i : TypeInfo) (z : Value) (dx : TypeDesc) (ht : P.underlying t = some (.slice e)) (htx : P.underlying tx = some dx) (hnx : (∃ q, dx = .slice q) ∨ dx = .string) (hi : P.info? e = some i) (hz : i.zero = some z)
    (hzs : z.cells.size = i.size) (v : Value) (n : Nat) (xs : List Value) (hw : Win w base e i.size v n xs) (x : Value) (m : Nat) (news : List Value) (hs : Src P w i.size x m news)
    (h63 : n + m ≤ maxLen) (hbytes : (n + m + (n + m) / 4 + 700) * i.bytes ≤ 281474976710656) (hbase : base ≤ w.heap.size) :
    ∃ v' w', (Builtin.append_ #[t, tx] ty #[v, x]).run P w = .ok v' w' ∧ Win w' base e i.size v' (n + m) (xs ++ news) ∧ Fr (At v) w w' ∧ Grew w w' v v' n m := by
  have hsmall : n + m ≤ 9223372036854775807 := by simp only [maxLen] at h63; omega
  obtain ⟨v', w', hr, h1, _, h3, h4⟩ := run_append_win (P := P) w base t tx ty e i z dx ht htx hnx hi hz hzs v n xs hw x m news hs h63 hbytes hbase
  refine ⟨v', w', hr, h1, h3, ?_⟩
  obtain ⟨A, c, rfl, hnc⟩ := hw.shape
  by_cases hroom : n + m ≤ c
  · left
    rcases hw.2 with ⟨rfl, A', he⟩ | ⟨g, off, cap, cur, he, hbg, hg, _, hcm, hcs, ht'⟩
    · injection he with e1 _ e3
      subst e1; subst e3
      have hm0 : m = 0 := by omega
      subst hm0
      have hn : news = [] := List.eq_nil_of_length_eq_zero (by rw [hs.len, Nat.zero_mul])
      subst hn
      have hr2 := run_append_stays (ty := ty) w ht htx hnx hi A 0 0 0 x [] hs hroom w (fun a _ => rfl) (fun _ => rfl)
      rw [hr] at hr2
      injection hr2 with hv _
      exact ⟨A, 0, rfl, hv⟩
    · injection he with e1 _ e3
      subst e1; subst e3
      have hfit : off + n * i.size + 0 + news.length ≤ cur.size := by
        have : (n + m) * i.size ≤ c * i.size := Nat.mul_le_mul_right _ hroom
        rw [Nat.add_mul] at this
        rw [hs.len]
        omega
      have hst := run_storeCells_at P g (off + n * i.size) e news 0 cur w hg hfit hs.one
      simp only [Nat.add_zero] at hst
      have hr2 := run_append_stays (ty := ty) w ht htx hnx hi (some ⟨g, off, none⟩) n c m x news hs hroom _ (fun a ha => by injection ha with ha; subst ha; rw [add_at]; exact hst) (fun h => by cases h)
      rw [hr] at hr2
      injection hr2 with hv _
      exact ⟨_, _, rfl, hv⟩
  · right
    have hr2 := run_append_new (ty := ty) w ht htx hnx hi hz A n c m xs (RdV.of_win hw) hw.1 x news hs (by omega) hsmall hbytes
    rw [hr] at hr2
    injection hr2 with hv hw'
    subst hw'
    exact ⟨⟨rfl, rfl, rfl, by simp, fun k hk _ => Go.heap_alloc_old w.drew _ hk⟩, _, hv⟩
section
variable {P : Program} {ops : Array Oper} {rest : List Oper} {o : Oper} {a : Act} {Q : Exit → Act → World → Prop} {K : Act → World → Prop}
theorem wpl_append1b (w : World) (base : Nat) (hgd : o.guard = none) (s x : Operand) (t e : TypeId) (z : Value) (size bytes : Nat)
    (ho : o.op = .call { callee := .builtin .append, args := #[s, x], argTypes := #[t, t] })
    (ht : P.underlying t = some (.slice e)) (hinfo : (P.info? e).map (fun i => (i.zero, i.size, i.bytes)) = some (some z, size, bytes)) (hzs : z.cells.size = size)
    (v : Value) (n : Nat) (xs ys : List Value) (hs : a.eval s = v) (hx : a.eval x = .slice (some ⟨w.heap.size, 0, none⟩) 1 1)
    (HW : Win w base e size v n xs) (hys : ys.length = size) (h1 : ∀ u ∈ ys, u.oneCell' = true) (hbase : base ≤ w.heap.size) (hm : n + 1 ≤ maxLen) (hl : (n + 1 + (n + 1) / 4 + 700) * bytes ≤ 281474976710656)
    (h : ∀ v1 w1, Win w1 base e size v1 (n + 1) (xs ++ ys) → Fr (At v) w w1 → ((∃ A c, v = .slice A n c ∧ v1 = .slice A (n + 1) c) ∨ (Fr No w w1 ∧ ∃ c, v1 = .slice (some ⟨w.heap.size + 1, 0, none⟩) (n + 1) c)) → wpList P ops Q rest (a.put o.dst v1) w1) :
    wpList P ops Q (o :: rest) a (w.alloc (.cells ys.toArray e)) := by
  obtain ⟨i0, hi, hzz⟩ := Option.map_eq_some_iff.1 hinfo
  simp only [Prod.mk.injEq] at hzz
  obtain ⟨hz0, hz1, hz2⟩ := hzz
  subst hz1
  subst hz2
  have hsrc : Src P (w.alloc (.cells ys.toArray e)) i0.size (.slice (some ⟨w.heap.size, 0, none⟩) 1 1) 1 ys := Src.of_rd (fun _ => ⟨_, rfl, by simpa using World.news_of_block (cs := ys.toArray) (t := e) (fr := (0, 0)) (heap_alloc_new w (.cells ys.toArray e))⟩) (by omega) h1
  obtain ⟨v1, w1, hr, g1, g3, g4⟩ := run_append_win2 (P := P) (w.alloc (.cells ys.toArray e)) base t t o.type e i0 z (.slice e) ht ht (.inl ⟨_, rfl⟩) hi hz0 hzs v n xs (HW.below (below_alloc (Below.refl _ _) _)) _ 1 ys hsrc hm hl (by simp; omega)
  refine wpList_plain hgd fun K hK => ?_
  unfold Oper.wp execOp
  simp only [ho, resolve, invoke, builtin, Sem.run_bind, Sem.run_pure, Result.andThen_ok, List.map_toArray, List.map_cons, List.map_nil, hs, hx, hr]
  refine hK _ _ (h v1 w1 g1 ((Fr.alloc (S := At v) w _).trans g3 (fun _ _ h => h) (fun _ _ h => h)) ?_)
  rcases g4 with g4 | ⟨g4, c, g5⟩
  · exact .inl g4
  · exact .inr ⟨(Fr.alloc (S := No) w _).trans g4 (fun _ _ h => h) (fun _ _ h => h), c, by simpa using g5⟩
end
section
variable {w w' : World} {base n c g off : Nat} {e : TypeId} {xs : List Value}
/-- A cell of a window: it is there, and may be written. -/
theorem Win.cell (h : Win w base e 1 (.slice (some ⟨g, off, none⟩) n c) n xs) {j : Nat} {u : Value} (hj : xs[j]? = some u) : w.cell? ⟨g, off + j, none⟩ = some u ∧ w.frozen? ⟨g, off + j, none⟩ = false := by
  rcases h.2 with ⟨h0, A, he⟩ | ⟨g', off', cap, cur, he, hg, hh, hnc, hm, hcs, ht⟩
  · have : xs = [] := List.eq_nil_of_length_eq_zero (by rw [h.1, h0, Nat.zero_mul])
    subst this
    simp at hj
  · injection he with ha _ hc
    injection ha with ha
    injection ha with h1 h2
    subst h1; subst h2; subst hc
    constructor
    · rw [cell_of_row w g _ cur e (0, 0) hh]
      rw [← ht, List.getElem?_take] at hj
      split at hj
      · rw [List.getElem?_drop] at hj
        rw [← Array.getElem?_toList]
        exact hj
      · cases hj
    · simp [World.frozen?, hh]
/-- A cell of a window written. -/
theorem Win.store (h : Win w base e 1 (.slice (some ⟨g, off, none⟩) n c) n xs) (j : Nat) (hj : j < n) (u : Value) : Win (w.setCell ⟨g, off + j, none⟩ u) base e 1 (.slice (some ⟨g, off, none⟩) n c) n (xs.set j u) ∧ Fr (At (.slice (some ⟨g, off, none⟩) n c)) w (w.setCell ⟨g, off + j, none⟩ u) := by
  rcases h.2 with ⟨h0, A, he⟩ | ⟨g', off', cap, cur, he, hg, hh, hnc, hm, hcs, ht⟩
  · omega
  · injection he with ha _ hc
    injection ha with ha
    injection ha with h1 h2
    subst h1; subst h2; subst hc
    refine ⟨⟨by rw [List.length_set]; exact h.1, .inr ⟨g, off, c, cur.setIfInBounds (off + j) u, rfl, hg, ?_, hnc, hm, by simpa using hcs, ?_⟩⟩, Fr.setCell w _ u (rb_slice _ _ _ (by omega))⟩
    · simp [World.setCell, Array.getElem?_modify, hh]
    · rw [← ht, Array.toList_setIfInBounds, Nat.mul_one]
      apply List.ext_getElem?
      intro q
      simp only [List.getElem?_take, List.getElem?_drop, List.getElem?_set, List.length_take, List.length_drop, Array.length_toList]
      by_cases hq : q < n
      · by_cases hqj : j = q
        · subst hqj
          rw [if_pos hq, if_pos rfl, if_pos (by omega), if_pos rfl, if_pos (by omega)]
        · rw [if_pos hq, if_neg (by omega), if_neg hqj, if_pos hq]
      · rw [if_neg hq, if_neg (by omega), if_neg hq]
end
end Go.Proofs.Ytchcimkmjoegdaa.M
namespace Go.Proofs.Ytchcimkmjoegdaa.M
open Go.RowKit Go.Proofs.YtchcimkmjoegdaaW.PrintWords
theorem step_append {P : Program} {ops : Array Oper} {o : Oper} {a : Act} {K : Act → World → Prop} {Q : Exit → Act → World → Prop} {E : Prop} (w : World) (base : Nat) (hgd : o.guard = none) (s x : Operand) (t tx e : TypeId) (z : Value) (size bytes : Nat) (dx : TypeDesc)
    (ho : o.op = .call { callee := .builtin .append, args := #[s, x], argTypes := #[t, tx] })
    (ht : P.underlying t = some (.slice e)) (htx : P.underlying tx = some dx) (hnx : (∃ q, dx = .slice q) ∨ dx = .string) (hinfo : (P.info? e).map (fun i => (i.zero, i.size, i.bytes)) = some (some z, size, bytes)) (hzs : z.cells.size = size)
    (v : Value) (n : Nat) (xs : List Value) (y : Value) (m : Nat) (news : List Value) (hs : a.eval s = v) (hx : a.eval x = y)
    (HW : Win w base e size v n xs) (HS : Src P w size y m news) (hbase : base ≤ w.heap.size) (hm : n + m ≤ maxLen) (hl : (n + m + (n + m) / 4 + 700) * bytes ≤ 281474976710656)
    (h : ∀ v1 w1, Win w1 base e size v1 (n + m) (xs ++ news) → Win w1 base e size v n xs → Fr (At v) w w1 → (rb v1 = rb v ∨ rb v1 = some w.heap.size) → K (a.put o.dst v1) w1) :
    if Region.wanted o (yielded ops a.tmps) = true then Oper.wp P o a w K Q else E := by
  have hw : Region.wanted o (yielded ops a.tmps) = true := by simp [Region.wanted, hgd]
  rw [if_pos hw]
  exact wp_append w base s x t tx e z size bytes dx ho ht htx hnx hinfo hzs v n xs y m news hs hx HW HS hbase hm hl h
end Go.Proofs.Ytchcimkmjoegdaa.M
namespace Go.Proofs.Ytchcimkmjoegdaa.C
open Go.RowKit Go.Proofs.YtchcimkmjoegdaaW.PrintWords Go.Proofs.YtchcimkmjoegdaaW.PrintMore Go.Proofs.Ytchcimkmjoegdaa.M
set_option linter.unusedVariables false
set_option linter.unusedSimpArgs false

/-- Sizes read, one behind another. -/
def szN (ys : List Int) (m : Int) (i : Nat × Int) : Nat → List Nat × Nat × Int
  | 0 => ([], i)
  | j + 1 => ((szN ys m i j).1 ++ [(rS ys (szN ys m i j).2.1 (szN ys m i j).2.2 m).1], (rS ys (szN ys m i j).2.1 (szN ys m i j).2.2 m).2)
/-- Blocks read, one behind another. -/
def blN (ys : List Int) (i : Nat × Int) (z : List Nat) : Nat → List (List Int) × Nat × Int
  | 0 => ([], i)
  | j + 1 => ((blN ys i z j).1 ++ [(rB ys (blN ys i z j).2.1 (blN ys i z j).2.2 (z.getD j 0 : Nat)).1], (rB ys (blN ys i z j).2.1 (blN ys i z j).2.2 (z.getD j 0 : Nat)).2)
/-- A file's inside. -/
def innerF (ys : List Int) : List (List Int) × Int :=
  if rE ys (blN ys (szN ys 16777216 (rS ys 0 0 1024).2 (rS ys 0 0 1024).1).2 (szN ys 16777216 (rS ys 0 0 1024).2 (rS ys 0 0 1024).1).1 (rS ys 0 0 1024).1).2.1
      (blN ys (szN ys 16777216 (rS ys 0 0 1024).2 (rS ys 0 0 1024).1).2 (szN ys 16777216 (rS ys 0 0 1024).2 (rS ys 0 0 1024).1).1 (rS ys 0 0 1024).1).2.2 = 0 then
    ((blN ys (szN ys 16777216 (rS ys 0 0 1024).2 (rS ys 0 0 1024).1).2 (szN ys 16777216 (rS ys 0 0 1024).2 (rS ys 0 0 1024).1).1 (rS ys 0 0 1024).1).1, 0)
  else ([], 20)
/-- Blocks in memory of their own. -/
structure Blks (w : World) (base : Nat) (v : Value) (B : List (Value × List Int)) : Prop where
  hdr : Win w base 22 1 v B.length (B.map Prod.fst)
  win : ∀ p ∈ B, Acc w base p.1 p.2
  sep : ∀ (i j : Nat) (p q : Value × List Int) (k : Nat), i ≠ j → B[i]? = some p → B[j]? = some q → At p.1 k → ¬ At q.1 k
theorem Blks.nil (w : World) (base : Nat) : Blks w base (.slice none 0 0) [] := ⟨Win.nil _ _ _ _, fun p hp => (nomatch hp), fun i j p q k _ h => (by simp at h)⟩
end Go.Proofs.Ytchcimkmjoegdaa.C
