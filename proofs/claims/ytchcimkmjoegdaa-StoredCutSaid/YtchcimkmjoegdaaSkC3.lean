/- The codec's reader: Bytes, End. Conditions: as each theorem states. | Plain laws on numbers' forms: what is read is what would be put, and back. No program here. Conditions: as each theorem states. | Plain laws on numbers and texts laid one behind another, read whole and read cut short. No program here. Conditions: as each theorem states. | Two readers, one of a list cut short and one of the whole: each step of both. Conditions: as each theorem states. | CodecBack's steps that put: one number or text more. Conditions: as each theorem states. | frame.Seal (56). Conditions: as the theorem states. | The reference's Seal (57). Conditions: as the theorem states. | More of the memory words: what an append leaves, told to the place; a store into a window. Conditions: none beyond the hypotheses stated. | Append at a step of a region that draws its order. Conditions: as Mem's law. | The states of Open's two loops: sizes read, blocks read. Conditions: as each theorem states. | The frame's plain law: what was sealed is opened again, what is opened is sealed in the same bytes. No program here. Conditions: bytes are 0 to 255. | Chapter 4's awake (55) is true, in memory of its own. Conditions: none. (Several texts of mine laid into one by prune.py.) -/
import Derived.Test.YtchcimkmjoegdaaSkC2
namespace Go.Proofs.Ytchcimkmjoegdaa.C
open Go.RowKit Go.Proofs.YtchcimkmjoegdaaW.PrintWords Go.Proofs.YtchcimkmjoegdaaW.PrintMore Go.Proofs.Ytchcimkmjoegdaa.M
set_option linter.unusedVariables false
set_option linter.unusedSimpArgs false

set_option maxHeartbeats 400000 in
theorem bytes_bad (w : World) (A : Option Addr) (n c : Nat) (q : Addr) (m : Int) (hn : n ≤ 9223372036854775807) (hq : w.cell? q = some (.int .i64 m)) (hm : m < 0 ∨ (n : Int) < m) :
    Calls Try.prog 98 #[.slice A n c, .pointer (some q)] w fun e w' => e = .returned (.tuple #[.slice none 0 0, .int .i64 (-1)]) ∧ w' = w := by
  have hcase : m < 0 ∨ (0 ≤ m ∧ (n : Int) < m) := by omega
  clear hm
  rcases hcase with h0 | ⟨h0, h1⟩
  all_goals
    go_enter Try.func98, Try.ntmps98
    go_wp2_with fail
    go_ret2
    exact ⟨rfl, rfl⟩
set_option maxHeartbeats 1000000 in
theorem bytes_ok (w : World) (A : Option Addr) (n c : Nat) (b : List Int) (q : Addr) (m : Nat) (hr : RdV w A (nums .u8 b)) (hl : b.length = n) (h0 : A = none → c = 0) (hc : n ≤ c) (hn : n ≤ 140737488355328) (hq : w.cell? q = some (.int .i64 m)) (hm : m ≤ n) :
    Calls Try.prog 98 #[.slice A n c, .pointer (some q)] w fun e w' => ∃ v, e = .returned (.tuple #[v, .int .i64 m]) ∧ Win w' w.heap.size 5 1 v m (nums .u8 (b.take m)) ∧ Fr No w w' := by
  obtain ⟨i0, hi, _, hsz, _⟩ := info_parts info5
  have hcut := cuth (P := Try.prog) 22 5 .i64 Try.underlying22 hi A n c m (by omega)
  have CL := Aside0.mk (fun W (h : RdV W A (nums .u8 (b.take m))) => clone_any W A m c (nums .u8 (b.take m)) h (by simp [nums]; omega) h0 (by omega) (nums_one _ _) (by omega))
  have HR := Aside0.mk (nums_take .u8 b m ▸ RdV.take hr m : RdV w A (nums .u8 (b.take m)))
  have hm' : (m : Int) ≤ n := by omega
  have hn' : (n : Int) ≤ 9223372036854775807 := by omega
  clear hr hl h0 hi hsz
  go_enter Try.func98, Try.ntmps98
  go_wp2_with fail
  go_region_held3 (fun w' => w'.cell? q = some (.int .i64 m) ∧ Aside0 (RdV w' A (nums .u8 (b.take m))) ∧ Aside0 (Fr No w w')) ((first | exact ⟨by simpa using hq, ⟨HR.out.drew⟩, ⟨Fr.of_below (below_drew (Below.refl _ _)) No⟩⟩ | exact ⟨by assumption, by assumption, by assumption⟩)) (first | (go_at_call 72; refine (CL.out w.drew HR.out.drew).mono ?_; rintro e w1 ⟨v, rfl, hw, hf⟩; have hcq := pw_cell_below hf.no (show w.drew.cell? q = some (.int .i64 m) by simpa using hq); have HRD1 := Aside0.mk (HR.out.drew.below hf.no); have HFR1 := Aside0.mk ((Fr.of_below (below_drew (Below.refl _ _)) No).trans hf (fun _ _ h => h) (fun _ _ h => h)); have HW := Aside0.mk hw; clear hw hf; obtain ⟨A1, c1, e1, l1⟩ := HW.out.shape; subst e1) | (go_at_call 79; refine (clip_any _ A1 m c1 l1 (by omega)).mono ?_; rintro e w2 ⟨rfl, rfl⟩))
  go_wp2_with fail
  go_ret2
  exact ⟨_, rfl, by simpa using HW.out.clip, HFR1.out⟩
set_option maxHeartbeats 1000000 in
theorem take_b_bad (w : World) (base g i : Nat) (xs : List Int) (q : Addr) (h : Rdr w base g xs i 0)
    (hcl : ∀ (A' : Option Addr) (c' m : Nat), RdV w A' (nums .u8 (xs.drop i)) → xs.length - i ≤ c' → Calls Try.prog 98 #[.slice A' (xs.length - i) c', .pointer (some q)] (w.drewN m) fun e w' => e = .returned (.tuple #[.slice none 0 0, .int .i64 (-1)]) ∧ w' = w.drewN m) :
    Calls Try.prog 97 #[.pointer (some ⟨g, 0, none⟩), .func (.func 98) #[] #[.pointer (some q)]] w fun e' w' => e' = .returned (.slice none 0 0) ∧ Rdr w' base g xs i 20 ∧ Fr (One g) w w' := by
  have H := Aside0.mk h
  obtain ⟨h1, h2, v, h3, h4⟩ := h
  obtain ⟨c0, c1, c2, f1, f2⟩ := Rdr.cells h3
  obtain ⟨A, c, rfl, hc⟩ := h4.shape
  have hm := h4.max
  obtain ⟨i0, hi, _, hsz, _⟩ := info_parts info5
  obtain ⟨A', hcut, hrd, _⟩ := cut_rd (P := Try.prog) 22 5 .i64 Try.underlying22 hi hsz A xs.length c i h2
  have HRD := Aside0.mk (nums_drop .u8 xs i ▸ hrd w (nums .u8 xs) hc (by simp [nums]) (RdV.of_win h4))
  have HN := Aside0.mk (fun m => hcl A' (c - i) m HRD.out (by omega))
  clear h4 h3 hrd hi hsz hcl
  go_enter Try.func97, Try.ntmps97
  go_wp2_with fail
  go_quiet ((go_at_call 98; go_must (exact Calls.quiet_of_same (HN.out _))))
  go_wp2_with fail
  go_ret
  have g := (H.out.drewN nq).set2 (e' := 20)
  exact ⟨rfl, g.1, (Fr.drewN w nq).trans g.2 (fun _ _ h => h) (fun _ _ h => h)⟩
set_option maxRecDepth 100000 in
set_option maxHeartbeats 1000000 in
theorem take_b_ok (w : World) (base g i : Nat) (xs : List Int) (q : Addr) (m : Nat) (h : Rdr w base g xs i 0) (hq : w.cell? q = some (.int .i64 m)) (hm : i + m ≤ xs.length) (hn : xs.length ≤ 140737488355328) :
    Calls Try.prog 97 #[.pointer (some ⟨g, 0, none⟩), .func (.func 98) #[] #[.pointer (some q)]] w fun e' w' => ∃ v, e' = .returned v ∧ Win w' w.heap.size 5 1 v m (nums .u8 ((xs.drop i).take m)) ∧ Rdr w' base g xs (i + m) 0 ∧ Fr (One g) w w' := by
  have H := Aside0.mk h
  obtain ⟨h1, h2, v, h3, h4⟩ := h
  obtain ⟨c0, c1, c2, f1, f2⟩ := Rdr.cells h3
  obtain ⟨A, c, rfl, hc⟩ := h4.shape
  have hx := h4.max
  obtain ⟨i0, hi, _, hsz, _⟩ := info_parts info5
  obtain ⟨A', hcut, hrd, hnone⟩ := cut_rd (P := Try.prog) 22 5 .i64 Try.underlying22 hi hsz A xs.length c i h2
  have HRD := Aside0.mk (nums_drop .u8 xs i ▸ hrd w (nums .u8 xs) hc (by simp [nums]) (RdV.of_win h4) : RdV w A' (nums .u8 (xs.drop i)))
  have hc0 : A' = none → c - i = 0 := fun he => by
    obtain rfl := hnone he
    have := h4.nil_cap
    omega
  have HB := Aside0.mk (bytes_ok w.drew A' (xs.length - i) (c - i) (xs.drop i) q m HRD.out.drew (by simp) hc0 (by omega) (by omega) (by simpa using hq) (by omega))
  clear h4 h3 hrd hi hsz hc0 hnone
  go_enter Try.func97, Try.ntmps97
  go_wp2_with fail
  go_region_held3 (fun w' => w'.cell? ⟨g, 0, none⟩ = some (.slice A xs.length c) ∧ w'.cell? ⟨g, 1, none⟩ = some (.int .i64 (i : Int))) ((first | exact ⟨by simpa using c0, by simpa using c1⟩ | exact ⟨by assumption, by assumption⟩)) (first | (go_at_call 98; refine HB.out.mono ?_; rintro e w1 ⟨v, rfl, hw, hf⟩; have hc0 := pw_cell_below hf.no (show w.drew.cell? ⟨g, 0, none⟩ = some (.slice A xs.length c) by simpa using c0); have hc1 := pw_cell_below hf.no (show w.drew.cell? ⟨g, 1, none⟩ = some (.int .i64 (i : Int)) by simpa using c1); have HW := Aside0.mk hw; have HF := Aside0.mk hf; clear hw hf))
  have HF0 := Aside0.mk (show Fr No w w1 from (Fr.of_below (below_drew (Below.refl _ _)) No).trans HF.out (fun _ _ h => h) (fun _ _ h => h))
  have H1 := Aside0.mk (H.out.below HF0.out.no)
  have f1' : w1.frozen? ⟨g, 1, none⟩ = false := by
    obtain ⟨_, _, v', h3', _⟩ := H1.out
    exact (Rdr.cells h3').2.2.2.1
  clear c0 c1 c2 f1 f2 hcut hq
  go_wp2_with fail
  go_ret
  have g1 := H1.out.set1 hm
  simp only [Int.natCast_add] at g1
  refine ⟨v, rfl, ?_, g1.1, ?_⟩
  · have hWb := HW.out
    have hs : w.drew.heap.size = w.heap.size := rfl
    rw [hs] at hWb
    exact hWb.fr g1.2 (fun k hk hs => by
      have hs' : k = g := hs
      subst hs'
      exact hWb.young hk H.out.lt)
  · exact HF0.out.trans g1.2 (fun _ _ h => h.elim) (fun _ _ h => h)
/-- What Bytes answers, and where the reader stands behind it. -/
def rB (xs : List Int) (i : Nat) (e : Int) (m : Int) : List Int × Nat × Int :=
  if e = 0 then (if 0 ≤ m ∧ (i : Int) + m ≤ xs.length then ((xs.drop i).take m.toNat, i + m.toNat, 0) else ([], i, 20)) else ([], i, e)
set_option maxHeartbeats 400000 in
theorem take_b_err (w : World) (base g i : Nat) (xs : List Int) (e : Int) (he : e ≠ 0) (f : Value) (h : Rdr w base g xs i e) :
    Calls Try.prog 97 #[.pointer (some ⟨g, 0, none⟩), f] w fun e' w' => e' = .returned (.slice none 0 0) ∧ w' = w := by
  obtain ⟨h1, h2, v, h3, h4⟩ := h
  obtain ⟨c0, c1, c2, f1, f2⟩ := Rdr.cells h3
  have heb : (e != 0) = true := by simp [he]
  clear h4 h3
  go_enter Try.func97, Try.ntmps97
  go_wp2_with fail
  go_ret
  exact ⟨rfl, rfl⟩
set_option maxHeartbeats 400000 in
theorem take_b_nil (w : World) (f : Value) : Calls Try.prog 97 #[.pointer none, f] w fun e' w' => e' = .returned (.slice none 0 0) ∧ w' = w := by
  go_enter Try.func97, Try.ntmps97
  go_wp2_with fail
  go_ret
  exact ⟨rfl, rfl⟩
theorem box (w : World) (a : Value) (t : TypeId) : (w.alloc (.cells #[a] t)).cell? ⟨w.heap.size, 0, none⟩ = some a := by
  have h := heap_alloc_new w (.cells #[a] t)
  unfold World.cell?
  rw [h]
  rfl
theorem below_one {w w' : World} {S : Nat → Prop} {o : Obj} (h : Fr S (w.alloc o) w') : Fr S w w' := (Fr.alloc (S := No) w o).trans h (fun _ _ h => h.elim) (fun _ _ h => h)
/-- The value that Bytes hands back is a window of its own, or nil. -/
theorem Win.up {w : World} {b b' size n : Nat} {e : TypeId} {v : Value} {xs : List Value} (h : Win w b e size v n xs) (hb : b' ≤ b) : Win w b' e size v n xs := h.lower hb
set_option maxHeartbeats 400000 in
theorem Bytes_any (w : World) (base g i : Nat) (xs : List Int) (e m : Int) (h : Rdr w base g xs i e) (hx : xs.length ≤ 140737488355328) (hm0 : -9223372036854775808 ≤ m) (hm : m ≤ 9223372036854775807) :
    Calls Try.prog 52 #[.pointer (some ⟨g, 0, none⟩), .int .i64 m] w fun e' w' => ∃ v, e' = .returned v ∧ Win w' w.heap.size 5 1 v (rB xs i e m).1.length (nums .u8 (rB xs i e m).1) ∧ Rdr w' base g xs (rB xs i e m).2.1 (rB xs i e m).2.2 ∧ Fr (One g) w w' := by
  have bx := box w (.int .i64 m) 3
  have hW := h.below (below_alloc (Below.refl _ _) (.cells #[.int .i64 m] 3))
  have BX := Aside0.mk bx
  have hi := h.2.1
  by_cases he : e = 0
  · subst he
    by_cases hle : 0 ≤ m ∧ (i : Int) + m ≤ xs.length
    · obtain ⟨k, rfl⟩ := Int.eq_ofNat_of_zero_le hle.1
      have T := Aside0.mk (take_b_ok _ base g i xs ⟨w.heap.size, 0, none⟩ k hW BX.out (by omega) hx)
      have hr : rB xs i 0 (k : Int) = ((xs.drop i).take k, i + k, 0) := by unfold rB; rw [if_pos rfl, if_pos hle]; simp
      rw [hr]
      have hlen : ((xs.drop i).take k).length = k := by simp; omega
      have HLEN := Aside0.mk hlen
      clear hr h hW bx hle hlen
      go_enter Try.func52, Try.ntmps52
      go_wp2_with (go_at_call 97; go_must (refine T.out.mono ?_; rintro e' w1 ⟨v, rfl, q1, q2, q3⟩; have Q1 := Aside0.mk q1; have Q2 := Aside0.mk q2; have Q3 := Aside0.mk q3; clear q1 q2 q3))
      go_ret
      exact ⟨v, rfl, by rw [HLEN.out]; exact Q1.out.lower (by simp), Q2.out, below_one Q3.out⟩
    · have T := Aside0.mk (take_b_bad _ base g i xs ⟨w.heap.size, 0, none⟩ hW (fun A' c' k hrd hc => bytes_bad _ A' (xs.length - i) c' _ m (by omega) ((cell_drewN _ _ k).trans BX.out) (by omega)))
      have hr : rB xs i 0 m = ([], i, 20) := by unfold rB; rw [if_pos rfl, if_neg hle]
      rw [hr]
      clear hr h hW bx hle
      go_enter Try.func52, Try.ntmps52
      go_wp2_with (go_at_call 97; go_must (refine T.out.mono ?_; rintro e' w1 ⟨rfl, q2, q3⟩; have Q2 := Aside0.mk q2; have Q3 := Aside0.mk q3; clear q2 q3))
      go_ret
      exact ⟨_, rfl, Win.nil _ _ _ _, Q2.out, below_one Q3.out⟩
  · have T := Aside0.mk (fun f => take_b_err _ base g i xs e he f hW)
    have hr : rB xs i e m = ([], i, e) := by simp [rB, he]
    rw [hr]
    have HW := Aside0.mk hW
    clear hr hW h bx
    go_enter Try.func52, Try.ntmps52
    go_wp2_with (go_at_call 97; go_must (refine (T.out _).mono ?_; rintro e' w1 ⟨rfl, rfl⟩))
    go_ret
    exact ⟨_, rfl, Win.nil _ _ _ _, HW.out, below_one (Fr.refl _ _)⟩
set_option maxHeartbeats 400000 in
theorem Bytes_nil (w : World) (m : Int) : Calls Try.prog 52 #[.pointer none, .int .i64 m] w fun e' w' => e' = .returned (.slice none 0 0) ∧ Fr No w w' := by
  go_enter Try.func52, Try.ntmps52
  go_wp2_with (go_at_call 97; go_must (refine (take_b_nil _ _).mono ?_; rintro e' w1 ⟨rfl, rfl⟩))
  go_ret
  exact ⟨rfl, below_one (Fr.refl _ _)⟩
/-- End's error. -/
def rE (xs : List Int) (i : Nat) (e : Int) : Int := if e = 0 ∧ i < xs.length then 20 else e
set_option maxHeartbeats 400000 in
theorem End_any (w : World) (base g i : Nat) (xs : List Int) (e : Int) (h : Rdr w base g xs i e) :
    Calls Try.prog 35 #[.pointer (some ⟨g, 0, none⟩)] w fun e' w' => e' = .returned (.int .i64 (rE xs i e)) ∧ Rdr w' base g xs i (rE xs i e) ∧ Fr (One g) w w' := by
  have H := Aside0.mk h
  obtain ⟨h1, h2, v, h3, h4⟩ := h
  obtain ⟨c0, c1, c2, f1, f2⟩ := Rdr.cells h3
  have hL := Aside0.mk (Left_any w base g i xs e H.out)
  clear h3 h4
  by_cases he : e = 0
  · subst he
    by_cases hi : i < xs.length
    · have hr : rE xs i 0 = 20 := by simp [rE, hi]
      rw [hr]
      have hpos : 0 < (xs.length : Int) - i := by omega
      have hE := Aside0.mk (fun m => Err_any ((w.drewN m).setCell ⟨g, 2, none⟩ (.int .i64 20)) base g i xs 20 ((H.out.drewN m).set2 (e' := 20)).1)
      clear hr
      go_enter Try.func35, Try.ntmps35
      go_wp2_with (first | (go_at_call 20; go_must (refine hL.out.mono ?_; rintro e' w1 ⟨rfl, m, rfl⟩)) | (go_at_call 22; go_must (refine (hE.out _).mono ?_; rintro e' w1 ⟨rfl, rfl⟩)))
      go_ret
      have g := (H.out.drewN m).set2 (e' := 20)
      exact ⟨rfl, g.1, (Fr.drewN w m).trans g.2 (fun _ _ h => h) (fun _ _ h => h)⟩
    · have hr : rE xs i 0 = 0 := by simp [rE, hi]
      rw [hr]
      have hpos : ¬ 0 < (xs.length : Int) - i := by omega
      have hE := Aside0.mk (fun m => Err_any (w.drewN m) base g i xs 0 (H.out.drewN m))
      clear hr
      go_enter Try.func35, Try.ntmps35
      go_wp2_with (first | (go_at_call 20; go_must (refine hL.out.mono ?_; rintro e' w1 ⟨rfl, m, rfl⟩)) | (go_at_call 22; go_must (refine (hE.out _).mono ?_; rintro e' w1 ⟨rfl, rfl⟩)))
      go_ret
      exact ⟨rfl, H.out.drewN m, Fr.drewN w m⟩
  · have hr : rE xs i e = e := by simp [rE, he]
    rw [hr]
    have heb : (e == 0) = false := by simp [he]
    have hE := Aside0.mk (Err_any w base g i xs e H.out)
    clear hr
    go_enter Try.func35, Try.ntmps35
    go_wp2_with (first | (go_at_call 22; go_must (refine hE.out.mono ?_; rintro e' w1 ⟨rfl, rfl⟩)))
    go_ret
    exact ⟨rfl, H.out, Fr.refl _ _⟩
set_option maxHeartbeats 400000 in
theorem End_nil (w : World) : Calls Try.prog 35 #[.pointer none] w fun e' w' => e' = .returned (.int .i64 20) ∧ w' = w := by
  go_enter Try.func35, Try.ntmps35
  go_wp2_with (first | (go_at_call 22; go_must (refine (Err_nil _).mono ?_; rintro e' w1 ⟨rfl, rfl⟩)))
  go_ret
  exact ⟨rfl, rfl⟩
end Go.Proofs.Ytchcimkmjoegdaa.C
namespace Go.Proofs.Ytchcimkmjoegdaa.C
set_option linter.unusedVariables false

theorem uenc_small {u : Nat} (h : u < 128) : uenc u = [(u : Int)] := by rw [uenc, if_pos h]
theorem uenc_big {u : Nat} (h : ¬ u < 128) : uenc u = ((u % 128 + 128 : Nat) : Int) :: uenc (u / 128) := by rw [uenc, if_neg h]
/-- What is read is what would be put. -/
theorem numK_enc : ∀ (k : Nat) (b : List Int) (u n : Nat), k ≤ 9 → Byt b → numK (k + 1) b = some (u, n) → uenc u = b.take n ∧ (k = 9 ∨ u ≠ 0)
  | k, [], u, n, _, _, h => by cases h
  | k, c :: r, u, n, hk, hb, h => by
    have hc := hb c (by simp)
    rw [numK] at h
    split at h
    · cases h
    · split at h
      · rename_i hc1
        split at h
        · cases h
        · rename_i hc2
          injection h with h
          injection h with h1 h2
          subst h1; subst h2
          have e : c.toNat % 128 = c.toNat := Nat.mod_eq_of_lt (by omega)
          refine ⟨?_, ?_⟩
          · rw [e, uenc_small (by omega)]
            simp
            omega
          · rw [e]
            by_cases h9 : k = 9
            · exact .inl h9
            · refine .inr fun h0 => hc2 ⟨by omega, h9⟩
      · rename_i hc1
        obtain ⟨⟨u', n'⟩, hp, he⟩ := Option.map_eq_some_iff.1 h
        injection he with h1 h2
        simp only at h1 h2
        subst h1; subst h2
        cases k with
        | zero => cases r <;> cases hp
        | succ k =>
          obtain ⟨g1, g2⟩ := numK_enc k r u' n' (by omega) (fun x hx => hb x (by simp [hx])) hp
          have hu' : u' ≠ 0 := g2.resolve_left (by omega)
          have hm : c.toNat % 128 < 128 := Nat.mod_lt _ (by decide)
          refine ⟨?_, .inr (by omega)⟩
          rw [uenc_big (by omega), show (c.toNat % 128 + 128 * u') / 128 = u' by omega, show (c.toNat % 128 + 128 * u') % 128 = c.toNat % 128 by omega, g1, List.take_succ_cons]
          congr 1
          omega
theorem num_enc {b : List Int} {u n : Nat} (hb : Byt b) (h : num b = some (u, n)) : uenc u = b.take n := (numK_enc 9 b u n (Nat.le_refl _) hb h).1
theorem zig_unzig (u : Nat) : Lib.zigzag (unzig u) = u := by
  unfold unzig Lib.zigzag
  split <;> split <;> omega
theorem unzig_range (u : Nat) (h : u < M64) : -9223372036854775808 ≤ unzig u ∧ unzig u ≤ 9223372036854775807 := by
  rw [M64_eq] at h
  unfold unzig
  split <;> omega
theorem unzig_zig (q : Int) : unzig (Lib.zigzag q) = q := by
  unfold unzig Lib.zigzag
  split <;> split <;> omega
end Go.Proofs.Ytchcimkmjoegdaa.C
namespace Go.Proofs.Ytchcimkmjoegdaa.C
open Go.RowKit Go.Proofs.YtchcimkmjoegdaaW.PrintWords Go.Proofs.YtchcimkmjoegdaaW.PrintMore Go.Proofs.Ytchcimkmjoegdaa.M
set_option linter.unusedVariables false

theorem numK_uenc : ∀ (k u : Nat) (r : List Int), k ≤ 9 → u < 2 * 128 ^ k → (k = 9 ∨ u ≠ 0) → numK (k + 1) (uenc u ++ r) = some (u, (uenc u).length)
  | 0, u, r, _, h, h0 => by
    have hu : u < 128 := by simp at h; omega
    rw [uenc_small hu, List.singleton_append, numK, if_neg (by simp at h ⊢; omega), if_pos (by omega), if_neg (by omega)]
    simp
    omega
  | k + 1, u, r, hk, h, h0 => by
    by_cases hu : u < 128
    · rw [uenc_small hu, List.singleton_append, numK, if_neg (by omega), if_pos (by omega), if_neg (by omega)]
      simp
      omega
    · have ih := numK_uenc k (u / 128) r (by omega) (by rw [Nat.pow_succ] at h; omega) (.inr (by omega))
      rw [uenc_big hu, List.cons_append, numK, if_neg (by omega), if_neg (by omega), ih]
      simp
      omega
theorem num_uenc (u : Nat) (r : List Int) (h : u < M64) : num (uenc u ++ r) = some (u, (uenc u).length) :=
  numK_uenc 9 u r (Nat.le_refl _) (by rw [M64_eq] at h; omega) (.inl rfl)
theorem numK_cut : ∀ (k u j : Nat), j < (uenc u).length → numK k ((uenc u).take j) = none
  | 0, u, j, h => by cases (uenc u).take j <;> rfl
  | k + 1, u, 0, h => rfl
  | k + 1, u, j + 1, h => by
    by_cases hu : u < 128
    · rw [uenc_small hu] at h
      simp at h
    · rw [uenc_big hu] at h ⊢
      rw [List.take_succ_cons, numK]
      split
      · rfl
      · rw [if_neg (by omega), numK_cut k (u / 128) j (by simpa using h)]
        rfl
theorem num_cut (u j : Nat) (h : j < (uenc u).length) : num ((uenc u).take j) = none := numK_cut 10 u j h
theorem byt_uenc : ∀ (u : Nat), Byt (uenc u) := fun u => by
  induction u using Nat.strongRecOn with
  | _ u ih =>
    intro x hx
    by_cases hu : u < 128
    · rw [uenc_small hu] at hx
      simp at hx
      omega
    · rw [uenc_big hu] at hx
      rcases List.mem_cons.1 hx with rfl | h
      · omega
      · exact ih (u / 128) (by omega) x h
theorem byt_str (s : ByteArray) : Byt (bytesOf s) := fun x hx => by
  obtain ⟨b, _, rfl⟩ := List.mem_map.1 hx
  have := b.toNat_lt
  omega
theorem Byt.app {a b : List Int} (ha : Byt a) (hb : Byt b) : Byt (a ++ b) := fun x hx => (List.mem_append.1 hx).elim (ha x) (hb x)
theorem Byt.take {a : List Int} (ha : Byt a) (n : Nat) : Byt (a.take n) := fun x hx => ha x (List.mem_of_mem_take hx)
theorem str_back (s : ByteArray) : strOfNums (bytesOf s) = s := by
  cases s with
  | mk d =>
    unfold strOfNums bytesOf
    congr 1
    rw [List.map_map, show ((fun n : Int => UInt8.ofNat n.toNat) ∘ fun b : UInt8 => (b.toNat : Int)) = id from by funext b; simp]
    simp

/-- What stands from a place on in a list cut at c. -/
theorem cut_at (pre it post : List Int) (c : Nat) : ((pre ++ it ++ post).take c).drop pre.length = (it ++ post).take (c - pre.length) := by
  rw [List.drop_take, List.append_assoc, List.drop_left]
/-- The reader of the cut list: it has failed, or stands where the whole one's does. -/
def Cut (p i : Nat) (e : Int) : Prop := e = 20 ∨ (e = 0 ∧ i = p)
theorem rU_full (pre post : List Int) (u : Nat) (h : u < M64) : rU (pre ++ uenc u ++ post) pre.length 0 = (u, pre.length + (uenc u).length, 0) := by
  rw [rU, if_pos rfl, List.append_assoc, List.drop_left, num_uenc u post h]
theorem num_piece (u : Nat) (post : List Int) (m : Nat) (h : u < M64) : num ((uenc u ++ post).take m) = if (uenc u).length ≤ m then some (u, (uenc u).length) else none := by
  rw [List.take_append]
  split
  · rename_i hm
    rw [List.take_of_length_le hm, num_uenc u _ h]
  · rename_i hm
    rw [show m - (uenc u).length = 0 by omega, List.take_zero, List.append_nil, num_cut u m (by omega)]
theorem rU_cut (pre post : List Int) (u c i : Nat) (e : Int) (h : u < M64) (hs : Cut pre.length i e) : Cut (pre.length + (uenc u).length) (rU ((pre ++ uenc u ++ post).take c) i e).2.1 (rU ((pre ++ uenc u ++ post).take c) i e).2.2 := by
  rcases hs with rfl | ⟨rfl, rfl⟩
  · exact .inl rfl
  · rw [rU, if_pos rfl, cut_at, num_piece u post _ h]
    split
    · exact .inl rfl
    · rename_i a b hq
      split at hq
      · injection hq with hq
        injection hq with q1 q2
        subst q1; subst q2
        exact .inr ⟨rfl, rfl⟩
      · cases hq
theorem rT_full (pre post : List Int) (s : ByteArray) (most : Int) (h : s.size < M64) (hm : (s.size : Int) ≤ most) : rT (pre ++ (uenc s.size ++ bytesOf s) ++ post) pre.length 0 most = (bytesOf s, pre.length + (uenc s.size ++ bytesOf s).length, 0) := by
  have e1 : (pre ++ (uenc s.size ++ bytesOf s) ++ post).drop pre.length = uenc s.size ++ (bytesOf s ++ post) := by simp
  have e2 : (pre ++ (uenc s.size ++ bytesOf s) ++ post).drop (pre.length + (uenc s.size).length) = bytesOf s ++ post := by
    rw [← List.drop_drop, e1, List.drop_left]
  have hl := bytesOf_length s
  rw [rT, if_pos rfl, e1, num_uenc s.size _ h]
  simp only
  rw [if_pos ⟨hm, by simp [hl]; omega⟩, e2, ← hl, List.take_left]
  simp [Nat.add_assoc]
theorem rT_cut (pre post : List Int) (s : ByteArray) (c i : Nat) (e most : Int) (h : s.size < M64) (hs : Cut pre.length i e) : Cut (pre.length + (uenc s.size ++ bytesOf s).length) (rT ((pre ++ (uenc s.size ++ bytesOf s) ++ post).take c) i e most).2.1 (rT ((pre ++ (uenc s.size ++ bytesOf s) ++ post).take c) i e most).2.2 := by
  rcases hs with rfl | ⟨rfl, rfl⟩
  · exact .inl rfl
  · rw [rT, if_pos rfl, cut_at, List.append_assoc, num_piece s.size _ _ h]
    split
    · exact .inl rfl
    · rename_i a b hq
      split at hq
      · injection hq with hq
        injection hq with q1 q2
        subst q1; subst q2
        split
        · refine .inr ⟨rfl, ?_⟩
          simp [bytesOf_length, Nat.add_assoc]
        · exact .inl rfl
      · cases hq
/-- The bytes of the values put. -/
def bU (l : List Int) : List Int := l.flatMap fun u => uenc u.toNat
def bI (l : List Int) : List Int := l.flatMap fun q => uenc (Lib.zigzag q)
def bT (l : List ByteArray) : List Int := l.flatMap fun s => uenc s.size ++ bytesOf s
theorem flat_take {α β : Type} (f : α → List β) {l : List α} {i : Nat} {x : α} (h : l[i]? = some x) : (l.take (i + 1)).flatMap f = (l.take i).flatMap f ++ f x := by
  rw [List.take_add_one, h, List.flatMap_append]
  simp
theorem flat_split {α β : Type} (f : α → List β) {l : List α} {i : Nat} {x : α} (h : l[i]? = some x) : l.flatMap f = (l.take i).flatMap f ++ f x ++ (l.drop (i + 1)).flatMap f := by
  rw [← flat_take f h, ← List.flatMap_append, List.take_append_drop]
theorem byt_flat {α : Type} (f : α → List Int) (h : ∀ x, Byt (f x)) (l : List α) : Byt (l.flatMap f) := fun x hx => by
  obtain ⟨y, _, hy⟩ := List.mem_flatMap.1 hx
  exact h y x hy
theorem flat_len {α β : Type} (f : α → List β) (k : Nat) : ∀ (l : List α), (∀ x ∈ l, (f x).length ≤ k) → (l.flatMap f).length ≤ l.length * k
  | [], _ => by simp
  | a :: l, h => by
    have h1 := h a (by simp)
    have h2 := flat_len f k l (fun x hx => h x (by simp [hx]))
    rw [List.flatMap_cons, List.length_append, List.length_cons, Nat.succ_mul]
    omega
theorem flat_take_le {α β : Type} (f : α → List β) (l : List α) (i : Nat) : ((l.take i).flatMap f).length ≤ (l.flatMap f).length := by
  have h : l.flatMap f = (l.take i).flatMap f ++ (l.drop i).flatMap f := by rw [← List.flatMap_append, List.take_append_drop]
  rw [h, List.length_append]
  omega
end Go.Proofs.Ytchcimkmjoegdaa.C
namespace Go.Proofs.Ytchcimkmjoegdaa.C
open Go.RowKit Go.Proofs.YtchcimkmjoegdaaW.PrintWords Go.Proofs.YtchcimkmjoegdaaW.PrintMore Go.Proofs.Ytchcimkmjoegdaa.M
set_option linter.unusedVariables false

theorem Rdr.lower {w : World} {b b' g i : Nat} {xs : List Int} {e : Int} (h : Rdr w b g xs i e) (hb : b' ≤ b) : Rdr w b' g xs i e := by
  obtain ⟨h1, h2, v, h3, h4⟩ := h
  exact ⟨Nat.le_trans hb h1, h2, v, h3, h4.lower hb⟩
def Two (w : World) (B g1 g2 : Nat) (xs : List Int) (c p q : Nat) : Prop := g1 ≠ g2 ∧ (∃ i e, Rdr w B g1 (xs.take c) i e ∧ Cut p i e) ∧ Rdr w B g2 xs q 0
section
variable {W : World} {B g1 g2 : Nat} {xs pre post : List Int} {c p q : Nat}
theorem Two.below {w' : World} (h : Two W B g1 g2 xs c p q) (hb : Below W.heap.size W w') : Two w' B g1 g2 xs c p q := by
  obtain ⟨h0, ⟨i, e, h1, h2⟩, h3⟩ := h
  exact ⟨h0, ⟨i, e, h1.below hb, h2⟩, h3.below hb⟩
theorem Two.drewN (h : Two W B g1 g2 xs c p q) (m : Nat) : Two (W.drewN m) B g1 g2 xs c p q := h.below (pw_below_drewN (Below.refl _ _) m)
/-- At the end. -/
theorem two_left (h : Two W B g1 g2 xs c p xs.length) :
    Calls Try.prog 20 #[.pointer (some ⟨g2, 0, none⟩)] W fun e w' => e = .returned (.int .i64 0) ∧ ∃ m, w' = W.drewN m := by
  obtain ⟨h0, ⟨i, e, h1, h2⟩, h3⟩ := h
  refine (Left_any W B g2 xs.length xs 0 h3).mono ?_
  rintro e' w' ⟨rfl, q1⟩
  exact ⟨by simp, q1⟩
theorem two_err (h : Two W B g1 g2 xs c xs.length q) (hc : c < xs.length) :
    Calls Try.prog 22 #[.pointer (some ⟨g1, 0, none⟩)] W fun e w' => e = .returned (.int .i64 20) ∧ W = w' := by
  obtain ⟨h0, ⟨i, e, h1, h2⟩, h3⟩ := h
  have he : e = 20 := by
    rcases h2 with h2 | ⟨_, h2⟩
    · exact h2
    · obtain ⟨_, hi, _⟩ := h1
      rw [List.length_take] at hi
      omega
  subst he
  refine (Err_any W B g1 i _ 20 h1).mono ?_
  rintro e' w' ⟨rfl, rfl⟩
  exact ⟨rfl, rfl⟩
end
end Go.Proofs.Ytchcimkmjoegdaa.C
namespace Go.Proofs.Ytchcimkmjoegdaa.C
open Go.RowKit Go.Proofs.YtchcimkmjoegdaaW.PrintWords Go.Proofs.YtchcimkmjoegdaaW.PrintMore Go.Proofs.Ytchcimkmjoegdaa.M
set_option linter.unusedVariables false

/-- A list of bytes of the call's own. -/
def Acc (W : World) (B : Nat) (v : Value) (ys : List Int) : Prop := Win W B 5 1 v ys.length (nums .u8 ys)
theorem Acc.of {W : World} {B n : Nat} {v : Value} {ys : List Int} (h : Win W B 5 1 v n (nums .u8 ys)) : Acc W B v ys := by
  have := h.1
  rw [nums_length, Nat.mul_one] at this
  subst this
  exact h
theorem put_step_u (W : World) (B : Nat) (v : Value) (ys : List Int) (x : Int) (h : Acc W B v ys) (hB : B ≤ W.heap.size) (hx : 0 ≤ x ∧ x < 18446744073709551616) (hl : ys.length ≤ 1099511627776) :
    Calls Try.prog 25 #[v, .int .u64 x] W fun e w' => ∃ v', e = .returned v' ∧ Acc w' B v' (ys ++ uenc x.toNat) ∧ Fr No W w' := by
  obtain ⟨A, c, rfl, hc⟩ := Win.shape h
  obtain ⟨k, rfl⟩ := Int.eq_ofNat_of_zero_le hx.1
  refine (PutUint_any W A ys.length c k ys (RdV.of_win h) rfl (fun e => by subst e; exact Win.nil_cap h) hc (by omega) (by rw [M64_eq]; omega)).mono ?_
  rintro e w' ⟨v', rfl, q1, q2⟩
  exact ⟨v', rfl, Acc.of (q1.lower hB), q2⟩
theorem put_step_i (W : World) (B : Nat) (v : Value) (ys : List Int) (x : Int) (h : Acc W B v ys) (hB : B ≤ W.heap.size) (hx : -9223372036854775808 ≤ x ∧ x ≤ 9223372036854775807) (hl : ys.length ≤ 1099511627776) :
    Calls Try.prog 26 #[v, .int .i64 x] W fun e w' => ∃ v', e = .returned v' ∧ Acc w' B v' (ys ++ uenc (Lib.zigzag x)) ∧ Fr No W w' := by
  obtain ⟨A, c, rfl, hc⟩ := Win.shape h
  refine (PutInt_any W A ys.length c x ys (RdV.of_win h) rfl (fun e => by subst e; exact Win.nil_cap h) hc (by omega) hx.1 hx.2).mono ?_
  rintro e w' ⟨v', rfl, q1, q2⟩
  exact ⟨v', rfl, Acc.of (q1.lower hB), q2⟩
theorem put_step_t (W : World) (B : Nat) (v : Value) (ys : List Int) (s : ByteArray) (h : Acc W B v ys) (hB : B ≤ W.heap.size) (hx : s.size ≤ 1099511627776) (hl : ys.length ≤ 1099511627776) :
    Calls Try.prog 28 #[v, .string s] W fun e w' => ∃ v', e = .returned v' ∧ Acc w' B v' (ys ++ (uenc s.size ++ bytesOf s)) ∧ Fr No W w' := by
  obtain ⟨A, c, rfl, hc⟩ := Win.shape h
  refine (PutText_any W A ys.length c s ys (RdV.of_win h) rfl (fun e => by subst e; exact Win.nil_cap h) hc (by omega)).mono ?_
  rintro e w' ⟨v', rfl, q1, q2⟩
  rw [List.append_assoc] at q1
  exact ⟨v', rfl, Acc.of (q1.lower hB), q2⟩
theorem rdv_at {w : World} {A : Option Addr} {α : Type} {f : α → Value} {l : List α} {i : Nat} {x : α} (h : RdV w A (l.map f)) (hx : l[i]? = some x) : ∃ ad, A = some ad ∧ w.cell? (ad.add i) = some (f x) := by
  obtain ⟨ad, e, hc⟩ := h (by intro h0; have h1 : l = [] := by simpa using h0
                              subst h1; simp at hx)
  exact ⟨ad, e, hc i _ (by simp [hx])⟩
theorem get_some' {α : Type} {xs : List α} {i : Nat} (h : i < xs.length) : ∃ x, xs[i]? = some x := ⟨_, List.getElem?_eq_getElem h⟩
theorem rdv_some {w : World} {ad : Addr} {α : Type} {f : α → Value} {l : List α} {i : Nat} {x : α} (h : RdV w (some ad) (l.map f)) (hx : l[i]? = some x) : w.cell? (ad.add i) = some (f x) := by
  obtain ⟨ad', e, hc⟩ := rdv_at h hx
  injection e with e
  subst e
  exact hc
theorem rd_some {w : World} {ad : Addr} {k : IntKind} {l : List Int} {i : Nat} {x : Int} (h : RdV w (some ad) (nums k l)) (hx : l[i]? = some x) : w.cell? (ad.add i) = some (.int k x) := rdv_some (f := Value.int k) h hx
/-- The cut's place. -/
theorem cut_place (a : Int) (n : Nat) (ha0 : -9223372036854775808 ≤ a) (ha1 : a ≤ 9223372036854775807) (hn : n ≤ 20000) :
    ∃ k : Nat, k ≤ n ∧ ((n = 0 ∧ k = 0) ∨ (0 < n ∧ k < n ∧ ((a.tmod n < 0 ∧ wrap64 (a.tmod n + n) = k) ∨ (0 ≤ a.tmod n ∧ a.tmod n = k)))) := by
  by_cases h0 : n = 0
  · exact ⟨0, by omega, .inl ⟨h0, rfl⟩⟩
  · have h1 : a.tmod n < n := Int.tmod_lt_of_pos a (by omega)
    have h2 : -(n : Int) < a.tmod n := by
      have h := Int.tmod_lt_of_pos (-a) (b := (n : Int)) (by omega)
      rw [Int.neg_tmod] at h
      omega
    by_cases h3 : a.tmod n < 0
    · refine ⟨(a.tmod n + n).toNat, by omega, .inr ⟨by omega, by omega, .inl ⟨h3, ?_⟩⟩⟩
      unfold wrap64
      omega
    · exact ⟨(a.tmod n).toNat, by omega, .inr ⟨by omega, by omega, .inr ⟨by omega, by omega⟩⟩⟩
/-- Both readers, made. -/
theorem two_start {w0 w1 w2 : World} {B g1 g2 k : Nat} {xs : List Int} (hB : B ≤ w0.heap.size) (h1 : Rdr w1 w0.heap.size g1 (xs.take k) 0 0) (f1 : Fr No w0 w1) (h2 : Rdr w2 w1.heap.size g2 xs 0 0) (f2 : Fr No w1 w2) : Two w2 B g1 g2 xs k 0 0 :=
  ⟨fun e => by have := h1.lt; have := h2.1; omega, ⟨0, 0, (h1.below f2.no).lower hB, .inr ⟨rfl, rfl⟩⟩, h2.lower (by have := f1.size; omega)⟩
def HidT (w wr : World) (g1 g2 : Nat) (xs : List Int) (k : Nat) (pre : List Int) : Prop := Two wr w.heap.size g1 g2 xs k pre.length pre.length ∧ Below w.heap.size w wr
theorem hidT_step {w wr : World} {g1 g2 k : Nat} {xs pre it : List Int} (h : Two wr w.heap.size g1 g2 xs k (pre.length + it.length) (pre.length + it.length)) (hb : Below w.heap.size w wr) : HidT w wr g1 g2 xs k (pre ++ it) :=
  ⟨by rw [List.length_append]; exact h, hb⟩
theorem text_small {us is xs : List Int} {ts : List ByteArray} (h : xs = bU us ++ bI is ++ bT ts) {i : Nat} {x : ByteArray} (hx : ts[i]? = some x) (hn : xs.length ≤ 20000) : x.size ≤ 20000 := by
  have h2 : bT ts = (bT (ts.take i)) ++ (uenc x.size ++ bytesOf x) ++ bT (ts.drop (i + 1)) := by unfold bT; rw [flat_split _ hx]
  rw [h, h2] at hn
  simp only [List.length_append, bytesOf_length] at hn
  omega
theorem split_u {us is xs : List Int} {ts : List ByteArray} (h : xs = bU us ++ bI is ++ bT ts) {i : Nat} {x : Int} (hx : us[i]? = some x) : ∃ post, xs = bU (us.take i) ++ uenc x.toNat ++ post := ⟨bU (us.drop (i + 1)) ++ bI is ++ bT ts, by rw [h]; unfold bU; rw [flat_split _ hx]; simp only [List.append_assoc]⟩
theorem split_i {us is xs : List Int} {ts : List ByteArray} (h : xs = bU us ++ bI is ++ bT ts) {i : Nat} {x : Int} (hx : is[i]? = some x) : ∃ post, xs = (bU us ++ bI (is.take i)) ++ uenc (Lib.zigzag x) ++ post := ⟨bI (is.drop (i + 1)) ++ bT ts, by rw [h]; unfold bI; rw [flat_split _ hx]; simp only [List.append_assoc]⟩
theorem split_t {us is xs : List Int} {ts : List ByteArray} (h : xs = bU us ++ bI is ++ bT ts) {i : Nat} {x : ByteArray} (hx : ts[i]? = some x) : ∃ post, xs = (bU us ++ bI is ++ bT (ts.take i)) ++ (uenc x.size ++ bytesOf x) ++ post := ⟨bT (ts.drop (i + 1)), by rw [h]; unfold bT; rw [flat_split _ hx]; simp only [List.append_assoc]⟩
end Go.Proofs.Ytchcimkmjoegdaa.C
namespace Go.Proofs.Ytchcimkmjoegdaa.C
open Go.RowKit Go.Proofs.YtchcimkmjoegdaaW.PrintWords Go.Proofs.YtchcimkmjoegdaaW.PrintMore Go.Proofs.Ytchcimkmjoegdaa.M
set_option linter.unusedVariables false
set_option linter.unusedSimpArgs false

/-- A sealed file's head with the lengths of its first i sections. -/
def hd (k : Int) (S : List (List Int)) (i : Nat) : List Int := [76, 84, 1, k] ++ uenc S.length ++ (S.take i).flatMap fun s => uenc s.length
def bodyS (k : Int) (S : List (List Int)) : List Int := hd k S S.length ++ S.flatten
theorem hd_succ {k : Int} {S : List (List Int)} {i : Nat} {s : List Int} (h : S[i]? = some s) : hd k S (i + 1) = hd k S i ++ uenc s.length := by
  unfold hd
  rw [List.take_add_one, h]
  simp
theorem hd_len (k : Int) (S : List (List Int)) (hs : S.length ≤ 1024) (hl : ∀ s ∈ S, s.length < M64) (i : Nat) : (hd k S i).length ≤ 20000 := by
  unfold hd
  have h1 := uenc_10 S.length (by omega)
  have h2 := flat_len (fun s : List Int => uenc s.length) 10 (S.take i) (fun x hx => uenc_10 _ (hl x (List.mem_of_mem_take hx)))
  rw [List.length_take] at h2
  simp only [List.length_append, List.length_cons, List.length_nil]
  omega
theorem hd_le (k : Int) (S : List (List Int)) (i : Nat) : (hd k S i).length ≤ (hd k S S.length).length := by
  unfold hd
  have e : S.take S.length = S.take i ++ S.drop i := by rw [List.take_length, List.take_append_drop]
  rw [e]
  simp only [List.length_append, List.flatMap_append]
  omega
theorem hd_byt {k : Int} (hk : 0 ≤ k ∧ k ≤ 255) (S : List (List Int)) (i : Nat) : Byt (hd k S i) := by
  unfold hd
  refine Byt.app (Byt.app ?_ (byt_uenc _)) (byt_flat (fun s : List Int => uenc s.length) (fun x => byt_uenc _) _)
  intro x hx
  simp only [List.mem_cons, List.mem_nil_iff, or_false] at hx
  rcases hx with rfl | rfl | rfl | rfl <;> omega
theorem byt_flatten {S : List (List Int)} (h : ∀ s ∈ S, Byt s) : Byt S.flatten := fun x hx => by
  obtain ⟨s, hs, hxs⟩ := List.mem_flatten.1 hx
  exact h s hs x hxs
theorem take_flatten_len (S : List (List Int)) (i : Nat) : (S.take i).flatten.length ≤ S.flatten.length := by
  have : S.flatten = (S.take i).flatten ++ (S.drop i).flatten := by rw [← List.flatten_append, List.take_append_drop]
  rw [this, List.length_append]
  omega
section
variable {P : Program} {ops : Array Oper} {rest : List Oper} {o : Oper} {a : Act} {Q : Exit → Act → World → Prop}
/-- An append that has no room: what it appends to is only read. -/
theorem wpl_append_new (w : World) (hgd : o.guard = none) (s x : Operand) (t tx e : TypeId) (z : Value) (size bytes : Nat) (dx : TypeDesc)
    (ho : o.op = .call { callee := .builtin .append, args := #[s, x], argTypes := #[t, tx] })
    (ht : P.underlying t = some (.slice e)) (htx : P.underlying tx = some dx) (hnx : (∃ q, dx = .slice q) ∨ dx = .string) (hinfo : (P.info? e).map (fun i => (i.zero, i.size, i.bytes)) = some (some z, size, bytes)) (hzs : z.cells.size = size)
    (A : Option Addr) (n c : Nat) (xs : List Value) (y : Value) (m : Nat) (news : List Value) (hs : a.eval s = .slice A n c) (hx : a.eval x = y)
    (HR : RdV w A xs) (hxl : xs.length = n * size) (HS : Src P w size y m news) (hroom : c < n + m) (hm : n + m ≤ maxLen) (hl : (n + m + (n + m) / 4 + 700) * bytes ≤ 281474976710656)
    (h : ∀ v1 w1, Win w1 w.heap.size e size v1 (n + m) (xs ++ news) → Fr No w w1 → wpList P ops Q rest (a.put o.dst v1) w1) :
    wpList P ops Q (o :: rest) a w := by
  obtain ⟨i0, hi, hzz⟩ := Option.map_eq_some_iff.1 hinfo
  simp only [Prod.mk.injEq] at hzz
  obtain ⟨hz0, hz1, hz2⟩ := hzz
  subst hz1
  subst hz2
  have hr := run_append_new (ty := o.type) w ht htx hnx hi hz0 A n c m xs HR hxl y news HS hroom (by simp only [maxLen] at hm; omega) hl
  have hge := grownCap_ge w (n + m) c e
  have hcm : grownCap w (n + m) c e ≤ maxLen := grownCap_le_maxLen w (n + m) c e hm
  have hlen : (xs ++ news).length = (n + m) * i0.size := by rw [List.length_append, hxl, HS.len, Nat.add_mul]
  refine wpList_plain hgd fun K hK => ?_
  unfold Oper.wp execOp
  simp only [ho, resolve, invoke, builtin, Sem.run_bind, Sem.run_pure, Result.andThen_ok, List.map_toArray, List.map_cons, List.map_nil, hs, hx, hr]
  refine hK _ _ (h _ _ ⟨hlen, .inr ⟨w.heap.size, 0, _, _, rfl, Nat.le_refl _, heap_alloc_new w.drew _, hge, hcm, ?_, ?_⟩⟩ ⟨rfl, rfl, rfl, by simp, fun k hk _ => Go.heap_alloc_old w.drew _ hk⟩)
  · simp only [Array.size_append, List.size_toArray, size_zeroCells, hzs, hxl, HS.len, ← Nat.add_mul]
    have : n + m + (grownCap w (n + m) c e - (n + m)) = grownCap w (n + m) c e := by omega
    rw [this]
    omega
  · simp only [Array.toList_append, List.append_assoc, List.drop_zero]
    rw [← List.append_assoc, ← hlen]
    exact List.take_left
end
/-- A row that is read, whatever its mark. -/
theorem rd_row (w : World) (k : IntKind) (t : TypeId) (xs : List Int) (fr : Nat × Nat) : RdV (w.alloc (.cells (nums k xs).toArray t fr)) (some ⟨w.heap.size, 0, none⟩) (nums k xs) :=
  fun _ => ⟨_, rfl, by simpa using World.news_of_block (cs := (nums k xs).toArray) (t := t) (fr := fr) (heap_alloc_new w (.cells (nums k xs).toArray t fr))⟩
end Go.Proofs.Ytchcimkmjoegdaa.C
namespace Go.Proofs.Ytchcimkmjoegdaa.C
open Go.RowKit Go.Proofs.YtchcimkmjoegdaaW.PrintWords Go.Proofs.YtchcimkmjoegdaaW.PrintMore Go.Proofs.Ytchcimkmjoegdaa.M
set_option linter.unusedVariables false
set_option linter.unusedSimpArgs false

theorem take_flatten_succ {S : List (List Int)} {i : Nat} {s : List Int} (h : S[i]? = some s) : (S.take (i + 1)).flatten = (S.take i).flatten ++ s := by
  rw [List.take_add_one, h]
  simp
end Go.Proofs.Ytchcimkmjoegdaa.C
namespace Go.Proofs.Ytchcimkmjoegdaa.M
open Go.RowKit Go.Proofs.YtchcimkmjoegdaaW.PrintWords

/-- Where an append leaves its value: in place, or in a new block. -/
def Grew (w w' : World) (v v' : Value) (n m : Nat) : Prop :=
  (∃ A c, v = .slice A n c ∧ v' = .slice A (n + m) c) ∨ (Fr No w w' ∧ ∃ c, v' = .slice (some ⟨w.heap.size, 0, none⟩) (n + m) c)
theorem run_append_win2 {P : Program} (w : World) (base : Nat) (t tx ty e : TypeId) (i : TypeInfo) (z : Value) (dx : TypeDesc) (ht : P.underlying t = some (.slice e)) (htx : P.underlying tx = some dx) (hnx : (∃ q, dx = .slice q) ∨ dx = .string) (hi : P.info? e = some i) (hz : i.zero = some z)
    (hzs : z.cells.size = i.size) (v : Value) (n : Nat) (xs : List Value) (hw : Win w base e i.size v n xs) (x : Value) (m : Nat) (news : List Value) (hs : Src P w i.size x m news)
    (h63 : n + m ≤ maxLen) (hbytes : (n + m + (n + m) / 4 + 700) * i.bytes ≤ 281474976710656) (hbase : base ≤ w.heap.size) :
    ∃ v' w', (Builtin.append_ #[t, tx] ty #[v, x]).run P w = .ok v' w' ∧ Win w' base e i.size v' (n + m) (xs ++ news) ∧ Fr (At v) w w' ∧ Grew w w' v v' n m := by
  have hsmall : n + m ≤ 9223372036854775807 := by simp only [maxLen] at h63; omega
  obtain ⟨v', w', hr, h1, _, h3, h4⟩ := run_append_win (P := P) w base t tx ty e i z dx ht htx hnx hi hz hzs v n xs hw x m news hs h63 hbytes hbase
  refine ⟨v', w', hr, h1, h3, ?_⟩
  obtain ⟨A, c, rfl, hnc⟩ := hw.shape
  by_cases hroom : n + m ≤ c
  · left
    rcases hw.2 with ⟨rfl, A', he⟩ | ⟨g, off, cap, cur, he, hbg, hg, _, hcm, hcs, ht'⟩
    · injection he with e1 _ e3
      subst e1; subst e3
      have hm0 : m = 0 := by omega
      subst hm0
      have hn : news = [] := List.eq_nil_of_length_eq_zero (by rw [hs.len, Nat.zero_mul])
      subst hn
      have hr2 := run_append_stays (ty := ty) w ht htx hnx hi A 0 0 0 x [] hs hroom w (fun a _ => rfl) (fun _ => rfl)
      rw [hr] at hr2
      injection hr2 with hv _
      exact ⟨A, 0, rfl, hv⟩
    · injection he with e1 _ e3
      subst e1; subst e3
      have hfit : off + n * i.size + 0 + news.length ≤ cur.size := by
        have : (n + m) * i.size ≤ c * i.size := Nat.mul_le_mul_right _ hroom
        rw [Nat.add_mul] at this
        rw [hs.len]
        omega
      have hst := run_storeCells_at P g (off + n * i.size) e news 0 cur w hg hfit hs.one
      simp only [Nat.add_zero] at hst
      have hr2 := run_append_stays (ty := ty) w ht htx hnx hi (some ⟨g, off, none⟩) n c m x news hs hroom _ (fun a ha => by injection ha with ha; subst ha; rw [add_at]; exact hst) (fun h => by cases h)
      rw [hr] at hr2
      injection hr2 with hv _
      exact ⟨_, _, rfl, hv⟩
  · right
    have hr2 := run_append_new (ty := ty) w ht htx hnx hi hz A n c m xs (RdV.of_win hw) hw.1 x news hs (by omega) hsmall hbytes
    rw [hr] at hr2
    injection hr2 with hv hw'
    subst hw'
    exact ⟨⟨rfl, rfl, rfl, by simp, fun k hk _ => Go.heap_alloc_old w.drew _ hk⟩, _, hv⟩
section
variable {P : Program} {ops : Array Oper} {rest : List Oper} {o : Oper} {a : Act} {Q : Exit → Act → World → Prop} {K : Act → World → Prop}
theorem wpl_append1b (w : World) (base : Nat) (hgd : o.guard = none) (s x : Operand) (t e : TypeId) (z : Value) (size bytes : Nat)
    (ho : o.op = .call { callee := .builtin .append, args := #[s, x], argTypes := #[t, t] })
    (ht : P.underlying t = some (.slice e)) (hinfo : (P.info? e).map (fun i => (i.zero, i.size, i.bytes)) = some (some z, size, bytes)) (hzs : z.cells.size = size)
    (v : Value) (n : Nat) (xs ys : List Value) (hs : a.eval s = v) (hx : a.eval x = .slice (some ⟨w.heap.size, 0, none⟩) 1 1)
    (HW : Win w base e size v n xs) (hys : ys.length = size) (h1 : ∀ u ∈ ys, u.oneCell' = true) (hbase : base ≤ w.heap.size) (hm : n + 1 ≤ maxLen) (hl : (n + 1 + (n + 1) / 4 + 700) * bytes ≤ 281474976710656)
    (h : ∀ v1 w1, Win w1 base e size v1 (n + 1) (xs ++ ys) → Fr (At v) w w1 → ((∃ A c, v = .slice A n c ∧ v1 = .slice A (n + 1) c) ∨ (Fr No w w1 ∧ ∃ c, v1 = .slice (some ⟨w.heap.size + 1, 0, none⟩) (n + 1) c)) → wpList P ops Q rest (a.put o.dst v1) w1) :
    wpList P ops Q (o :: rest) a (w.alloc (.cells ys.toArray e)) := by
  obtain ⟨i0, hi, hzz⟩ := Option.map_eq_some_iff.1 hinfo
  simp only [Prod.mk.injEq] at hzz
  obtain ⟨hz0, hz1, hz2⟩ := hzz
  subst hz1
  subst hz2
  have hsrc : Src P (w.alloc (.cells ys.toArray e)) i0.size (.slice (some ⟨w.heap.size, 0, none⟩) 1 1) 1 ys := Src.of_rd (fun _ => ⟨_, rfl, by simpa using World.news_of_block (cs := ys.toArray) (t := e) (fr := (0, 0)) (heap_alloc_new w (.cells ys.toArray e))⟩) (by omega) h1
  obtain ⟨v1, w1, hr, g1, g3, g4⟩ := run_append_win2 (P := P) (w.alloc (.cells ys.toArray e)) base t t o.type e i0 z (.slice e) ht ht (.inl ⟨_, rfl⟩) hi hz0 hzs v n xs (HW.below (below_alloc (Below.refl _ _) _)) _ 1 ys hsrc hm hl (by simp; omega)
  refine wpList_plain hgd fun K hK => ?_
  unfold Oper.wp execOp
  simp only [ho, resolve, invoke, builtin, Sem.run_bind, Sem.run_pure, Result.andThen_ok, List.map_toArray, List.map_cons, List.map_nil, hs, hx, hr]
  refine hK _ _ (h v1 w1 g1 ((Fr.alloc (S := At v) w _).trans g3 (fun _ _ h => h) (fun _ _ h => h)) ?_)
  rcases g4 with g4 | ⟨g4, c, g5⟩
  · exact .inl g4
  · exact .inr ⟨(Fr.alloc (S := No) w _).trans g4 (fun _ _ h => h) (fun _ _ h => h), c, by simpa using g5⟩
end
section
variable {w w' : World} {base n c g off : Nat} {e : TypeId} {xs : List Value}
/-- A cell of a window: it is there, and may be written. -/
theorem Win.cell (h : Win w base e 1 (.slice (some ⟨g, off, none⟩) n c) n xs) {j : Nat} {u : Value} (hj : xs[j]? = some u) : w.cell? ⟨g, off + j, none⟩ = some u ∧ w.frozen? ⟨g, off + j, none⟩ = false := by
  rcases h.2 with ⟨h0, A, he⟩ | ⟨g', off', cap, cur, he, hg, hh, hnc, hm, hcs, ht⟩
  · have : xs = [] := List.eq_nil_of_length_eq_zero (by rw [h.1, h0, Nat.zero_mul])
    subst this
    simp at hj
  · injection he with ha _ hc
    injection ha with ha
    injection ha with h1 h2
    subst h1; subst h2; subst hc
    constructor
    · rw [cell_of_row w g _ cur e (0, 0) hh]
      rw [← ht, List.getElem?_take] at hj
      split at hj
      · rw [List.getElem?_drop] at hj
        rw [← Array.getElem?_toList]
        exact hj
      · cases hj
    · simp [World.frozen?, hh]
/-- A cell of a window written. -/
theorem Win.store (h : Win w base e 1 (.slice (some ⟨g, off, none⟩) n c) n xs) (j : Nat) (hj : j < n) (u : Value) : Win (w.setCell ⟨g, off + j, none⟩ u) base e 1 (.slice (some ⟨g, off, none⟩) n c) n (xs.set j u) ∧ Fr (At (.slice (some ⟨g, off, none⟩) n c)) w (w.setCell ⟨g, off + j, none⟩ u) := by
  rcases h.2 with ⟨h0, A, he⟩ | ⟨g', off', cap, cur, he, hg, hh, hnc, hm, hcs, ht⟩
  · omega
  · injection he with ha _ hc
    injection ha with ha
    injection ha with h1 h2
    subst h1; subst h2; subst hc
    refine ⟨⟨by rw [List.length_set]; exact h.1, .inr ⟨g, off, c, cur.setIfInBounds (off + j) u, rfl, hg, ?_, hnc, hm, by simpa using hcs, ?_⟩⟩, Fr.setCell w _ u (rb_slice _ _ _ (by omega))⟩
    · simp [World.setCell, Array.getElem?_modify, hh]
    · rw [← ht, Array.toList_setIfInBounds, Nat.mul_one]
      apply List.ext_getElem?
      intro q
      simp only [List.getElem?_take, List.getElem?_drop, List.getElem?_set, List.length_take, List.length_drop, Array.length_toList]
      by_cases hq : q < n
      · by_cases hqj : j = q
        · subst hqj
          rw [if_pos hq, if_pos rfl, if_pos (by omega), if_pos rfl, if_pos (by omega)]
        · rw [if_pos hq, if_neg (by omega), if_neg hqj, if_pos hq]
      · rw [if_neg hq, if_neg (by omega), if_neg hq]
end
end Go.Proofs.Ytchcimkmjoegdaa.M
namespace Go.Proofs.Ytchcimkmjoegdaa.M
open Go.RowKit Go.Proofs.YtchcimkmjoegdaaW.PrintWords
theorem step_append {P : Program} {ops : Array Oper} {o : Oper} {a : Act} {K : Act → World → Prop} {Q : Exit → Act → World → Prop} {E : Prop} (w : World) (base : Nat) (hgd : o.guard = none) (s x : Operand) (t tx e : TypeId) (z : Value) (size bytes : Nat) (dx : TypeDesc)
    (ho : o.op = .call { callee := .builtin .append, args := #[s, x], argTypes := #[t, tx] })
    (ht : P.underlying t = some (.slice e)) (htx : P.underlying tx = some dx) (hnx : (∃ q, dx = .slice q) ∨ dx = .string) (hinfo : (P.info? e).map (fun i => (i.zero, i.size, i.bytes)) = some (some z, size, bytes)) (hzs : z.cells.size = size)
    (v : Value) (n : Nat) (xs : List Value) (y : Value) (m : Nat) (news : List Value) (hs : a.eval s = v) (hx : a.eval x = y)
    (HW : Win w base e size v n xs) (HS : Src P w size y m news) (hbase : base ≤ w.heap.size) (hm : n + m ≤ maxLen) (hl : (n + m + (n + m) / 4 + 700) * bytes ≤ 281474976710656)
    (h : ∀ v1 w1, Win w1 base e size v1 (n + m) (xs ++ news) → Win w1 base e size v n xs → Fr (At v) w w1 → (rb v1 = rb v ∨ rb v1 = some w.heap.size) → K (a.put o.dst v1) w1) :
    if Region.wanted o (yielded ops a.tmps) = true then Oper.wp P o a w K Q else E := by
  have hw : Region.wanted o (yielded ops a.tmps) = true := by simp [Region.wanted, hgd]
  rw [if_pos hw]
  exact wp_append w base s x t tx e z size bytes dx ho ht htx hnx hinfo hzs v n xs y m news hs hx HW HS hbase hm hl h
end Go.Proofs.Ytchcimkmjoegdaa.M
namespace Go.Proofs.Ytchcimkmjoegdaa.C
open Go.RowKit Go.Proofs.YtchcimkmjoegdaaW.PrintWords Go.Proofs.YtchcimkmjoegdaaW.PrintMore Go.Proofs.Ytchcimkmjoegdaa.M
set_option linter.unusedVariables false
set_option linter.unusedSimpArgs false

theorem rS_max {ys : List Int} {i : Nat} {e m : Int} (hm : 0 ≤ m) : ((rS ys i e m).1 : Int) ≤ m := by
  unfold rS
  split
  · split
    · exact hm
    · split
      · assumption
      · exact hm
  · exact hm
theorem info3 : (Try.prog.info? 3).map (fun i => (i.zero, i.size, i.bytes)) = some (some (.int .i64 0), 1, 8) := by kernel_rfl
theorem info22 : (Try.prog.info? 22).map (fun i => (i.zero, i.size, i.bytes)) = some (some (.slice none 0 0), 1, 24) := by kernel_rfl
theorem lit_winT (w : World) (t : TypeId) (xs : List Value) (hx : xs.length ≤ 1048576) : Win (w.alloc (.cells xs.toArray t)) w.heap.size t 1 (.slice (some ⟨w.heap.size, 0, none⟩) xs.length xs.length) xs.length xs :=
  ⟨by rw [Nat.mul_one], .inr ⟨w.heap.size, 0, xs.length, _, rfl, Nat.le_refl _, heap_alloc_new w _, Nat.le_refl _, by simp only [maxLen]; omega, by simp, by simp⟩⟩
theorem make_ints (W : World) (K : Nat) (hK : K ≤ 1048576) : (Instr.makeSlice 99 (.int .i64 (K : Int)) (.int .i64 (K : Int))).run Try.prog W = .ok (.slice (some ⟨W.heap.size, 0, none⟩) K K) (W.alloc (.cells (nums .i64 (List.replicate K 0)).toArray 3)) := by
  obtain ⟨i0, hi, hz, hs, hb⟩ := info_parts info3
  have h := run_makeSlice (P := Try.prog) W 99 3 i0 (.int .i64 0) Try.underlying99 hi hz .i64 .i64 K K (by omega) (Int.le_refl _) (by rw [hs]; simp; omega) (by rw [hb]; omega) (by omega)
  rw [hs, Nat.mul_one, Int.toNat_natCast] at h
  rw [h]
  have e : madeCells (Value.cells (.int .i64 0)) K = (nums .i64 (List.replicate K 0)).toArray := by
    apply Array.ext
    · simp [madeCells, nums]
    · intro j h1 h2
      simp [madeCells, nums, Value.cells, Nat.mod_one]
  rw [e]
/-- A reader's predicate: whose block it is, and what leaves it alone. -/
structure RdP (g : Nat) (R : World → Nat → Int → Prop) : Prop where
  fr : ∀ {S : Nat → Prop} {W W' : World} {i : Nat} {e : Int}, R W i e → Fr S W W' → ¬ S g → (∀ k cur, S k → W.heap[k]? ≠ some (.cells cur 5 (0, 0))) → R W' i e
  ty : ∀ {W : World} {i : Nat} {e : Int}, R W i e → ∃ cur t, W.heap[g]? = some (.cells cur t (0, 0)) ∧ t ≠ 5 ∧ t ≠ 22 ∧ t ≠ 3
theorem rdP_cod (base g : Nat) (ys : List Int) : RdP g (fun W i e => Rdr W base g ys i e) :=
  ⟨fun h f hg hS => h.fr f hg hS, fun h => by
    obtain ⟨_, _, v, h3, _⟩ := h
    exact ⟨_, _, h3, by decide, by decide, by decide⟩⟩
theorem rdP_mod (g : Nat) (v : Value) : RdP g (fun W i e => W.heap[g]? = some (.cells #[v, .int .i64 (i : Nat), .int .i64 e] 67 (0, 0))) :=
  ⟨fun h f hg _ => f.get h hg, fun h => ⟨_, _, h, by decide, by decide, by decide⟩⟩
/-- A window whose type is not a block's. -/
theorem win_not_at {w : World} {base size n t e : Nat} {v : Value} {xs : List Value} {cur : Array Value} {g : Nat} (h : Win w base e size v n xs) (hg : w.heap[g]? = some (.cells cur t (0, 0))) (ht : t ≠ e) : ¬ At v g := fun hk => ht (h.ne_type hk hg).symm
section
variable {g base : Nat} {R : World → Nat → Int → Prop} {w W W1 W2 : World}
end
end Go.Proofs.Ytchcimkmjoegdaa.C
namespace Go.Proofs.Ytchcimkmjoegdaa.C
open Go.RowKit Go.Proofs.YtchcimkmjoegdaaW.PrintWords Go.Proofs.YtchcimkmjoegdaaW.PrintMore Go.Proofs.Ytchcimkmjoegdaa.M
set_option linter.unusedVariables false

theorem rS_full (pre post : List Int) (u : Nat) (m : Int) (h : u < M64) (hm : (u : Int) ≤ m) : rS (pre ++ uenc u ++ post) pre.length 0 m = (u, pre.length + (uenc u).length, 0) := by
  rw [rS, if_pos rfl, List.append_assoc, List.drop_left, num_uenc u post h]
  simp only
  rw [if_pos hm]
theorem rB_full (pre post s : List Int) : rB (pre ++ s ++ post) pre.length 0 (s.length : Nat) = (s, pre.length + s.length, 0) := by
  rw [rB, if_pos rfl, if_pos ⟨by omega, by simp only [List.length_append]; omega⟩, List.append_assoc, List.drop_left, Int.toNat_natCast, List.take_left]
/-- The lengths' forms. -/
def lens (S : List (List Int)) : List Int := S.flatMap fun s => uenc s.length
theorem lens_take {S : List (List Int)} {i : Nat} {s : List Int} (h : S[i]? = some s) : lens (S.take (i + 1)) = lens (S.take i) ++ uenc s.length := flat_take _ h
theorem body_split (k : Int) (S : List (List Int)) : bodyS k S = [76, 84, 1, k] ++ (uenc S.length ++ lens S ++ S.flatten) := by
  unfold bodyS hd lens
  rw [List.take_length]
  simp only [List.append_assoc]
theorem mem_len_le {S : List (List Int)} {s : List Int} (h : s ∈ S) : s.length ≤ S.flatten.length := by
  obtain ⟨i, hi⟩ := List.getElem?_of_mem h
  have := take_flatten_len S (i + 1)
  rw [take_flatten_succ hi, List.length_append] at this
  omega
theorem rS_inv {xs : List Int} {i : Nat} {e m : Int} (hb : Byt xs) (h : (rS xs i e m).2.2 = 0) : e = 0 ∧ xs.take (rS xs i e m).2.1 = xs.take i ++ uenc (rS xs i e m).1 := by
  unfold rS at h ⊢
  by_cases he : e = 0
  · subst he
    simp only [if_true] at h ⊢
    rcases hq : num (xs.drop i) with _ | ⟨u, n⟩
    · rw [hq] at h
      exact absurd (show (20 : Int) = 0 from h) (by decide)
    · rw [hq] at h
      simp only at h ⊢
      by_cases hm : (u : Int) ≤ m
      · rw [if_pos hm]
        refine ⟨trivial, ?_⟩
        rw [num_enc (fun x hx => hb x (List.mem_of_mem_drop hx)) hq]
        exact List.take_add
      · rw [if_neg hm] at h
        exact absurd (show (20 : Int) = 0 from h) (by decide)
  · rw [if_neg he] at h
    exact absurd h he
theorem rB_inv {xs : List Int} {i z : Nat} {e : Int} (h : (rB xs i e (z : Nat)).2.2 = 0) : e = 0 ∧ xs.take (rB xs i e (z : Nat)).2.1 = xs.take i ++ (rB xs i e (z : Nat)).1 ∧ (rB xs i e (z : Nat)).1.length = z := by
  unfold rB at h ⊢
  by_cases he : e = 0
  · subst he
    simp only [if_true] at h ⊢
    by_cases hm : (0 : Int) ≤ (z : Int) ∧ (i : Int) + (z : Int) ≤ xs.length
    · rw [if_pos hm, Int.toNat_natCast]
      refine ⟨trivial, List.take_add, ?_⟩
      simp only [List.length_take, List.length_drop]
      omega
    · rw [if_neg hm] at h
      exact absurd (show (20 : Int) = 0 from h) (by decide)
  · rw [if_neg he] at h
    exact absurd h he
end Go.Proofs.Ytchcimkmjoegdaa.C
namespace Go.Proofs.Ytchcimkmjoegdaa.C
open Go.RowKit Go.Proofs.YtchcimkmjoegdaaW.PrintWords Go.Proofs.YtchcimkmjoegdaaW.PrintMore Go.Proofs.Ytchcimkmjoegdaa.M
set_option linter.unusedVariables false
set_option linter.unusedSimpArgs false

theorem rdv_lit_at (w : World) (t : TypeId) (xs : List Value) {g : Nat} (h : g = w.heap.size) : RdV (w.alloc (.cells xs.toArray t)) (some ⟨g, 0, none⟩) xs := by
  subst h
  exact fun _ => ⟨_, rfl, by simpa using World.news_of_block (cs := xs.toArray) (t := t) (fr := (0, 0)) (heap_alloc_new w (.cells xs.toArray t))⟩
theorem rd_row_at (w : World) (k : IntKind) (t : TypeId) (xs : List Int) (fr : Nat × Nat) {g : Nat} (h : g = w.heap.size) : RdV (w.alloc (.cells (nums k xs).toArray t fr)) (some ⟨g, 0, none⟩) (nums k xs) := by
  subst h
  exact rd_row w k t xs fr
def AwS : List (List Int) := [[5, 6], [], [7]]
def AwC : List Int := [76, 84, 1, 1, 3, 2, 0, 1, 5, 6, 7]
def b9 : List Int := [49, 50, 51, 52, 53, 54, 55, 56, 57]
theorem aw_body : bodyS 1 AwS = AwC := by
  rw [body_split]
  show [76, 84, 1, 1] ++ (uenc 3 ++ (uenc 2 ++ (uenc 0 ++ (uenc 1 ++ []))) ++ [5, 6, 7]) = AwC
  rw [uenc_small (by decide), uenc_small (by decide), uenc_small (by decide), uenc_small (by decide)]
  rfl
theorem byt_dec {l : List Int} (h : l.all (fun x => decide (0 ≤ x) && decide (x ≤ 255)) = true) : Byt l := fun x hx => by
  have := List.all_eq_true.1 h x hx
  simpa using this
theorem aw_bytC : Byt AwC := byt_dec (by decide)
theorem aw_len {B : List (Value × List Int)} (h : AwS = B.map Prod.snd) : B.length = 3 := by have := congrArg List.length h; rw [List.length_map] at this; exact this.symm
theorem aw_small {B : List (Value × List Int)} (h : AwS = B.map Prod.snd) : ∀ p ∈ B, p.2.length ≤ 140737488355328 ∧ Byt p.2 := fun p hp => by
  have hm : p.2 ∈ AwS := by rw [h]; exact List.mem_map.2 ⟨p, hp, rfl⟩
  simp only [AwS, List.mem_cons, List.mem_nil_iff, or_false] at hm
  rcases hm with e | e | e <;> rw [e] <;> exact ⟨by decide, byt_dec (by decide)⟩
theorem fr3 (w : World) (a b c : Obj) : Fr No w (((w.alloc a).alloc b).alloc c) := Fr.of_No (accAlloc (accAlloc (accAlloc (Below.refl _ _) (Nat.le_refl _) a) (Nat.le_refl _) b) (Nat.le_refl _) c)
theorem frt {a b c : World} (h : Fr No a b) (k : Fr No b c) : Fr No a c := h.trans k (fun _ _ h => h) (fun _ _ h => h)
end Go.Proofs.Ytchcimkmjoegdaa.C
