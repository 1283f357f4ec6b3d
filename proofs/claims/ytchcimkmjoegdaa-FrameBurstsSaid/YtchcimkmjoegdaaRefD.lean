/- The reference's reader of chapter 2: Text. Conditions: the lengths' bounds. -/
import Derived.Test.YtchcimkmjoegdaaRefC
namespace Go.Proofs.Ytchcimkmjoegdaa.C
open Go.RowKit Go.Proofs.YtchcimkmjoegdaaW.PrintWords Go.Proofs.YtchcimkmjoegdaaW.PrintMore Go.Proofs.Ytchcimkmjoegdaa.M
set_option linter.unusedVariables false
set_option linter.unusedSimpArgs false
section
variable (w : World) (g : Nat) (A : Option Addr) (n c : Nat) (xs : List Int) (i : Nat) (e : Int)

set_option maxRecDepth 100000 in
set_option maxHeartbeats 400000 in
theorem mText_nil (w : World) (most : Int) : Calls Try.prog 89 #[.pointer none, .int .i64 most] w fun e w' => e = .returned (.string ByteArray.empty) ∧ w' = w := by
  go_enter Try.func89, Try.ntmps89
  go_wp2_with fail
  go_ret
  exact ⟨rfl, rfl⟩
set_option maxRecDepth 100000 in
set_option maxHeartbeats 400000 in
theorem mText_err (h : w.heap[g]? = some (.cells #[.slice A n c, .int .i64 i, .int .i64 e] 67 (0, 0))) (he : e ≠ 0) (most : Int) : Calls Try.prog 89 #[.pointer (some ⟨g, 0, none⟩), .int .i64 most] w fun e' w' => e' = .returned (.string ByteArray.empty) ∧ w' = w := by
  obtain ⟨c0, c1, c2, f1, f2⟩ := t3_cells h
  have heb : (e != 0) = true := by simp [he]
  clear h he
  go_enter Try.func89, Try.ntmps89
  go_wp2_with fail
  go_ret
  exact ⟨rfl, rfl⟩
set_option maxRecDepth 100000 in
set_option maxHeartbeats 8000000 in
theorem mText_none (h : w.heap[g]? = some (.cells #[.slice A n c, .int .i64 i, .int .i64 0] 67 (0, 0))) (hr : RdV w A (nums .u8 xs)) (hl : xs.length = n) (hi : i ≤ n) (hc : n ≤ c) (hn : n ≤ 140737488355328) (hb : Byt xs) (most : Int) (hq : num (xs.drop i) = none) : Calls Try.prog 89 #[.pointer (some ⟨g, 0, none⟩), .int .i64 most] w fun e' w' => e' = .returned (.string ByteArray.empty) ∧ w'.heap[g]? = some (.cells #[.slice A n c, .int .i64 i, .int .i64 20] 67 (0, 0)) ∧ Fr (One g) w w' := by
  obtain ⟨c0, c1, c2, f1, f2⟩ := t3_cells h
  obtain ⟨i0, hi0, _, hsz, _⟩ := info_parts info5
  obtain ⟨A', hcut, hrd, _⟩ := cut_rd (P := Try.prog) 22 5 .i64 Try.underlying22 hi0 hsz A n c i hi
  have HRD := Aside0.mk (nums_drop .u8 xs i ▸ hrd w (nums .u8 xs) hc (by simp [nums, hl]) hr)
  have hkk : ∀ u k, num (xs.drop i) = some (u, k) → i + k ≤ n ∧ 0 < k := fun u k h => by
    have := numK_le 10 _ u k h
    simp at this
    omega
  have HN := Aside0.mk (mNum w.drew A' (n - i) (c - i) (xs.drop i) HRD.out.drew (by simp [hl]) (by omega) (by omega) (fun x hx => hb x (List.mem_of_mem_drop hx)) _ hq)
  simp only [Option.getD] at HN
  have H := Aside0.mk h
  have HRA := Aside0.mk hr
  clear h hr hi0 hsz hrd hkk hb
  go_enter Try.func89, Try.ntmps89
  go_wp2_with fail
  go_region_held3 (fun w' => w'.cell? ⟨g, 0, none⟩ = some (.slice A n c) ∧ w'.cell? ⟨g, 1, none⟩ = some (.int .i64 (i : Int))) ((first | exact ⟨by simpa using c0, by simpa using c1⟩ | exact ⟨by assumption, by assumption⟩)) (first | (go_at_call 113; refine HN.out.mono ?_; rintro e w1 ⟨rfl, hf⟩; have hc0 := pw_cell_below hf.no (show w.drew.cell? ⟨g, 0, none⟩ = some (.slice A n c) by simpa using c0); have hc1 := pw_cell_below hf.no (show w.drew.cell? ⟨g, 1, none⟩ = some (.int .i64 (i : Int)) by simpa using c1); have HF := Aside0.mk (show Fr No w w1 from (Fr.of_below (below_drew (Below.refl _ _)) No).trans hf (fun _ _ h => h) (fun _ _ h => h)); clear hf))
  have H1 := Aside0.mk (HF.out.get H.out (fun h => h))
  obtain ⟨_, _, _, f1', f2'⟩ := t3_cells H1.out
  clear c0 c1 c2 f1 f2 hcut
  go_wp2_with fail
  have hw1 : RdV w1 A (nums .u8 xs) := HRA.out.below HF.out.no
  obtain ⟨c0, c1, c2, f1, f2⟩ := t3_cells H1.out
  go_quiet (fail)
  go_wp2_with fail
  go_ret
  have H2 := H1.out
  exact ⟨rfl, t3_set2 (w := w1.drewN _) H1.out, (HF.out.trans (Fr.drewN w1 _) (fun _ _ h => h) (fun _ _ h => h)).trans (Fr.setCell (S := One g) _ _ _ rfl) (fun _ _ h => h.elim) (fun _ _ h => h)⟩
set_option maxRecDepth 100000 in
set_option maxHeartbeats 8000000 in
theorem mText_neg (h : w.heap[g]? = some (.cells #[.slice A n c, .int .i64 i, .int .i64 0] 67 (0, 0))) (hr : RdV w A (nums .u8 xs)) (hl : xs.length = n) (hi : i ≤ n) (hc : n ≤ c) (hn : n ≤ 140737488355328) (hb : Byt xs) (most : Int) (u k : Nat) (hm : most < 0) (hq : num (xs.drop i) = some (u, k)) : Calls Try.prog 89 #[.pointer (some ⟨g, 0, none⟩), .int .i64 most] w fun e' w' => e' = .returned (.string ByteArray.empty) ∧ w'.heap[g]? = some (.cells #[.slice A n c, .int .i64 i, .int .i64 20] 67 (0, 0)) ∧ Fr (One g) w w' := by
  obtain ⟨c0, c1, c2, f1, f2⟩ := t3_cells h
  obtain ⟨i0, hi0, _, hsz, _⟩ := info_parts info5
  obtain ⟨A', hcut, hrd, _⟩ := cut_rd (P := Try.prog) 22 5 .i64 Try.underlying22 hi0 hsz A n c i hi
  have HRD := Aside0.mk (nums_drop .u8 xs i ▸ hrd w (nums .u8 xs) hc (by simp [nums, hl]) hr)
  have hkk : ∀ u k, num (xs.drop i) = some (u, k) → i + k ≤ n ∧ 0 < k := fun u k h => by
    have := numK_le 10 _ u k h
    simp at this
    omega
  have HN := Aside0.mk (mNum w.drew A' (n - i) (c - i) (xs.drop i) HRD.out.drew (by simp [hl]) (by omega) (by omega) (fun x hx => hb x (List.mem_of_mem_drop hx)) _ hq)
  simp only [Option.getD] at HN
  have H := Aside0.mk h
  obtain ⟨hk, hk0⟩ := hkk u k hq
  clear hq
  have hkb : ((k : Int) == 0) = false := by simp; omega
  have HRA := Aside0.mk hr
  clear h hr hi0 hsz hrd hkk hb
  go_enter Try.func89, Try.ntmps89
  go_wp2_with fail
  go_region_held3 (fun w' => w'.cell? ⟨g, 0, none⟩ = some (.slice A n c) ∧ w'.cell? ⟨g, 1, none⟩ = some (.int .i64 (i : Int))) ((first | exact ⟨by simpa using c0, by simpa using c1⟩ | exact ⟨by assumption, by assumption⟩)) (first | (go_at_call 113; refine HN.out.mono ?_; rintro e w1 ⟨rfl, hf⟩; have hc0 := pw_cell_below hf.no (show w.drew.cell? ⟨g, 0, none⟩ = some (.slice A n c) by simpa using c0); have hc1 := pw_cell_below hf.no (show w.drew.cell? ⟨g, 1, none⟩ = some (.int .i64 (i : Int)) by simpa using c1); have HF := Aside0.mk (show Fr No w w1 from (Fr.of_below (below_drew (Below.refl _ _)) No).trans hf (fun _ _ h => h) (fun _ _ h => h)); clear hf))
  have H1 := Aside0.mk (HF.out.get H.out (fun h => h))
  obtain ⟨_, _, _, f1', f2'⟩ := t3_cells H1.out
  clear c0 c1 c2 f1 f2 hcut
  go_wp2_with fail
  have hw1 : RdV w1 A (nums .u8 xs) := HRA.out.below HF.out.no
  obtain ⟨c0, c1, c2, f1, f2⟩ := t3_cells H1.out
  go_quiet (fail)
  go_wp2_with fail
  go_ret
  exact ⟨rfl, t3_set2 (w := w1.drewN _) H1.out, (HF.out.trans (Fr.drewN w1 _) (fun _ _ h => h) (fun _ _ h => h)).trans (Fr.setCell (S := One g) _ _ _ rfl) (fun _ _ h => h.elim) (fun _ _ h => h)⟩
set_option maxRecDepth 100000 in
set_option maxHeartbeats 8000000 in
theorem mText_big (h : w.heap[g]? = some (.cells #[.slice A n c, .int .i64 i, .int .i64 0] 67 (0, 0))) (hr : RdV w A (nums .u8 xs)) (hl : xs.length = n) (hi : i ≤ n) (hc : n ≤ c) (hn : n ≤ 140737488355328) (hb : Byt xs) (most : Int) (u k : Nat) (hm : 0 ≤ most) (hm2 : most ≤ 9223372036854775807) (hu : most < u) (hq : num (xs.drop i) = some (u, k)) : Calls Try.prog 89 #[.pointer (some ⟨g, 0, none⟩), .int .i64 most] w fun e' w' => e' = .returned (.string ByteArray.empty) ∧ w'.heap[g]? = some (.cells #[.slice A n c, .int .i64 i, .int .i64 20] 67 (0, 0)) ∧ Fr (One g) w w' := by
  obtain ⟨c0, c1, c2, f1, f2⟩ := t3_cells h
  obtain ⟨i0, hi0, _, hsz, _⟩ := info_parts info5
  obtain ⟨A', hcut, hrd, _⟩ := cut_rd (P := Try.prog) 22 5 .i64 Try.underlying22 hi0 hsz A n c i hi
  have HRD := Aside0.mk (nums_drop .u8 xs i ▸ hrd w (nums .u8 xs) hc (by simp [nums, hl]) hr)
  have hkk : ∀ u k, num (xs.drop i) = some (u, k) → i + k ≤ n ∧ 0 < k := fun u k h => by
    have := numK_le 10 _ u k h
    simp at this
    omega
  have HN := Aside0.mk (mNum w.drew A' (n - i) (c - i) (xs.drop i) HRD.out.drew (by simp [hl]) (by omega) (by omega) (fun x hx => hb x (List.mem_of_mem_drop hx)) _ hq)
  simp only [Option.getD] at HN
  have H := Aside0.mk h
  obtain ⟨hk, hk0⟩ := hkk u k hq
  clear hq
  have hkb : ((k : Int) == 0) = false := by simp; omega
  have HRA := Aside0.mk hr
  clear h hr hi0 hsz hrd hkk hb
  go_enter Try.func89, Try.ntmps89
  go_wp2_with fail
  go_region_held3 (fun w' => w'.cell? ⟨g, 0, none⟩ = some (.slice A n c) ∧ w'.cell? ⟨g, 1, none⟩ = some (.int .i64 (i : Int))) ((first | exact ⟨by simpa using c0, by simpa using c1⟩ | exact ⟨by assumption, by assumption⟩)) (first | (go_at_call 113; refine HN.out.mono ?_; rintro e w1 ⟨rfl, hf⟩; have hc0 := pw_cell_below hf.no (show w.drew.cell? ⟨g, 0, none⟩ = some (.slice A n c) by simpa using c0); have hc1 := pw_cell_below hf.no (show w.drew.cell? ⟨g, 1, none⟩ = some (.int .i64 (i : Int)) by simpa using c1); have HF := Aside0.mk (show Fr No w w1 from (Fr.of_below (below_drew (Below.refl _ _)) No).trans hf (fun _ _ h => h) (fun _ _ h => h)); clear hf))
  have H1 := Aside0.mk (HF.out.get H.out (fun h => h))
  obtain ⟨_, _, _, f1', f2'⟩ := t3_cells H1.out
  clear c0 c1 c2 f1 f2 hcut
  go_wp2_with fail
  have hw1 : RdV w1 A (nums .u8 xs) := HRA.out.below HF.out.no
  obtain ⟨c0, c1, c2, f1, f2⟩ := t3_cells H1.out
  have hm' : ¬ most < 0 := by omega
  have hwm : IntKind.u64.wrap most = most := by rw [IntKind.wrap_u64]; omega
  go_quiet (fail)
  go_wp2_with fail
  go_ret
  exact ⟨rfl, t3_set2 (w := w1.drewN _) H1.out, (HF.out.trans (Fr.drewN w1 _) (fun _ _ h => h) (fun _ _ h => h)).trans (Fr.setCell (S := One g) _ _ _ rfl) (fun _ _ h => h.elim) (fun _ _ h => h)⟩
set_option maxRecDepth 100000 in
set_option maxHeartbeats 8000000 in
theorem mText_long (h : w.heap[g]? = some (.cells #[.slice A n c, .int .i64 i, .int .i64 0] 67 (0, 0))) (hr : RdV w A (nums .u8 xs)) (hl : xs.length = n) (hi : i ≤ n) (hc : n ≤ c) (hn : n ≤ 140737488355328) (hb : Byt xs) (most : Int) (u k : Nat) (hm : 0 ≤ most) (hm2 : most ≤ 9223372036854775807) (hu : (u : Int) ≤ most) (hlong : n < i + k + u) (hq : num (xs.drop i) = some (u, k)) : Calls Try.prog 89 #[.pointer (some ⟨g, 0, none⟩), .int .i64 most] w fun e' w' => e' = .returned (.string ByteArray.empty) ∧ w'.heap[g]? = some (.cells #[.slice A n c, .int .i64 i, .int .i64 20] 67 (0, 0)) ∧ Fr (One g) w w' := by
  obtain ⟨c0, c1, c2, f1, f2⟩ := t3_cells h
  obtain ⟨i0, hi0, _, hsz, _⟩ := info_parts info5
  obtain ⟨A', hcut, hrd, _⟩ := cut_rd (P := Try.prog) 22 5 .i64 Try.underlying22 hi0 hsz A n c i hi
  have HRD := Aside0.mk (nums_drop .u8 xs i ▸ hrd w (nums .u8 xs) hc (by simp [nums, hl]) hr)
  have hkk : ∀ u k, num (xs.drop i) = some (u, k) → i + k ≤ n ∧ 0 < k := fun u k h => by
    have := numK_le 10 _ u k h
    simp at this
    omega
  have HN := Aside0.mk (mNum w.drew A' (n - i) (c - i) (xs.drop i) HRD.out.drew (by simp [hl]) (by omega) (by omega) (fun x hx => hb x (List.mem_of_mem_drop hx)) _ hq)
  simp only [Option.getD] at HN
  have H := Aside0.mk h
  obtain ⟨hk, hk0⟩ := hkk u k hq
  clear hq
  have hkb : ((k : Int) == 0) = false := by simp; omega
  have HRA := Aside0.mk hr
  clear h hr hi0 hsz hrd hkk hb
  go_enter Try.func89, Try.ntmps89
  go_wp2_with fail
  go_region_held3 (fun w' => w'.cell? ⟨g, 0, none⟩ = some (.slice A n c) ∧ w'.cell? ⟨g, 1, none⟩ = some (.int .i64 (i : Int))) ((first | exact ⟨by simpa using c0, by simpa using c1⟩ | exact ⟨by assumption, by assumption⟩)) (first | (go_at_call 113; refine HN.out.mono ?_; rintro e w1 ⟨rfl, hf⟩; have hc0 := pw_cell_below hf.no (show w.drew.cell? ⟨g, 0, none⟩ = some (.slice A n c) by simpa using c0); have hc1 := pw_cell_below hf.no (show w.drew.cell? ⟨g, 1, none⟩ = some (.int .i64 (i : Int)) by simpa using c1); have HF := Aside0.mk (show Fr No w w1 from (Fr.of_below (below_drew (Below.refl _ _)) No).trans hf (fun _ _ h => h) (fun _ _ h => h)); clear hf))
  have H1 := Aside0.mk (HF.out.get H.out (fun h => h))
  obtain ⟨_, _, _, f1', f2'⟩ := t3_cells H1.out
  clear c0 c1 c2 f1 f2 hcut
  go_wp2_with fail
  have hw1 : RdV w1 A (nums .u8 xs) := HRA.out.below HF.out.no
  obtain ⟨c0, c1, c2, f1, f2⟩ := t3_cells H1.out
  have hlg : ((n : Int) - i - k) < u := by omega
  have hu' : ¬ most < (u : Int) := by omega
  have hm' : ¬ most < 0 := by omega
  have hwm : IntKind.u64.wrap most = most := by rw [IntKind.wrap_u64]; omega
  have hw1' : IntKind.i64.wrap ((n : Int) - i) = n - i := by rw [IntKind.wrap_i64]; omega
  have hw2' : IntKind.i64.wrap ((n : Int) - i - k) = n - i - k := by rw [IntKind.wrap_i64]; omega
  have hw3' : IntKind.u64.wrap ((n : Int) - i - k) = n - i - k := by rw [IntKind.wrap_u64]; omega
  go_quiet (fail)
  go_wp2_with fail
  go_ret
  exact ⟨rfl, t3_set2 (w := w1.drewN _) H1.out, (HF.out.trans (Fr.drewN w1 _) (fun _ _ h => h) (fun _ _ h => h)).trans (Fr.setCell (S := One g) _ _ _ rfl) (fun _ _ h => h.elim) (fun _ _ h => h)⟩
set_option maxRecDepth 100000 in
set_option maxHeartbeats 8000000 in
theorem mText_ok (h : w.heap[g]? = some (.cells #[.slice A n c, .int .i64 i, .int .i64 0] 67 (0, 0))) (hr : RdV w A (nums .u8 xs)) (hl : xs.length = n) (hi : i ≤ n) (hc : n ≤ c) (hn : n ≤ 140737488355328) (hb : Byt xs) (most : Int) (u k : Nat) (hm : 0 ≤ most) (hm2 : most ≤ 9223372036854775807) (hu : (u : Int) ≤ most) (hle : i + k + u ≤ n) (hg : ∀ ad, A = some ad → ad.block ≠ g) (hq : num (xs.drop i) = some (u, k)) : Calls Try.prog 89 #[.pointer (some ⟨g, 0, none⟩), .int .i64 most] w fun e' w' => e' = .returned (.string (strOfNums ((xs.drop (i + k)).take u))) ∧ w'.heap[g]? = some (.cells #[.slice A n c, .int .i64 ((i + k + u : Nat) : Int), .int .i64 0] 67 (0, 0)) ∧ Fr (One g) w w' := by
  obtain ⟨c0, c1, c2, f1, f2⟩ := t3_cells h
  obtain ⟨i0, hi0, _, hsz, _⟩ := info_parts info5
  obtain ⟨A', hcut, hrd, _⟩ := cut_rd (P := Try.prog) 22 5 .i64 Try.underlying22 hi0 hsz A n c i hi
  have HRD := Aside0.mk (nums_drop .u8 xs i ▸ hrd w (nums .u8 xs) hc (by simp [nums, hl]) hr)
  have hkk : ∀ u k, num (xs.drop i) = some (u, k) → i + k ≤ n ∧ 0 < k := fun u k h => by
    have := numK_le 10 _ u k h
    simp at this
    omega
  have HN := Aside0.mk (mNum w.drew A' (n - i) (c - i) (xs.drop i) HRD.out.drew (by simp [hl]) (by omega) (by omega) (fun x hx => hb x (List.mem_of_mem_drop hx)) _ hq)
  simp only [Option.getD] at HN
  have H := Aside0.mk h
  obtain ⟨hk, hk0⟩ := hkk u k hq
  clear hq
  have hkb : ((k : Int) == 0) = false := by simp; omega
  have HRA := Aside0.mk hr
  obtain ⟨A2, hcut2, hrd2, _⟩ := cutlh_rd (P := Try.prog) 22 5 .i64 .i64 Try.underlying22 hi0 hsz A n c (i + k) (i + k + u) (by omega) hle hc
  rw [Nat.add_sub_cancel_left] at hcut2
  simp only [Int.natCast_add] at hcut2
  have HCV := Aside0.mk (fun (W : World) (h : RdV W A (nums .u8 xs)) => conv_rd (P := Try.prog) W 22 9 5 Try.underlying22 Try.underlying5 Try.underlying9 A2 u (c - (i + k)) ((xs.drop (i + k)).take u) (by simp; omega) (by
    have := hrd2 W (nums .u8 xs) (by simp [nums, hl]) h
    rw [nums_drop, nums_take, Nat.add_sub_cancel_left] at this
    exact this))
  have HG := Aside0.mk hg
  have HC2 := Aside0.mk hcut2
  clear hrd2 hg
  clear h hr hi0 hsz hrd hkk hb
  go_enter Try.func89, Try.ntmps89
  go_wp2_with fail
  go_region_held3 (fun w' => w'.cell? ⟨g, 0, none⟩ = some (.slice A n c) ∧ w'.cell? ⟨g, 1, none⟩ = some (.int .i64 (i : Int))) ((first | exact ⟨by simpa using c0, by simpa using c1⟩ | exact ⟨by assumption, by assumption⟩)) (first | (go_at_call 113; refine HN.out.mono ?_; rintro e w1 ⟨rfl, hf⟩; have hc0 := pw_cell_below hf.no (show w.drew.cell? ⟨g, 0, none⟩ = some (.slice A n c) by simpa using c0); have hc1 := pw_cell_below hf.no (show w.drew.cell? ⟨g, 1, none⟩ = some (.int .i64 (i : Int)) by simpa using c1); have HF := Aside0.mk (show Fr No w w1 from (Fr.of_below (below_drew (Below.refl _ _)) No).trans hf (fun _ _ h => h) (fun _ _ h => h)); clear hf))
  have H1 := Aside0.mk (HF.out.get H.out (fun h => h))
  obtain ⟨_, _, _, f1', f2'⟩ := t3_cells H1.out
  clear c0 c1 c2 f1 f2 hcut
  go_wp2_with fail
  have hw1 : RdV w1 A (nums .u8 xs) := HRA.out.below HF.out.no
  obtain ⟨c0, c1, c2, f1, f2⟩ := t3_cells H1.out
  have hlg : ¬ ((n : Int) - i - k) < u := by omega
  have hu' : ¬ most < (u : Int) := by omega
  have hm' : ¬ most < 0 := by omega
  have hwm : IntKind.u64.wrap most = most := by rw [IntKind.wrap_u64]; omega
  have hw1' : IntKind.i64.wrap ((n : Int) - i) = n - i := by rw [IntKind.wrap_i64]; omega
  have hw2' : IntKind.i64.wrap ((n : Int) - i - k) = n - i - k := by rw [IntKind.wrap_i64]; omega
  have hw3' : IntKind.u64.wrap ((n : Int) - i - k) = n - i - k := by rw [IntKind.wrap_u64]; omega
  go_quiet (fail)
  clear hlg hu' hwm hw1' hw2' hw3' hm' hw1 hm hm2 hu hcut2
  have hw4' : wrap64 ((i : Int) + k + u) = i + k + u := by unfold wrap64; omega
  go_wp2_with fail
  have hconv := fun m => HCV.out (((w1.drewN nq).setCell ⟨g, 1, none⟩ (.int .i64 ((i : Int) + k + u))).drewN m) (hw1_set HG.out (HRA.out.below HF.out.no) nq m)
  have hcut2 := HC2.out
  clear c0 c1 c2 f1 f2
  obtain ⟨c0, c1, c2, f1, f2⟩ := t3_cells (t3_set1 (w := w1.drewN nq) (x := .int .i64 ((i : Int) + k + u)) H1.out)
  go_quiet (fail)
  go_wp2_with fail
  go_ret
  exact ⟨rfl, t3_set1 (w := w1.drewN _) H1.out, ((HF.out.trans (Fr.drewN w1 _) (fun _ _ h => h) (fun _ _ h => h)).trans (Fr.setCell (S := One g) (w1.drewN _) ⟨g, 1, none⟩ _ rfl) (fun _ _ h => h.elim) (fun _ _ h => h)).trans (Fr.drewN _ _) (fun _ _ h => h) (fun _ _ h => h)⟩
end
end Go.Proofs.Ytchcimkmjoegdaa.C
