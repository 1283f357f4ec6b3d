/- The reference's reader of chapter 2: each method answers as the codec's law says (rU, rS, rT, rB, rE). Conditions: the lengths' bounds. -/
import Derived.Test.YtchcimkmjoegdaaRefB
import Derived.Deep.RegionHeld3
import Derived.BigQuiet
namespace Go.Proofs.Ytchcimkmjoegdaa.C
open Go.RowKit Go.Proofs.YtchcimkmjoegdaaW.PrintWords Go.Proofs.YtchcimkmjoegdaaW.PrintMore Go.Proofs.Ytchcimkmjoegdaa.M
set_option linter.unusedVariables false
set_option linter.unusedSimpArgs false

theorem t3_cells {w : World} {g : Nat} {v a b : Value} {t : TypeId} (h : w.heap[g]? = some (.cells #[v, a, b] t (0, 0))) :
    w.cell? ⟨g, 0, none⟩ = some v ∧ w.cell? ⟨g, 1, none⟩ = some a ∧ w.cell? ⟨g, 2, none⟩ = some b ∧ w.frozen? ⟨g, 1, none⟩ = false ∧ w.frozen? ⟨g, 2, none⟩ = false := by
  refine ⟨?_, ?_, ?_, ?_, ?_⟩ <;> simp [World.cell?, World.frozen?, h]
theorem t3_set1 {w : World} {g : Nat} {v a b x : Value} {t : TypeId} (h : w.heap[g]? = some (.cells #[v, a, b] t (0, 0))) : (w.setCell ⟨g, 1, none⟩ x).heap[g]? = some (.cells #[v, x, b] t (0, 0)) := by
  simp [World.setCell, Array.getElem?_modify, h]
theorem t3_set2 {w : World} {g : Nat} {v a b x : Value} {t : TypeId} (h : w.heap[g]? = some (.cells #[v, a, b] t (0, 0))) : (w.setCell ⟨g, 2, none⟩ x).heap[g]? = some (.cells #[v, a, x] t (0, 0)) := by
  simp [World.setCell, Array.getElem?_modify, h]
theorem fr_cell {w w' : World} {g : Nat} {a : Addr} {u : Value} {j : Nat} (h : Fr (One g) w w') (hc : w.cell? (a.add j) = some u) (hne : a.block ≠ g) : w'.cell? (a.add j) = some u := by
  have hb : (a.add j).block = a.block := by unfold Addr.add; split <;> rfl
  have e : w'.heap[(a.add j).block]? = w.heap[(a.add j).block]? := by
    by_cases hl : (a.add j).block < w.heap.size
    · exact h.block _ hl (fun hs => hne (hb ▸ hs))
    · exfalso
      unfold World.cell? at hc
      rw [Array.getElem?_eq_none (Nat.le_of_not_lt hl)] at hc
      cases hc
  unfold World.cell? at hc ⊢
  rw [e]
  exact hc
theorem mNum (w : World) (A : Option Addr) (n c : Nat) (b : List Int) (hr : RdV w A (nums .u8 b)) (hl : b.length = n) (hc : n ≤ c) (hn : n ≤ 140737488355328) (hb : Byt b) (q : Option (Nat × Nat)) (hq : num b = q) :
    Calls Try.prog 113 #[.slice A n c] w fun e w' => e = .returned (.tuple #[.int .u64 ((q.getD (0, 0)).1 : Nat), .int .i64 ((q.getD (0, 0)).2 : Nat)]) ∧ Fr No w w' := by
  cases q with
  | none => exact refNumber_none w A n c b hr hl hc hn hb hq
  | some p => exact refNumber_some w A n c b hr hl hc hn hb p.1 p.2 hq
theorem hw1_set {w : World} {A : Option Addr} {g : Nat} {xs : List Value} {x : Value} (hg : ∀ ad, A = some ad → ad.block ≠ g) (h : RdV w A xs) (m m' : Nat) : RdV (((w.drewN m).setCell ⟨g, 1, none⟩ x).drewN m') A xs := fun hn => by
  obtain ⟨ad, e, hc⟩ := h hn
  refine ⟨ad, e, fun j u hj => ?_⟩
  have h0 := hc j u hj
  have hF : Fr (One g) w (((w.drewN m).setCell ⟨g, 1, none⟩ x).drewN m') := ((Fr.drewN w m).trans (Fr.setCell (S := One g) (w.drewN m) ⟨g, 1, none⟩ x rfl) (fun _ _ h => h) (fun _ _ h => h)).trans (Fr.drewN _ m') (fun _ _ h => h) (fun _ _ h => h)
  exact fr_cell hF h0 (hg ad e)
section
variable (w : World) (g : Nat) (A : Option Addr) (n c : Nat) (xs : List Int) (i : Nat) (e : Int)

set_option maxRecDepth 100000 in
set_option maxHeartbeats 400000 in
theorem mUint_nil (w : World) : Calls Try.prog 95 #[.pointer none] w fun e w' => e = .returned (.int .u64 0) ∧ w' = w := by
  go_enter Try.func95, Try.ntmps95
  go_wp2_with fail
  go_ret
  exact ⟨rfl, rfl⟩
set_option maxRecDepth 100000 in
set_option maxHeartbeats 400000 in
theorem mUint_err (h : w.heap[g]? = some (.cells #[.slice A n c, .int .i64 i, .int .i64 e] 67 (0, 0))) (he : e ≠ 0) : Calls Try.prog 95 #[.pointer (some ⟨g, 0, none⟩)] w fun e' w' => e' = .returned (.int .u64 0) ∧ w' = w := by
  obtain ⟨c0, c1, c2, f1, f2⟩ := t3_cells h
  have heb : (e != 0) = true := by simp [he]
  clear h he
  go_enter Try.func95, Try.ntmps95
  go_wp2_with fail
  go_ret
  exact ⟨rfl, rfl⟩
set_option maxRecDepth 100000 in
set_option maxHeartbeats 8000000 in
theorem mUint_none (h : w.heap[g]? = some (.cells #[.slice A n c, .int .i64 i, .int .i64 0] 67 (0, 0))) (hr : RdV w A (nums .u8 xs)) (hl : xs.length = n) (hi : i ≤ n) (hc : n ≤ c) (hn : n ≤ 140737488355328) (hb : Byt xs) (hq : num (xs.drop i) = none) : Calls Try.prog 95 #[.pointer (some ⟨g, 0, none⟩)] w fun e' w' => e' = .returned (.int .u64 0) ∧ w'.heap[g]? = some (.cells #[.slice A n c, .int .i64 i, .int .i64 20] 67 (0, 0)) ∧ Fr (One g) w w' := by
  obtain ⟨c0, c1, c2, f1, f2⟩ := t3_cells h
  obtain ⟨i0, hi0, _, hsz, _⟩ := info_parts info5
  obtain ⟨A', hcut, hrd, _⟩ := cut_rd (P := Try.prog) 22 5 .i64 Try.underlying22 hi0 hsz A n c i hi
  have HRD := Aside0.mk (nums_drop .u8 xs i ▸ hrd w (nums .u8 xs) hc (by simp [nums, hl]) hr)
  have hkk : ∀ u k, num (xs.drop i) = some (u, k) → i + k ≤ n ∧ 0 < k := fun u k h => by
    have := numK_le 10 _ u k h
    simp at this
    omega
  have HN := Aside0.mk (mNum w.drew A' (n - i) (c - i) (xs.drop i) HRD.out.drew (by simp [hl]) (by omega) (by omega) (fun x hx => hb x (List.mem_of_mem_drop hx)) _ hq)
  simp only [Option.getD] at HN
  have H := Aside0.mk h
  clear h hr hi0 hsz hrd hkk hb
  go_enter Try.func95, Try.ntmps95
  go_wp2_with fail
  go_region_held3 (fun w' => w'.cell? ⟨g, 0, none⟩ = some (.slice A n c) ∧ w'.cell? ⟨g, 1, none⟩ = some (.int .i64 (i : Int))) ((first | exact ⟨by simpa using c0, by simpa using c1⟩ | exact ⟨by assumption, by assumption⟩)) (first | (go_at_call 113; refine HN.out.mono ?_; rintro e w1 ⟨rfl, hf⟩; have hc0 := pw_cell_below hf.no (show w.drew.cell? ⟨g, 0, none⟩ = some (.slice A n c) by simpa using c0); have hc1 := pw_cell_below hf.no (show w.drew.cell? ⟨g, 1, none⟩ = some (.int .i64 (i : Int)) by simpa using c1); have HF := Aside0.mk (show Fr No w w1 from (Fr.of_below (below_drew (Below.refl _ _)) No).trans hf (fun _ _ h => h) (fun _ _ h => h)); clear hf))
  have H1 := Aside0.mk (HF.out.get H.out (fun h => h))
  obtain ⟨_, _, _, f1', f2'⟩ := t3_cells H1.out
  clear c0 c1 c2 f1 f2 hcut
  go_wp2_with fail
  go_ret
  exact ⟨rfl, t3_set2 H1.out, HF.out.trans (Fr.setCell (S := One g) w1 _ _ rfl) (fun _ _ h => h.elim) (fun _ _ h => h)⟩
set_option maxRecDepth 100000 in
set_option maxHeartbeats 8000000 in
theorem mUint_some (h : w.heap[g]? = some (.cells #[.slice A n c, .int .i64 i, .int .i64 0] 67 (0, 0))) (hr : RdV w A (nums .u8 xs)) (hl : xs.length = n) (hi : i ≤ n) (hc : n ≤ c) (hn : n ≤ 140737488355328) (hb : Byt xs) (u k : Nat) (hq : num (xs.drop i) = some (u, k)) : Calls Try.prog 95 #[.pointer (some ⟨g, 0, none⟩)] w fun e' w' => e' = .returned (.int .u64 u) ∧ w'.heap[g]? = some (.cells #[.slice A n c, .int .i64 ((i + k : Nat) : Int), .int .i64 0] 67 (0, 0)) ∧ Fr (One g) w w' := by
  obtain ⟨c0, c1, c2, f1, f2⟩ := t3_cells h
  obtain ⟨i0, hi0, _, hsz, _⟩ := info_parts info5
  obtain ⟨A', hcut, hrd, _⟩ := cut_rd (P := Try.prog) 22 5 .i64 Try.underlying22 hi0 hsz A n c i hi
  have HRD := Aside0.mk (nums_drop .u8 xs i ▸ hrd w (nums .u8 xs) hc (by simp [nums, hl]) hr)
  have hkk : ∀ u k, num (xs.drop i) = some (u, k) → i + k ≤ n ∧ 0 < k := fun u k h => by
    have := numK_le 10 _ u k h
    simp at this
    omega
  have HN := Aside0.mk (mNum w.drew A' (n - i) (c - i) (xs.drop i) HRD.out.drew (by simp [hl]) (by omega) (by omega) (fun x hx => hb x (List.mem_of_mem_drop hx)) _ hq)
  simp only [Option.getD] at HN
  have H := Aside0.mk h
  obtain ⟨hk, hk0⟩ := hkk u k hq
  clear hq
  clear h hr hi0 hsz hrd hkk hb
  go_enter Try.func95, Try.ntmps95
  go_wp2_with fail
  go_region_held3 (fun w' => w'.cell? ⟨g, 0, none⟩ = some (.slice A n c) ∧ w'.cell? ⟨g, 1, none⟩ = some (.int .i64 (i : Int))) ((first | exact ⟨by simpa using c0, by simpa using c1⟩ | exact ⟨by assumption, by assumption⟩)) (first | (go_at_call 113; refine HN.out.mono ?_; rintro e w1 ⟨rfl, hf⟩; have hc0 := pw_cell_below hf.no (show w.drew.cell? ⟨g, 0, none⟩ = some (.slice A n c) by simpa using c0); have hc1 := pw_cell_below hf.no (show w.drew.cell? ⟨g, 1, none⟩ = some (.int .i64 (i : Int)) by simpa using c1); have HF := Aside0.mk (show Fr No w w1 from (Fr.of_below (below_drew (Below.refl _ _)) No).trans hf (fun _ _ h => h) (fun _ _ h => h)); clear hf))
  have H1 := Aside0.mk (HF.out.get H.out (fun h => h))
  obtain ⟨_, _, _, f1', f2'⟩ := t3_cells H1.out
  clear c0 c1 c2 f1 f2 hcut
  go_wp2_with fail
  go_ret
  exact ⟨rfl, t3_set1 H1.out, HF.out.trans (Fr.setCell (S := One g) w1 _ _ rfl) (fun _ _ h => h.elim) (fun _ _ h => h)⟩
set_option maxRecDepth 100000 in
set_option maxHeartbeats 400000 in
theorem mSize_nil (w : World) (most : Int) : Calls Try.prog 88 #[.pointer none, .int .i64 most] w fun e w' => e = .returned (.int .i64 0) ∧ w' = w := by
  go_enter Try.func88, Try.ntmps88
  go_wp2_with fail
  go_ret
  exact ⟨rfl, rfl⟩
set_option maxRecDepth 100000 in
set_option maxHeartbeats 400000 in
theorem mSize_err (h : w.heap[g]? = some (.cells #[.slice A n c, .int .i64 i, .int .i64 e] 67 (0, 0))) (he : e ≠ 0) (most : Int) : Calls Try.prog 88 #[.pointer (some ⟨g, 0, none⟩), .int .i64 most] w fun e' w' => e' = .returned (.int .i64 0) ∧ w' = w := by
  obtain ⟨c0, c1, c2, f1, f2⟩ := t3_cells h
  have heb : (e != 0) = true := by simp [he]
  clear h he
  go_enter Try.func88, Try.ntmps88
  go_wp2_with fail
  go_ret
  exact ⟨rfl, rfl⟩
set_option maxRecDepth 100000 in
set_option maxHeartbeats 8000000 in
theorem mSize_none (h : w.heap[g]? = some (.cells #[.slice A n c, .int .i64 i, .int .i64 0] 67 (0, 0))) (hr : RdV w A (nums .u8 xs)) (hl : xs.length = n) (hi : i ≤ n) (hc : n ≤ c) (hn : n ≤ 140737488355328) (hb : Byt xs) (most : Int) (hq : num (xs.drop i) = none) : Calls Try.prog 88 #[.pointer (some ⟨g, 0, none⟩), .int .i64 most] w fun e' w' => e' = .returned (.int .i64 0) ∧ w'.heap[g]? = some (.cells #[.slice A n c, .int .i64 i, .int .i64 20] 67 (0, 0)) ∧ Fr (One g) w w' := by
  obtain ⟨c0, c1, c2, f1, f2⟩ := t3_cells h
  obtain ⟨i0, hi0, _, hsz, _⟩ := info_parts info5
  obtain ⟨A', hcut, hrd, _⟩ := cut_rd (P := Try.prog) 22 5 .i64 Try.underlying22 hi0 hsz A n c i hi
  have HRD := Aside0.mk (nums_drop .u8 xs i ▸ hrd w (nums .u8 xs) hc (by simp [nums, hl]) hr)
  have hkk : ∀ u k, num (xs.drop i) = some (u, k) → i + k ≤ n ∧ 0 < k := fun u k h => by
    have := numK_le 10 _ u k h
    simp at this
    omega
  have HN := Aside0.mk (mNum w.drew A' (n - i) (c - i) (xs.drop i) HRD.out.drew (by simp [hl]) (by omega) (by omega) (fun x hx => hb x (List.mem_of_mem_drop hx)) _ hq)
  simp only [Option.getD] at HN
  have H := Aside0.mk h
  clear h hr hi0 hsz hrd hkk hb
  go_enter Try.func88, Try.ntmps88
  go_wp2_with fail
  go_region_held3 (fun w' => w'.cell? ⟨g, 0, none⟩ = some (.slice A n c) ∧ w'.cell? ⟨g, 1, none⟩ = some (.int .i64 (i : Int))) ((first | exact ⟨by simpa using c0, by simpa using c1⟩ | exact ⟨by assumption, by assumption⟩)) (first | (go_at_call 113; refine HN.out.mono ?_; rintro e w1 ⟨rfl, hf⟩; have hc0 := pw_cell_below hf.no (show w.drew.cell? ⟨g, 0, none⟩ = some (.slice A n c) by simpa using c0); have hc1 := pw_cell_below hf.no (show w.drew.cell? ⟨g, 1, none⟩ = some (.int .i64 (i : Int)) by simpa using c1); have HF := Aside0.mk (show Fr No w w1 from (Fr.of_below (below_drew (Below.refl _ _)) No).trans hf (fun _ _ h => h) (fun _ _ h => h)); clear hf))
  have H1 := Aside0.mk (HF.out.get H.out (fun h => h))
  obtain ⟨_, _, _, f1', f2'⟩ := t3_cells H1.out
  clear c0 c1 c2 f1 f2 hcut
  go_wp2_with fail
  go_ret
  exact ⟨rfl, t3_set2 H1.out, HF.out.trans (Fr.setCell (S := One g) w1 _ _ rfl) (fun _ _ h => h.elim) (fun _ _ h => h)⟩
set_option maxRecDepth 100000 in
set_option maxHeartbeats 8000000 in
theorem mSize_neg (h : w.heap[g]? = some (.cells #[.slice A n c, .int .i64 i, .int .i64 0] 67 (0, 0))) (hr : RdV w A (nums .u8 xs)) (hl : xs.length = n) (hi : i ≤ n) (hc : n ≤ c) (hn : n ≤ 140737488355328) (hb : Byt xs) (most : Int) (u k : Nat) (hm : most < 0) (hq : num (xs.drop i) = some (u, k)) : Calls Try.prog 88 #[.pointer (some ⟨g, 0, none⟩), .int .i64 most] w fun e' w' => e' = .returned (.int .i64 0) ∧ w'.heap[g]? = some (.cells #[.slice A n c, .int .i64 i, .int .i64 20] 67 (0, 0)) ∧ Fr (One g) w w' := by
  obtain ⟨c0, c1, c2, f1, f2⟩ := t3_cells h
  obtain ⟨i0, hi0, _, hsz, _⟩ := info_parts info5
  obtain ⟨A', hcut, hrd, _⟩ := cut_rd (P := Try.prog) 22 5 .i64 Try.underlying22 hi0 hsz A n c i hi
  have HRD := Aside0.mk (nums_drop .u8 xs i ▸ hrd w (nums .u8 xs) hc (by simp [nums, hl]) hr)
  have hkk : ∀ u k, num (xs.drop i) = some (u, k) → i + k ≤ n ∧ 0 < k := fun u k h => by
    have := numK_le 10 _ u k h
    simp at this
    omega
  have HN := Aside0.mk (mNum w.drew A' (n - i) (c - i) (xs.drop i) HRD.out.drew (by simp [hl]) (by omega) (by omega) (fun x hx => hb x (List.mem_of_mem_drop hx)) _ hq)
  simp only [Option.getD] at HN
  have H := Aside0.mk h
  obtain ⟨hk, hk0⟩ := hkk u k hq
  clear hq
  clear h hr hi0 hsz hrd hkk hb
  go_enter Try.func88, Try.ntmps88
  go_wp2_with fail
  go_region_held3 (fun w' => w'.cell? ⟨g, 0, none⟩ = some (.slice A n c) ∧ w'.cell? ⟨g, 1, none⟩ = some (.int .i64 (i : Int))) ((first | exact ⟨by simpa using c0, by simpa using c1⟩ | exact ⟨by assumption, by assumption⟩)) (first | (go_at_call 113; refine HN.out.mono ?_; rintro e w1 ⟨rfl, hf⟩; have hc0 := pw_cell_below hf.no (show w.drew.cell? ⟨g, 0, none⟩ = some (.slice A n c) by simpa using c0); have hc1 := pw_cell_below hf.no (show w.drew.cell? ⟨g, 1, none⟩ = some (.int .i64 (i : Int)) by simpa using c1); have HF := Aside0.mk (show Fr No w w1 from (Fr.of_below (below_drew (Below.refl _ _)) No).trans hf (fun _ _ h => h) (fun _ _ h => h)); clear hf))
  have H1 := Aside0.mk (HF.out.get H.out (fun h => h))
  obtain ⟨_, _, _, f1', f2'⟩ := t3_cells H1.out
  clear c0 c1 c2 f1 f2 hcut
  go_wp2_with fail
  go_ret
  exact ⟨rfl, t3_set2 H1.out, HF.out.trans (Fr.setCell (S := One g) w1 _ _ rfl) (fun _ _ h => h.elim) (fun _ _ h => h)⟩
set_option maxRecDepth 100000 in
set_option maxHeartbeats 8000000 in
theorem mSize_big (h : w.heap[g]? = some (.cells #[.slice A n c, .int .i64 i, .int .i64 0] 67 (0, 0))) (hr : RdV w A (nums .u8 xs)) (hl : xs.length = n) (hi : i ≤ n) (hc : n ≤ c) (hn : n ≤ 140737488355328) (hb : Byt xs) (most : Int) (u k : Nat) (hm : 0 ≤ most) (hm2 : most ≤ 9223372036854775807) (hu : most < u) (hq : num (xs.drop i) = some (u, k)) : Calls Try.prog 88 #[.pointer (some ⟨g, 0, none⟩), .int .i64 most] w fun e' w' => e' = .returned (.int .i64 0) ∧ w'.heap[g]? = some (.cells #[.slice A n c, .int .i64 i, .int .i64 20] 67 (0, 0)) ∧ Fr (One g) w w' := by
  obtain ⟨c0, c1, c2, f1, f2⟩ := t3_cells h
  obtain ⟨i0, hi0, _, hsz, _⟩ := info_parts info5
  obtain ⟨A', hcut, hrd, _⟩ := cut_rd (P := Try.prog) 22 5 .i64 Try.underlying22 hi0 hsz A n c i hi
  have HRD := Aside0.mk (nums_drop .u8 xs i ▸ hrd w (nums .u8 xs) hc (by simp [nums, hl]) hr)
  have hkk : ∀ u k, num (xs.drop i) = some (u, k) → i + k ≤ n ∧ 0 < k := fun u k h => by
    have := numK_le 10 _ u k h
    simp at this
    omega
  have HN := Aside0.mk (mNum w.drew A' (n - i) (c - i) (xs.drop i) HRD.out.drew (by simp [hl]) (by omega) (by omega) (fun x hx => hb x (List.mem_of_mem_drop hx)) _ hq)
  simp only [Option.getD] at HN
  have H := Aside0.mk h
  obtain ⟨hk, hk0⟩ := hkk u k hq
  clear hq
  clear h hr hi0 hsz hrd hkk hb
  go_enter Try.func88, Try.ntmps88
  go_wp2_with fail
  go_region_held3 (fun w' => w'.cell? ⟨g, 0, none⟩ = some (.slice A n c) ∧ w'.cell? ⟨g, 1, none⟩ = some (.int .i64 (i : Int))) ((first | exact ⟨by simpa using c0, by simpa using c1⟩ | exact ⟨by assumption, by assumption⟩)) (first | (go_at_call 113; refine HN.out.mono ?_; rintro e w1 ⟨rfl, hf⟩; have hc0 := pw_cell_below hf.no (show w.drew.cell? ⟨g, 0, none⟩ = some (.slice A n c) by simpa using c0); have hc1 := pw_cell_below hf.no (show w.drew.cell? ⟨g, 1, none⟩ = some (.int .i64 (i : Int)) by simpa using c1); have HF := Aside0.mk (show Fr No w w1 from (Fr.of_below (below_drew (Below.refl _ _)) No).trans hf (fun _ _ h => h) (fun _ _ h => h)); clear hf))
  have H1 := Aside0.mk (HF.out.get H.out (fun h => h))
  obtain ⟨_, _, _, f1', f2'⟩ := t3_cells H1.out
  clear c0 c1 c2 f1 f2 hcut
  go_wp2_with fail
  go_ret
  exact ⟨rfl, t3_set2 H1.out, HF.out.trans (Fr.setCell (S := One g) w1 _ _ rfl) (fun _ _ h => h.elim) (fun _ _ h => h)⟩
set_option maxRecDepth 100000 in
set_option maxHeartbeats 8000000 in
theorem mSize_ok (h : w.heap[g]? = some (.cells #[.slice A n c, .int .i64 i, .int .i64 0] 67 (0, 0))) (hr : RdV w A (nums .u8 xs)) (hl : xs.length = n) (hi : i ≤ n) (hc : n ≤ c) (hn : n ≤ 140737488355328) (hb : Byt xs) (most : Int) (u k : Nat) (hm : 0 ≤ most) (hm2 : most ≤ 9223372036854775807) (hu : (u : Int) ≤ most) (hq : num (xs.drop i) = some (u, k)) : Calls Try.prog 88 #[.pointer (some ⟨g, 0, none⟩), .int .i64 most] w fun e' w' => e' = .returned (.int .i64 u) ∧ w'.heap[g]? = some (.cells #[.slice A n c, .int .i64 ((i + k : Nat) : Int), .int .i64 0] 67 (0, 0)) ∧ Fr (One g) w w' := by
  obtain ⟨c0, c1, c2, f1, f2⟩ := t3_cells h
  obtain ⟨i0, hi0, _, hsz, _⟩ := info_parts info5
  obtain ⟨A', hcut, hrd, _⟩ := cut_rd (P := Try.prog) 22 5 .i64 Try.underlying22 hi0 hsz A n c i hi
  have HRD := Aside0.mk (nums_drop .u8 xs i ▸ hrd w (nums .u8 xs) hc (by simp [nums, hl]) hr)
  have hkk : ∀ u k, num (xs.drop i) = some (u, k) → i + k ≤ n ∧ 0 < k := fun u k h => by
    have := numK_le 10 _ u k h
    simp at this
    omega
  have HN := Aside0.mk (mNum w.drew A' (n - i) (c - i) (xs.drop i) HRD.out.drew (by simp [hl]) (by omega) (by omega) (fun x hx => hb x (List.mem_of_mem_drop hx)) _ hq)
  simp only [Option.getD] at HN
  have H := Aside0.mk h
  obtain ⟨hk, hk0⟩ := hkk u k hq
  clear hq
  have hkb : ((k : Int) == 0) = false := by simp; omega
  clear h hr hi0 hsz hrd hkk hb
  go_enter Try.func88, Try.ntmps88
  go_wp2_with fail
  go_region_held3 (fun w' => w'.cell? ⟨g, 0, none⟩ = some (.slice A n c) ∧ w'.cell? ⟨g, 1, none⟩ = some (.int .i64 (i : Int))) ((first | exact ⟨by simpa using c0, by simpa using c1⟩ | exact ⟨by assumption, by assumption⟩)) (first | (go_at_call 113; refine HN.out.mono ?_; rintro e w1 ⟨rfl, hf⟩; have hc0 := pw_cell_below hf.no (show w.drew.cell? ⟨g, 0, none⟩ = some (.slice A n c) by simpa using c0); have hc1 := pw_cell_below hf.no (show w.drew.cell? ⟨g, 1, none⟩ = some (.int .i64 (i : Int)) by simpa using c1); have HF := Aside0.mk (show Fr No w w1 from (Fr.of_below (below_drew (Below.refl _ _)) No).trans hf (fun _ _ h => h) (fun _ _ h => h)); clear hf))
  have H1 := Aside0.mk (HF.out.get H.out (fun h => h))
  obtain ⟨_, _, _, f1', f2'⟩ := t3_cells H1.out
  clear c0 c1 c2 f1 f2 hcut
  go_wp2_with fail
  go_ret
  exact ⟨rfl, t3_set1 H1.out, HF.out.trans (Fr.setCell (S := One g) w1 _ _ rfl) (fun _ _ h => h.elim) (fun _ _ h => h)⟩
end
end Go.Proofs.Ytchcimkmjoegdaa.C
