/- lecternlaw02.one: one call of both readers, alike; and of both nil readers. Conditions: the number of the call within int. -/
import Derived.Test.YtchcimkmjoegdaaOneA
import Derived.Test.YtchcimkmjoegdaaCodG
import Derived.Test.YtchcimkmjoegdaaApBW
namespace Go.Proofs.Ytchcimkmjoegdaa.C
open Go.RowKit Go.Proofs.YtchcimkmjoegdaaW.PrintWords Go.Proofs.YtchcimkmjoegdaaW.PrintMore Go.Proofs.Ytchcimkmjoegdaa.M
set_option linter.unusedVariables false
set_option linter.unusedSimpArgs false
set_option linter.unnecessarySimpa false

theorem rU_keep {xs : List Int} {i : Nat} {e : Int} (h : e ≠ 0) : (rU xs i e).2.2 = e := by simp [rU, h]
theorem rS_keep {xs : List Int} {i : Nat} {e m : Int} (h : e ≠ 0) : (rS xs i e m).2.2 = e := by simp [rS, h]
theorem rT_keep {xs : List Int} {i : Nat} {e m : Int} (h : e ≠ 0) : (rT xs i e m).2.2 = e := by simp [rT, h]
theorem rB_keep {xs : List Int} {i : Nat} {e m : Int} (h : e ≠ 0) : (rB xs i e m).2.2 = e := by simp [rB, h]
theorem rE_keep {xs : List Int} {i : Nat} {e : Int} (h : e ≠ 0) : rE xs i e = e := by simp [rE, h]
theorem keep_cell {W w' : World} {g b o : Nat} {u : Value} (h : Fr (One g) W w') (hb : b ≠ g) (hc : W.cell? ⟨b, o, none⟩ = some u) : w'.cell? ⟨b, o, none⟩ = some u := by
  rw [← hc]
  exact World.cell?_of_block (w := W) (a := ⟨b, o, none⟩) (h.block b (World.block_lt_of_cell? W _ hc) hb)
theorem box2 (w : World) (a b : Value) (t : TypeId) : (w.alloc (.cells #[a, b] t)).cell? ⟨w.heap.size, 0, none⟩ = some a ∧ (w.alloc (.cells #[a, b] t)).cell? ⟨w.heap.size, 1, none⟩ = some b := by
  have h := heap_alloc_new w (.cells #[a, b] t)
  constructor <;> (unfold World.cell?; rw [h]; rfl)
section
variable {w0 W : World} {g1 g2 n c i : Nat} {A : Option Addr} {xs : List Int} {e : Int}
/-- The state of the loop that turns the bytes handed back. -/
def LoopB (w0 wr : World) (B g1 g2 : Nat) (A : Option Addr) (n c : Nat) (xs : List Int) (i : Nat) (e : Int) (v0 v : Value) (L : Nat) : Prop :=
  RdrV wr w0.heap.size g1 v0 xs i e ∧ Syn w0 wr g1 g2 A n c xs i e i e ∧ ∃ ys : List Int, ys.length = L ∧ Win wr B 5 1 v L (nums .u8 ys)
theorem LoopB.syn {wr : World} {B : Nat} {v0 v : Value} {L : Nat} (h : LoopB w0 wr B g1 g2 A n c xs i e v0 v L) : Syn w0 wr g1 g2 A n c xs i e i e := h.2.1
theorem LoopB.start {w2 : World} {B m3 : Nat} {v0 v : Value} {L : Nat} {ys : List Int} (h : Syn w0 w2 g1 g2 A n c xs i e i e) (r : RdrV w2 w0.heap.size g1 v0 xs i e) (hw : Win w2 B 5 1 v L (nums .u8 ys)) (hl : ys.length = L) : LoopB w0 (w2.drewN m3) B g1 g2 A n c xs i e v0 v L :=
  ⟨r.drewN m3, h.below (pw_below_drewN (Below.refl _ _) m3), ys, hl, hw.below (pw_below_drewN (Below.refl _ _) m3)⟩
theorem LoopB.step {wr : World} {B : Nat} {v0 : Value} {A7 : Option Addr} {L c7 j : Nat} (h : LoopB w0 wr B g1 g2 A n c xs i e v0 (.slice A7 L c7) L) (hj : j < L) : ∃ (g off : Nat) (y : Int), A7 = some ⟨g, off, none⟩ ∧ wr.cell? ⟨g, off + j, none⟩ = some (.int .u8 y) ∧ wr.frozen? ⟨g, off + j, none⟩ = false ∧
    ∀ u : Int, (∀ k, At v0 k → k < B) → g2 < B → g1 < B → w0.heap.size ≤ B → LoopB w0 (wr.setCell ⟨g, off + j, none⟩ (.int .u8 u)) B g1 g2 A n c xs i e v0 (.slice A7 L c7) L := by
  obtain ⟨hr, hs, ys, hl, hw⟩ := h
  obtain ⟨g, off, rfl⟩ := ApB.win_pos hw (by omega)
  obtain ⟨y, hy⟩ := get_some (xs := ys) (i := j) (by omega)
  obtain ⟨hc, hf⟩ := hw.cell (j := j) (u := .int .u8 y) (by simp [nums, hy])
  refine ⟨g, off, y, rfl, hc, hf, fun u hv h2 h1 h0 => ?_⟩
  obtain ⟨hw', hF⟩ := hw.store j hj (.int .u8 u)
  have hB : ∀ k, At (.slice (some ⟨g, off, none⟩) L c7) k → B ≤ k := fun k hk => (hw.at_ hk).1
  have hr' := hr.fr hF (fun hk => by have := hB _ hk; omega) (fun k hk hk2 => by have := hB _ hk2; have := hv k hk; omega)
  refine ⟨hr', ⟨hr'.rdr, hF.get hs.mod (fun hk => by have := hB _ hk; omega), hs.bel.trans (hF.below hs.bel.size (fun k hk => by have := hB k hk; omega)), hs.old, hs.at2⟩, ys.set j u, by simpa using hl, ?_⟩
  have e : (nums .u8 ys).set j (.int .u8 u) = nums .u8 (ys.set j u) := by simp [nums, List.map_set]
  rwa [e] at hw'
def Kept (w0 w' : World) (g1 g2 : Nat) (A : Option Addr) (n c : Nat) (xs : List Int) (e : Int) : Prop := ∃ i' e', Syn w0 w' g1 g2 A n c xs i' e' i' e' ∧ (e ≠ 0 → e' = e)

set_option maxRecDepth 100000 in
set_option maxHeartbeats 1000000 in
theorem one_u (h : Syn w0 W g1 g2 A n c xs i e i e) (I : Inp w0 A n c xs) (m : Int) (hm0 : -9223372036854775808 ≤ m) (hm1 : m ≤ 9223372036854775807) : Calls Try.prog 46 #[.pointer (some ⟨g1, 0, none⟩), .pointer (some ⟨g2, 0, none⟩), .agg #[.int .i64 0, .int .i64 m]] W fun e' w' => e' = .returned (.bool true) ∧ Kept w0 w' g1 g2 A n c xs e := by
  obtain ⟨bx, by'⟩ := box2 W (.int .i64 0) (.int .i64 m) 70
  have hs := h.below (below_alloc (Below.refl _ _) (.cells #[.int .i64 0, .int .i64 m] 70))
  have S0 := Aside0.mk hs
  have hb1 : W.heap.size ≠ g1 := fun h' => by have := h.cod.lt; omega
  have hb2 : W.heap.size ≠ g2 := fun h' => by have := blk_lt h.mod; omega
  have HB1 := Aside0.mk hb1
  have HB2 := Aside0.mk hb2
  clear h hs hb1 hb2
  have H1 := Aside0.mk (cod_u S0.out I)
  have H2 := Aside0.mk (fun (w1 : World) (i1 : Nat) (e1 : Int) (h1 : Syn w0 w1 g1 g2 A n c xs i1 e1 i e) => mod_u h1 I)
  go_enter Try.func46, Try.ntmps46
  go_wp2_with (first | (go_at_call 19; go_must (refine H1.out.mono ?_; rintro e' w1 ⟨rfl, q1, q2⟩; have Q1 := Aside0.mk q1; clear q1 q2)) | (go_at_call 95; go_must (refine (H2.out w1 _ _ Q1.out).mono ?_; rintro e' w2 ⟨rfl, q1, q2⟩; have Q2 := Aside0.mk q1; clear q1 q2)))
  go_ret
  exact ⟨rfl, _, _, Q2.out, rU_keep⟩
set_option maxRecDepth 100000 in
set_option maxHeartbeats 1000000 in
theorem one_i (h : Syn w0 W g1 g2 A n c xs i e i e) (I : Inp w0 A n c xs) (m : Int) (hm0 : -9223372036854775808 ≤ m) (hm1 : m ≤ 9223372036854775807) : Calls Try.prog 46 #[.pointer (some ⟨g1, 0, none⟩), .pointer (some ⟨g2, 0, none⟩), .agg #[.int .i64 1, .int .i64 m]] W fun e' w' => e' = .returned (.bool true) ∧ Kept w0 w' g1 g2 A n c xs e := by
  obtain ⟨bx, by'⟩ := box2 W (.int .i64 1) (.int .i64 m) 70
  have hs := h.below (below_alloc (Below.refl _ _) (.cells #[.int .i64 1, .int .i64 m] 70))
  have S0 := Aside0.mk hs
  have hb1 : W.heap.size ≠ g1 := fun h' => by have := h.cod.lt; omega
  have hb2 : W.heap.size ≠ g2 := fun h' => by have := blk_lt h.mod; omega
  have HB1 := Aside0.mk hb1
  have HB2 := Aside0.mk hb2
  clear h hs hb1 hb2
  have H1 := Aside0.mk (cod_i S0.out I)
  have H2 := Aside0.mk (fun (w1 : World) (i1 : Nat) (e1 : Int) (h1 : Syn w0 w1 g1 g2 A n c xs i1 e1 i e) => mod_i h1 I)
  go_enter Try.func46, Try.ntmps46
  go_wp2_with (first | (go_at_call 21; go_must (refine H1.out.mono ?_; rintro e' w1 ⟨rfl, q1, q2⟩; have Q1 := Aside0.mk q1; clear q1 q2)) | (go_at_call 90; go_must (refine (H2.out w1 _ _ Q1.out).mono ?_; rintro e' w2 ⟨rfl, q1, q2⟩; have Q2 := Aside0.mk q1; clear q1 q2)))
  go_ret
  exact ⟨rfl, _, _, Q2.out, rU_keep⟩
set_option maxRecDepth 100000 in
set_option maxHeartbeats 1000000 in
theorem one_e (h : Syn w0 W g1 g2 A n c xs i e i e) (I : Inp w0 A n c xs) (m : Int) (hm0 : -9223372036854775808 ≤ m) (hm1 : m ≤ 9223372036854775807) : Calls Try.prog 46 #[.pointer (some ⟨g1, 0, none⟩), .pointer (some ⟨g2, 0, none⟩), .agg #[.int .i64 5, .int .i64 m]] W fun e' w' => e' = .returned (.bool true) ∧ Kept w0 w' g1 g2 A n c xs e := by
  obtain ⟨bx, by'⟩ := box2 W (.int .i64 5) (.int .i64 m) 70
  have hs := h.below (below_alloc (Below.refl _ _) (.cells #[.int .i64 5, .int .i64 m] 70))
  have S0 := Aside0.mk hs
  have hb1 : W.heap.size ≠ g1 := fun h' => by have := h.cod.lt; omega
  have hb2 : W.heap.size ≠ g2 := fun h' => by have := blk_lt h.mod; omega
  have HB1 := Aside0.mk hb1
  have HB2 := Aside0.mk hb2
  clear h hs hb1 hb2
  have H1 := Aside0.mk (cod_e S0.out I)
  have H2 := Aside0.mk (fun (w1 : World) (i1 : Nat) (e1 : Int) (h1 : Syn w0 w1 g1 g2 A n c xs i1 e1 i e) => mod_e h1 I)
  go_enter Try.func46, Try.ntmps46
  go_wp2_with (first | (go_at_call 35; go_must (refine H1.out.mono ?_; rintro e' w1 ⟨rfl, q1, q2⟩; have Q1 := Aside0.mk q1; clear q1 q2)) | (go_at_call 91; go_must (refine (H2.out w1 _ _ Q1.out).mono ?_; rintro e' w2 ⟨rfl, q1, q2⟩; have Q2 := Aside0.mk q1; clear q1 q2)))
  go_ret
  exact ⟨rfl, _, _, Q2.out, rE_keep⟩
set_option maxRecDepth 100000 in
set_option maxHeartbeats 1000000 in
theorem one_s (h : Syn w0 W g1 g2 A n c xs i e i e) (I : Inp w0 A n c xs) (m : Int) (hm0 : -9223372036854775808 ≤ m) (hm1 : m ≤ 9223372036854775807) : Calls Try.prog 46 #[.pointer (some ⟨g1, 0, none⟩), .pointer (some ⟨g2, 0, none⟩), .agg #[.int .i64 2, .int .i64 m]] W fun e' w' => e' = .returned (.bool true) ∧ Kept w0 w' g1 g2 A n c xs e := by
  obtain ⟨bx, by'⟩ := box2 W (.int .i64 2) (.int .i64 m) 70
  have hs := h.below (below_alloc (Below.refl _ _) (.cells #[.int .i64 2, .int .i64 m] 70))
  have S0 := Aside0.mk hs
  have hb1 : W.heap.size ≠ g1 := fun h' => by have := h.cod.lt; omega
  have hb2 : W.heap.size ≠ g2 := fun h' => by have := blk_lt h.mod; omega
  have HB1 := Aside0.mk hb1
  have HB2 := Aside0.mk hb2
  clear h hs hb1 hb2
  have H1 := Aside0.mk (fun (w1 : World) (h1 : Syn w0 w1 g1 g2 A n c xs i e i e) => cod_s h1 I m hm1)
  have H2 := Aside0.mk (fun (w1 : World) (i1 : Nat) (e1 : Int) (h1 : Syn w0 w1 g1 g2 A n c xs i1 e1 i e) => mod_s h1 I m hm1)
  go_enter Try.func46, Try.ntmps46
  go_wp2_with fail
  go_region_held3 (fun w' => w'.cell? ⟨W.heap.size, 1, none⟩ = some (.int .i64 m)) (first | exact (by simpa using by') | assumption) (first | (go_at_call 53; refine (H1.out _ (S0.out.below (below_drew (Below.refl _ _)))).mono ?_; rintro e' w1 ⟨rfl, q1, q2⟩; have hc1 := keep_cell q2 HB1.out (show (W.alloc (.cells #[.int .i64 2, .int .i64 m] 70)).drew.cell? ⟨W.heap.size, 1, none⟩ = some (.int .i64 m) by simpa using by'); have Q1 := Aside0.mk q1; clear q1 q2) | (go_at_call 88; refine (H2.out w1 _ _ Q1.out).mono ?_; rintro e' w2 ⟨rfl, q1, q2⟩; have hc2 := keep_cell q2 HB2.out hc1; have Q2 := Aside0.mk q1; clear q1 q2))
  go_wp2_with fail
  go_ret
  exact ⟨rfl, _, _, Q2.out, rS_keep⟩
set_option maxRecDepth 100000 in
set_option maxHeartbeats 1000000 in
theorem one_t (h : Syn w0 W g1 g2 A n c xs i e i e) (I : Inp w0 A n c xs) (m : Int) (hm0 : -9223372036854775808 ≤ m) (hm1 : m ≤ 9223372036854775807) : Calls Try.prog 46 #[.pointer (some ⟨g1, 0, none⟩), .pointer (some ⟨g2, 0, none⟩), .agg #[.int .i64 3, .int .i64 m]] W fun e' w' => e' = .returned (.bool true) ∧ Kept w0 w' g1 g2 A n c xs e := by
  obtain ⟨bx, by'⟩ := box2 W (.int .i64 3) (.int .i64 m) 70
  have hs := h.below (below_alloc (Below.refl _ _) (.cells #[.int .i64 3, .int .i64 m] 70))
  have S0 := Aside0.mk hs
  have hb1 : W.heap.size ≠ g1 := fun h' => by have := h.cod.lt; omega
  have hb2 : W.heap.size ≠ g2 := fun h' => by have := blk_lt h.mod; omega
  have HB1 := Aside0.mk hb1
  have HB2 := Aside0.mk hb2
  clear h hs hb1 hb2
  have H1 := Aside0.mk (fun (w1 : World) (h1 : Syn w0 w1 g1 g2 A n c xs i e i e) => cod_t h1 I m hm1)
  have H2 := Aside0.mk (fun (w1 : World) (i1 : Nat) (e1 : Int) (h1 : Syn w0 w1 g1 g2 A n c xs i1 e1 i e) => mod_t h1 I m hm1)
  go_enter Try.func46, Try.ntmps46
  go_wp2_with fail
  go_region_held3 (fun w' => w'.cell? ⟨W.heap.size, 1, none⟩ = some (.int .i64 m)) (first | exact (by simpa using by') | assumption) (first | (go_at_call 34; refine (H1.out _ (S0.out.below (below_drew (Below.refl _ _)))).mono ?_; rintro e' w1 ⟨rfl, q1, q2⟩; have hc1 := keep_cell q2 HB1.out (show (W.alloc (.cells #[.int .i64 3, .int .i64 m] 70)).drew.cell? ⟨W.heap.size, 1, none⟩ = some (.int .i64 m) by simpa using by'); have Q1 := Aside0.mk q1; clear q1 q2) | (go_at_call 89; refine (H2.out w1 _ _ Q1.out).mono ?_; rintro e' w2 ⟨rfl, q1, q2⟩; have hc2 := keep_cell q2 HB2.out hc1; have Q2 := Aside0.mk q1; clear q1 q2))
  go_wp2_with fail
  go_ret
  exact ⟨rfl, _, _, Q2.out, rT_keep⟩
set_option maxRecDepth 100000 in
set_option maxHeartbeats 1000000 in
theorem one_o (h : Syn w0 W g1 g2 A n c xs i e i e) (I : Inp w0 A n c xs) (op : Int) (h0 : ¬ op = 0) (h1 : ¬ op = 1) (h2 : ¬ op = 2) (h3 : ¬ op = 3) (h4 : ¬ op = 4) (h5 : ¬ op = 5) (m : Int) (hm0 : -9223372036854775808 ≤ m) (hm1 : m ≤ 9223372036854775807) : Calls Try.prog 46 #[.pointer (some ⟨g1, 0, none⟩), .pointer (some ⟨g2, 0, none⟩), .agg #[.int .i64 op, .int .i64 m]] W fun e' w' => e' = .returned (.bool true) ∧ Kept w0 w' g1 g2 A n c xs e := by
  obtain ⟨bx, by'⟩ := box2 W (.int .i64 op) (.int .i64 m) 70
  have hs := h.below (below_alloc (Below.refl _ _) (.cells #[.int .i64 op, .int .i64 m] 70))
  have S0 := Aside0.mk hs
  have hb1 : W.heap.size ≠ g1 := fun h' => by have := h.cod.lt; omega
  have hb2 : W.heap.size ≠ g2 := fun h' => by have := blk_lt h.mod; omega
  have HB1 := Aside0.mk hb1
  have HB2 := Aside0.mk hb2
  clear h hs hb1 hb2
  have k0 : (op == 0) = false := by simp [h0]
  have k1 : (op == 1) = false := by simp [h1]
  have k2 : (op == 2) = false := by simp [h2]
  have k3 : (op == 3) = false := by simp [h3]
  have k4 : (op == 4) = false := by simp [h4]
  have k5 : (op == 5) = false := by simp [h5]
  clear h0 h1 h2 h3 h4 h5
  go_enter Try.func46, Try.ntmps46
  go_wp2_with fail
  go_ret
  exact ⟨rfl, _, _, S0.out, fun _ => rfl⟩
set_option maxRecDepth 100000 in
set_option maxHeartbeats 1000000 in
theorem one_b (h : Syn w0 W g1 g2 A n c xs i e i e) (I : Inp w0 A n c xs) (m : Int) (hm0 : -9223372036854775808 ≤ m) (hm1 : m ≤ 9223372036854775807) : Calls Try.prog 46 #[.pointer (some ⟨g1, 0, none⟩), .pointer (some ⟨g2, 0, none⟩), .agg #[.int .i64 4, .int .i64 m]] W fun e' w' => e' = .returned (.bool true) ∧ Kept w0 w' g1 g2 A n c xs e := by
  obtain ⟨bx, by'⟩ := box2 W (.int .i64 4) (.int .i64 m) 70
  have hs := h.below (below_alloc (Below.refl _ _) (.cells #[.int .i64 4, .int .i64 m] 70))
  have S0 := Aside0.mk hs
  have hb1 : W.heap.size ≠ g1 := fun h' => by have := h.cod.lt; omega
  have hb2 : W.heap.size ≠ g2 := fun h' => by have := blk_lt h.mod; omega
  have HB1 := Aside0.mk hb1
  have HB2 := Aside0.mk hb2
  clear h hs hb1 hb2
  obtain ⟨W', hW'⟩ : ∃ W', W' = W.alloc (.cells #[.int .i64 4, .int .i64 m] 70) := ⟨_, rfl⟩
  obtain ⟨v0, r0, hv0⟩ := S0.out.cod.open
  have H1 := Aside0.mk (BytesV_any _ w0.heap.size g1 i xs e m v0 r0 (by have := I.len; have := I.max; omega) hm0 hm1)
  have H2 := Aside0.mk (fun (w1 : World) (i1 : Nat) (e1 : Int) (h1 : Syn w0 w1 g1 g2 A n c xs i1 e1 i e) => mod_b h1 I m)
  have HV0 := Aside0.mk hv0
  clear r0 hv0 hW' W'
  generalize hbs : (rB xs i e m).1 = bs at H1 H2
  generalize hi' : (rB xs i e m).2.1 = i' at H1 H2
  generalize he' : (rB xs i e m).2.2 = e1 at H1 H2
  have HKE := Aside0.mk (show e ≠ 0 → e1 = e from fun h => by rw [← he']; exact rB_keep h)
  clear hbs hi' he'
  generalize hL : bs.length = L at H1 H2
  have HL := Aside0.mk hL
  clear hL
  go_enter Try.func46, Try.ntmps46
  go_wp2_with (first | (go_at_call 52; go_must (refine H1.out.mono ?_; rintro e' w1 ⟨v, rfl, q0, q1, q2⟩; have hc1 := keep_cell q2 HB1.out by'; have Q1 := Aside0.mk (S0.out.cod1 q1.rdr q2); have R1 := Aside0.mk q1; have F1 := Aside0.mk q2; obtain ⟨A7, c7, e7, l7⟩ := q0.shape; subst e7; have V1 := Aside0.mk q0; clear q0 q1 q2)) | (go_at_call 96; go_must (refine (H2.out w1 _ _ Q1.out).mono ?_; rintro e' w2 ⟨v, rfl, q0, q1, q2⟩; have Q2 := Aside0.mk q1; have V2 := Aside0.mk (V1.out.fr q2 (fun k hk hs => by have hs' : k = g2 := hs; subst hs'; exact V1.out.young hk (blk_lt S0.out.mod))); have R2 := Aside0.mk (R1.out.fr q2 (fun hk => Q1.out.ne hk) (fun k hk hs => by have hs' : k = g2 := hs; subst hs'; exact absurd (R1.out.2.2.2.ne_type hk Q1.out.mod) (by decide))); obtain ⟨A8, c8, e8, l8⟩ := q0.shape; subst e8; have V3 := Aside0.mk q0; clear q0 q1 q2)) | (go_at_call 24; go_must (refine (KBytes_same w2 A7 A8 _ _ c7 c8 bs (RdV.of_win V2.out) (RdV.of_win V3.out) HL.out HL.out V2.out.max l7 l8).mono ?_; rintro e' w3 ⟨rfl, m3, rfl⟩)))
  have hLm := V2.out.max
  go_loopw [9] (fun v9 wr => ∃ j : Nat, v9 = .int .i64 j ∧ j ≤ L ∧ Aside0 (LoopB w0 wr (W.heap.size + 1) g1 g2 A n c xs i' e1 v0 (.slice A7 L c7) L)) (fun v9 _ => L - (intOf v9).toNat)
  case atStart => exact ⟨0, rfl, by omega, ⟨LoopB.start (m3 := m3) Q2.out R2.out (by simpa using V2.out) HL.out⟩⟩
  case round =>
    obtain ⟨j, rfl, hj, HR⟩ := hrel
    by_cases hlt : j < L
    · obtain ⟨g, off, y, rfl, hc2, hf2, hst⟩ := HR.out.step hlt
      have HST := Aside0.mk (fun u => hst u (fun k hk => by have := HV0.out k hk; simpa using this) (by have := blk_lt S0.out.mod; simpa using this) (by have := S0.out.cod.lt; simpa using this) (by have := S0.out.bel.size; simpa using this))
      clear hst
      go_wp2_with fail
      go_roundw
      case rel => exact ⟨j + 1, by simp, by omega, ⟨HST.out _⟩⟩
      case measure => simp [intOf]; omega
    · go_wp2_with fail
      go_ret
      exact ⟨rfl, i', e1, HR.out.syn, HKE.out⟩
end
end Go.Proofs.Ytchcimkmjoegdaa.C
