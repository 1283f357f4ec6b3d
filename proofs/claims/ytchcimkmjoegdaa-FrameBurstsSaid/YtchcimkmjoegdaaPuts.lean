/- CodecPuts' walk: for any number and text behind any bytes the call answers true. Conditions: the bytes and the text have at most 2^40 bytes. -/
import Derived.Test.YtchcimkmjoegdaaRefA
import Derived.Test.YtchcimkmjoegdaaApBW
import Derived.Test.YtchcimkmjoegdaaLawA
import Derived.Deep.RegionWith
namespace Go.Proofs.Ytchcimkmjoegdaa.C
open Go.RowKit Go.Proofs.YtchcimkmjoegdaaW.PrintWords Go.Proofs.YtchcimkmjoegdaaW.PrintMore Go.Proofs.Ytchcimkmjoegdaa.M
set_option linter.unusedVariables false
set_option linter.unusedSimpArgs false

theorem src_nums {P : Program} {w : World} {A : Option Addr} {m c : Nat} {k : IntKind} {xs : List Int} (h : RdV w A (nums k xs)) (hl : xs.length = m) : Src P w 1 (.slice A m c) m (nums k xs) := Src.of_rd h (by rw [nums_length, hl, Nat.mul_one]) (nums_one _ _)
/-- Three lists in blocks of their own. -/
theorem apart3 (W : World) (base n1 n2 n3 : Nat) (v1 v2 v3 : Value) (x1 x2 x3 : List Value) (h1 : Win W base 5 1 v1 n1 x1) (h2 : Win W base 5 1 v2 n2 x2) (h3 : Win W base 5 1 v3 n3 x3) (b1 : n1 ≤ 70368744177664) (b2 : n2 ≤ 70368744177664) (b3 : n3 ≤ 70368744177664)
    (s12 : ∀ k, At v1 k → ¬ At v2 k) (s13 : ∀ k, At v1 k → ¬ At v3 k) (s23 : ∀ k, At v2 k → ¬ At v3 k) (hb : base ≤ W.heap.size) :
    Calls Try.prog 33 #[.slice (some ⟨W.heap.size, 0, none⟩) 3 3] (W.alloc (.cells #[v1, v2, v3] 22)) fun e w' => e = .returned (.bool true) ∧ Fr (fun k => At v1 k ∨ At v2 k ∨ At v3 k) W w' := by
  have hc : ∀ (j : Nat) (v : Value) (n : Nat), ([(v1, n1), (v2, n2), (v3, n3)] : List (Value × Nat))[j]? = some (v, n) → (j = 0 ∧ v = v1 ∧ n = n1) ∨ (j = 1 ∧ v = v2 ∧ n = n2) ∨ (j = 2 ∧ v = v3 ∧ n = n3) := fun j v n hj => by
    match j, hj with
    | 0, hj => simp at hj; exact .inl ⟨rfl, hj.1.symm, hj.2.symm⟩
    | 1, hj => simp at hj; exact .inr (.inl ⟨rfl, hj.1.symm, hj.2.symm⟩)
    | 2, hj => simp at hj; exact .inr (.inr ⟨rfl, hj.1.symm, hj.2.symm⟩)
    | j + 3, hj => simp at hj
  have hb0 := below_alloc (Below.refl W.heap.size W) (.cells #[v1, v2, v3] 22)
  have hul : ∀ k, ApB.UL [(v1, n1), (v2, n2), (v3, n3)] k → At v1 k ∨ At v2 k ∨ At v3 k := fun k hk => by
    obtain ⟨j, v, n, hj, hk⟩ := hk
    rcases hc j v n hj with ⟨_, rfl, _⟩ | ⟨_, rfl, _⟩ | ⟨_, rfl, _⟩
    · exact .inl hk
    · exact .inr (.inl hk)
    · exact .inr (.inr hk)
  have hlt : ∀ k, At v1 k ∨ At v2 k ∨ At v3 k → k < W.heap.size := fun k hk => by
    rcases hk with hk | hk | hk
    · exact (h1.at_ hk).2.1
    · exact (h2.at_ hk).2.1
    · exact (h3.at_ hk).2.1
  refine (ApB.any (W.alloc (.cells #[v1, v2, v3] 22)) base (some ⟨W.heap.size, 0, none⟩) 3 3 [(v1, n1), (v2, n2), (v3, n3)] rfl (fun _ => ⟨_, rfl, ?_⟩) (fun j v n hj => ?_) (fun i j v n v' n' k hne hi hj hk hk' => ?_) (fun k ad hk he => ?_) (Nat.le_refl _) (by decide) (by simp; omega)).mono fun e w' ⟨he, hf⟩ => ⟨he, (Fr.alloc (S := No) W _).trans hf (fun _ _ h => h.elim) (fun k _ hk => hul k hk)⟩
  · simpa using World.news_of_block (cs := #[v1, v2, v3]) (t := 22) (fr := (0, 0)) (heap_alloc_new W (.cells #[v1, v2, v3] 22))
  · rcases hc j v n hj with ⟨_, rfl, rfl⟩ | ⟨_, rfl, rfl⟩ | ⟨_, rfl, rfl⟩
    · exact ⟨b1, _, h1.below hb0⟩
    · exact ⟨b2, _, h2.below hb0⟩
    · exact ⟨b3, _, h3.below hb0⟩
  · rcases hc i v n hi with ⟨rfl, rfl, _⟩ | ⟨rfl, rfl, _⟩ | ⟨rfl, rfl, _⟩ <;> rcases hc j v' n' hj with ⟨rfl, rfl, _⟩ | ⟨rfl, rfl, _⟩ | ⟨rfl, rfl, _⟩
    · exact hne rfl
    · exact s12 k hk hk'
    · exact s13 k hk hk'
    · exact s12 k hk' hk
    · exact hne rfl
    · exact s23 k hk hk'
    · exact s13 k hk' hk
    · exact s23 k hk' hk
    · exact hne rfl
  · injection he with he
    subst he
    have := hlt k (hul k hk)
    simp only
    omega
theorem KBytes_same (w : World) (A B : Option Addr) (n n' c d : Nat) (xs : List Int) (hx : RdV w A (nums .u8 xs)) (hy : RdV w B (nums .u8 xs)) (hl : xs.length = n) (hl' : xs.length = n') (hn : n ≤ 9223372036854775807) (hc : n ≤ c) (hd : n' ≤ d) :
    Calls Try.prog 24 #[.slice A n c, .slice B n' d] w fun e w' => e = .returned (.bool true) ∧ ∃ m, w' = w.drewN m := by
  obtain rfl : n = n' := hl.symm.trans hl'
  exact KBytes_true w A B n c d xs hx hy hl hn hc hd
set_option maxRecDepth 100000 in
set_option maxHeartbeats 8000000 in
theorem CodecPuts_walk (w : World) (A : Option Addr) (n c : Nat) (xs : List Int) (u : Nat) (q : Int) (s : ByteArray) (hr : RdV w A (nums .u8 xs)) (hl : xs.length = n) (h0 : A = none → c = 0) (hc : n ≤ c) (hn : n ≤ 1099511627776) (hs : s.size ≤ 1099511627776) (hu : u < M64) (hq0 : -9223372036854775808 ≤ q) (hq1 : q ≤ 9223372036854775807) :
    Calls Try.prog 4 #[.slice A n c, .int .u64 u, .int .i64 q, .string s] w fun e w' => e = .returned (.bool true) ∧ Below w.heap.size w w' := by
  have hz := zig_64 q hq0 hq1
  have hu10 := uenc_10 u hu
  have hz10 := uenc_10 _ hz
  have hs64 : s.size < M64 := by rw [M64_eq]; omega
  have hs10 := uenc_10 s.size hs64
  have HIN := Aside0.mk (LentBytes_any w A n c xs hr hl hc (by omega))
  have hin : ∀ (W : World) (Ai : Option Addr) (ci : Nat), Win W w.heap.size 5 1 (.slice Ai (n + 1) ci) (n + 1) (nums .u8 (xs ++ [201])) → RdV W Ai (nums .u8 xs) ∧ (Ai = none → ci = 0) ∧ n ≤ ci := fun W Ai ci h => by
    refine ⟨?_, fun e => by subst e; exact h.nil_cap, ?_⟩
    · have := RdV.take (RdV.of_win h) n
      rwa [nums_take, ← hl, List.take_left] at this
    · obtain ⟨_, _, e, hle⟩ := h.shape
      injection e with _ _ e
      omega
  have HP := Aside0.mk (fun (W : World) (Ai : Option Addr) (ci : Nat) (h : Win W w.heap.size 5 1 (.slice Ai (n + 1) ci) (n + 1) (nums .u8 (xs ++ [201]))) => PutUint_any W Ai n ci u xs (hin W Ai ci h).1 hl (hin W Ai ci h).2.1 (hin W Ai ci h).2.2 (by omega) hu)
  have HI := Aside0.mk (fun (W : World) (Ai : Option Addr) (ci : Nat) (h : Win W w.heap.size 5 1 (.slice Ai (n + 1) ci) (n + 1) (nums .u8 (xs ++ [201]))) => PutInt_any W Ai n ci q xs (hin W Ai ci h).1 hl (hin W Ai ci h).2.1 (hin W Ai ci h).2.2 (by omega) hq0 hq1)
  have HT := Aside0.mk (fun (W : World) (Ai : Option Addr) (ci : Nat) (h : Win W w.heap.size 5 1 (.slice Ai (n + 1) ci) (n + 1) (nums .u8 (xs ++ [201]))) => PutText_any W Ai n ci s xs (hin W Ai ci h).1 hl (hin W Ai ci h).2.1 (hin W Ai ci h).2.2 (by omega))
  have HU := Aside0.mk (fun W => refUint_any W u hu)
  have HTU := Aside0.mk (fun W => (refTurned_any W q hq0 hq1).mono fun e w' h => (⟨h.1, h.2.symm⟩ : e = .returned (.int .u64 (Lib.zigzag q : Nat)) ∧ W = w'))
  have HZ := Aside0.mk (fun W => refUint_any W _ hz)
  have HX := Aside0.mk (fun W => refText_any W s (by omega))
  have HSB := Aside0.mk (fun (W : World) (h : Fr No w W) => Src.of_rd (P := Try.prog) (size := 1) (m := n) (c := c) (hr.below h.no) (by simp [nums, hl]) (nums_one _ _))
  have HB0 := Aside0.mk (show 0 + n ≤ maxLen ∧ (0 + n + (0 + n) / 4 + 700) * 1 ≤ 281474976710656 from small_bound (by omega))
  have HB1 := Aside0.mk (small_bound (n := n + (uenc u).length) (by omega))
  have HB2 := Aside0.mk (small_bound (n := n + (uenc (Lib.zigzag q)).length) (by omega))
  have HB3 := Aside0.mk (small_bound (n := n + ((uenc s.size).length + s.size)) (by omega))
  have HR := Aside0.mk hr
  have HL := Aside0.mk hl
  have HN := Aside0.mk hn
  have HS10 := Aside0.mk hs10
  have HS := Aside0.mk hs
  have HU10 := Aside0.mk hu10
  have HZ10 := Aside0.mk hz10
  have HC := Aside0.mk hc
  have HW2 := Aside0.mk (show (uenc s.size ++ bytesOf s).length = (uenc s.size).length + s.size from by simp [bytesOf_length])
  have tok0 : Aside0 True := ⟨trivial⟩
  have tok1 : Aside0 True := ⟨trivial⟩
  have tok2 : Aside0 True := ⟨trivial⟩
  clear hr hl h0 hc hn hs hu hq0 hq1 hz hu10 hz10 hs64 hs10 hin
  go_enter Try.func4, Try.ntmps4
  go_wp2_with (first | (go_at_call 27; go_must (refine HIN.out.mono ?_; rintro e' w1 ⟨Ai, ci, rfl, q1, q2⟩; have I1 := Aside0.mk q1; have F1 := Aside0.mk q2; clear q1 q2)) | (go_at_call 25; go_must (refine (HP.out w1 Ai ci I1.out).mono ?_; rintro e' w2 ⟨v, rfl, q1, q2⟩; obtain ⟨A2, c2, e2, l2⟩ := q1.shape; subst e2; have L2 := Aside0.mk l2; clear l2; have X2 := Aside0.mk q1; have F2 := Aside0.mk q2; have I2 := Aside0.mk (I1.out.below q2.no); clear q1 q2)) | (go_at_call 26; go_must (refine (HI.out w2 Ai ci I2.out).mono ?_; rintro e' w3 ⟨v, rfl, q1, q2⟩; obtain ⟨A3, c3, e3, l3⟩ := q1.shape; subst e3; have L3 := Aside0.mk l3; clear l3; have X3 := Aside0.mk q1; have F3 := Aside0.mk q2; have I3 := Aside0.mk (I2.out.below q2.no); clear q1 q2)) | (go_at_call 28; go_must (refine (HT.out w3 Ai ci I3.out).mono ?_; rintro e' w4 ⟨v, rfl, q1, q2⟩; obtain ⟨A4, c4, e4, l4⟩ := q1.shape; subst e4; have L4 := Aside0.mk l4; clear l4; have X4 := Aside0.mk q1; have F4 := Aside0.mk q2; have I4 := Aside0.mk (I3.out.below q2.no); clear q1 q2; have N4 := Aside0.mk (show Fr No w w4 from ((F1.out.trans F2.out (fun _ _ h => h) (fun _ _ h => h)).trans F3.out (fun _ _ h => h) (fun _ _ h => h)).trans F4.out (fun _ _ h => h) (fun _ _ h => h)))) | ((with_reducible refine gate_builtin (b := .append) (xs := #[.tmp 27, .tmp 28]) rfl ?_); at_builtin; go_must (refine wpl_append w4 w4.heap.size rfl (.tmp 27) (.tmp 28) 22 22 5 (.int .u8 0) 1 1 (.slice 5) rfl Try.underlying22 Try.underlying22 (.inl ⟨_, rfl⟩) info5 rfl (.slice none 0 0) 0 [] (.slice A n c) n (nums .u8 xs) rfl rfl (Win.nil _ _ _ _) (HSB.out w4 N4.out) (Nat.le_refl _) HB0.out.1 HB0.out.2 ?_; intro v5 w5 g1 _ g3 _; have G5 := Aside0.mk g1; have F5 := Aside0.mk (show Fr No w4 w5 from g3.mono (fun _ _ h => (At.none h).elim)); clear g1 g3; obtain ⟨A5, c5, e5, l5⟩ := G5.out.shape; subst e5; have L5 := Aside0.mk l5; clear l5)) | (go_at_call_of 29 u; go_must (refine (HU.out w5).mono ?_; rintro e' w6 ⟨v6, rfl, q1, q2⟩; have G6 := Aside0.mk q1; have F6 := Aside0.mk (show Fr No w4 w6 from F5.out.trans q2 (fun _ _ h => h) (fun _ _ h => h)); have K6 := Aside0.mk ((show Win w5 w4.heap.size 5 1 (.slice A5 n c5) n (nums .u8 xs) by simpa using G5.out).below q2.no); clear q1 q2; obtain ⟨A6, c6, e6, l6⟩ := G6.out.shape; subst e6)) | ((with_reducible refine gate_builtin (b := .append) (xs := #[.tmp 29, .tmp 31]) rfl ?_); at_builtin; go_must (refine wpl_append w6 w4.heap.size rfl (.tmp 29) (.tmp 31) 22 22 5 (.int .u8 0) 1 1 (.slice 5) rfl Try.underlying22 Try.underlying22 (.inl ⟨_, rfl⟩) info5 rfl (.slice A5 n c5) n (nums .u8 xs) (.slice A6 (uenc u).length c6) (uenc u).length (nums .u8 (uenc u)) rfl rfl K6.out (src_nums (RdV.of_win G6.out) rfl) F6.out.size HB1.out.1 HB1.out.2 ?_; intro v7 w7 g1 _ g3 _; have G7 := Aside0.mk g1; have F7 := Aside0.mk (own_step F6.out K6.out g3); clear g1 g3; obtain ⟨A7, c7, e7, l7⟩ := G7.out.shape; subst e7; have L7 := Aside0.mk l7; clear l7; have N7 := Aside0.mk (show Fr No w w7 from N4.out.trans F7.out (fun _ _ h => h) (fun _ _ h => h)))) | ((with_reducible refine gate_builtin (b := .append) (xs := #[.tmp 33, .tmp 34]) rfl ?_); at_builtin; go_must (refine wpl_append w7 w7.heap.size rfl (.tmp 33) (.tmp 34) 22 22 5 (.int .u8 0) 1 1 (.slice 5) rfl Try.underlying22 Try.underlying22 (.inl ⟨_, rfl⟩) info5 rfl (.slice none 0 0) 0 [] (.slice A n c) n (nums .u8 xs) rfl rfl (Win.nil _ _ _ _) (HSB.out w7 N7.out) (Nat.le_refl _) HB0.out.1 HB0.out.2 ?_; intro v8 w8 g1 _ g3 _; have G8 := Aside0.mk g1; have F8 := Aside0.mk (show Fr No w7 w8 from g3.mono (fun _ _ h => (At.none h).elim)); clear g1 g3; obtain ⟨A8, c8, e8, l8⟩ := G8.out.shape; subst e8; have L8 := Aside0.mk l8; clear l8)) | (go_at_call 30; go_must (refine (HTU.out _).mono ?_; rintro e' w' ⟨rfl, rfl⟩)) | (go_at_call_of 29 q; go_must (refine (HZ.out w8).mono ?_; rintro e' w9 ⟨v9, rfl, q1, q2⟩; have G9 := Aside0.mk q1; have F9 := Aside0.mk (show Fr No w7 w9 from F8.out.trans q2 (fun _ _ h => h) (fun _ _ h => h)); have K9 := Aside0.mk ((show Win w8 w7.heap.size 5 1 (.slice A8 n c8) n (nums .u8 xs) by simpa using G8.out).below q2.no); clear q1 q2; obtain ⟨A9, c9, e9, l9⟩ := G9.out.shape; subst e9)) | ((with_reducible refine gate_builtin (b := .append) (xs := #[.tmp 35, .tmp 38]) rfl ?_); at_builtin; go_must (refine wpl_append w9 w7.heap.size rfl (.tmp 35) (.tmp 38) 22 22 5 (.int .u8 0) 1 1 (.slice 5) rfl Try.underlying22 Try.underlying22 (.inl ⟨_, rfl⟩) info5 rfl (.slice A8 n c8) n (nums .u8 xs) (.slice A9 (uenc (Lib.zigzag q)).length c9) (uenc (Lib.zigzag q)).length (nums .u8 (uenc (Lib.zigzag q))) rfl rfl K9.out (src_nums (RdV.of_win G9.out) rfl) F9.out.size HB2.out.1 HB2.out.2 ?_; intro v10 w10 g1 _ g3 _; have G10 := Aside0.mk g1; have F10 := Aside0.mk (own_step F9.out K9.out g3); clear g1 g3; obtain ⟨A10, c10, e10, l10⟩ := G10.out.shape; subst e10; have L10 := Aside0.mk l10; clear l10; have N10 := Aside0.mk (show Fr No w w10 from N7.out.trans F10.out (fun _ _ h => h) (fun _ _ h => h)))) | ((with_reducible refine gate_builtin (b := .append) (xs := #[.tmp 40, .tmp 41]) rfl ?_); at_builtin; go_must (refine wpl_append w10 w10.heap.size rfl (.tmp 40) (.tmp 41) 22 22 5 (.int .u8 0) 1 1 (.slice 5) rfl Try.underlying22 Try.underlying22 (.inl ⟨_, rfl⟩) info5 rfl (.slice none 0 0) 0 [] (.slice A n c) n (nums .u8 xs) rfl rfl (Win.nil _ _ _ _) (HSB.out w10 N10.out) (Nat.le_refl _) HB0.out.1 HB0.out.2 ?_; intro v11 w11 g1 _ g3 _; have G11 := Aside0.mk g1; have F11 := Aside0.mk (show Fr No w10 w11 from g3.mono (fun _ _ h => (At.none h).elim)); clear g1 g3; obtain ⟨A11, c11, e11, l11⟩ := G11.out.shape; subst e11; have L11 := Aside0.mk l11; clear l11)) | (go_at_call_of 31 s; go_must (refine (HX.out w11).mono ?_; rintro e' w12 ⟨v12, rfl, q1, q2⟩; have G12 := Aside0.mk q1; have F12 := Aside0.mk (show Fr No w10 w12 from F11.out.trans q2 (fun _ _ h => h) (fun _ _ h => h)); have K12 := Aside0.mk ((show Win w11 w10.heap.size 5 1 (.slice A11 n c11) n (nums .u8 xs) by simpa using G11.out).below q2.no); clear q1 q2; obtain ⟨A12, c12, e12, l12⟩ := G12.out.shape; subst e12)) | ((with_reducible refine gate_builtin (b := .append) (xs := #[.tmp 42, .tmp 44]) rfl ?_); at_builtin; go_must (refine wpl_append w12 w10.heap.size rfl (.tmp 42) (.tmp 44) 22 22 5 (.int .u8 0) 1 1 (.slice 5) rfl Try.underlying22 Try.underlying22 (.inl ⟨_, rfl⟩) info5 rfl (.slice A11 n c11) n (nums .u8 xs) (.slice A12 ((uenc s.size).length + s.size) c12) ((uenc s.size).length + s.size) (nums .u8 (uenc s.size ++ bytesOf s)) rfl rfl K12.out (src_nums (RdV.of_win G12.out) HW2.out) F12.out.size HB3.out.1 HB3.out.2 ?_; intro v13 w13 g1 _ g3 _; have G13 := Aside0.mk g1; have F13 := Aside0.mk (own_step F12.out K12.out g3); clear g1 g3; obtain ⟨A13, c13, e13, l13⟩ := G13.out.shape; subst e13; have L13 := Aside0.mk l13; clear l13; have N13 := Aside0.mk (show Fr No w w13 from N10.out.trans F13.out (fun _ _ h => h) (fun _ _ h => h)))))
  have F413 : Fr No w4 w13 := (F7.out.trans F10.out (fun _ _ h => h) (fun _ _ h => h)).trans F13.out (fun _ _ h => h) (fun _ _ h => h)
  have F313 : Fr No w3 w13 := F4.out.trans F413 (fun _ _ h => h) (fun _ _ h => h)
  have F213 : Fr No w2 w13 := F3.out.trans F313 (fun _ _ h => h) (fun _ _ h => h)
  have F713 : Fr No w7 w13 := F10.out.trans F13.out (fun _ _ h => h) (fun _ _ h => h)
  have Y2 := Aside0.mk (X2.out.below F213.no)
  have Y3 := Aside0.mk (X3.out.below F313.no)
  have Y4 := Aside0.mk (X4.out.below F413.no)
  have Y1 := Aside0.mk (I4.out.below F413.no)
  have hxu : (xs ++ uenc u).length = n + (uenc u).length := by simp [HL.out]
  have hxz : (xs ++ uenc (Lib.zigzag q)).length = n + (uenc (Lib.zigzag q)).length := by simp [HL.out]
  have hxt : (xs ++ uenc s.size ++ bytesOf s).length = n + (uenc s.size).length + s.size := by simp [HL.out, bytesOf_length]; omega
  have hpu : RdV w13 A7 (nums .u8 (xs ++ uenc u)) := by rw [nums_append]; exact RdV.of_win (G7.out.below F713.no)
  have hpz : RdV w13 A10 (nums .u8 (xs ++ uenc (Lib.zigzag q))) := by rw [nums_append]; exact RdV.of_win (G10.out.below F13.out.no)
  have hpt : RdV w13 A13 (nums .u8 (xs ++ uenc s.size ++ bytesOf s)) := by rw [List.append_assoc, nums_append]; exact RdV.of_win G13.out
  have hn := HN.out
  have hu10 := HU10.out
  have hz10 := HZ10.out
  have hs10 := HS10.out
  have hs := HS.out
  have hass : n + (uenc s.size).length + s.size = n + ((uenc s.size).length + s.size) := Nat.add_assoc ..
  have HE1 := Aside0.mk (KBytes_true w13 A2 A7 (n + (uenc u).length) c2 c7 (xs ++ uenc u) (RdV.of_win Y2.out) hpu hxu (by omega) L2.out L7.out)
  have HE2 := Aside0.mk (fun m => KBytes_true (w13.drewN m) A3 A10 (n + (uenc (Lib.zigzag q)).length) c3 c10 (xs ++ uenc (Lib.zigzag q)) ((RdV.of_win Y3.out).below (pw_below_drewN (Below.refl _ _) m)) (hpz.below (pw_below_drewN (Below.refl _ _) m)) hxz (by omega) L3.out L10.out)
  have HE3 := Aside0.mk (fun m => KBytes_same (w13.drewN m) A4 A13 (n + (uenc s.size).length + s.size) (n + ((uenc s.size).length + s.size)) c4 c13 (xs ++ uenc s.size ++ bytesOf s) ((RdV.of_win Y4.out).below (pw_below_drewN (Below.refl _ _) m)) (hpt.below (pw_below_drewN (Below.refl _ _) m)) hxt (by rw [hxt]; omega) (by omega) L4.out L13.out)
  have hYs : n + 1 ≤ ci := by
    obtain ⟨_, _, e, hle⟩ := Y1.out.shape
    injection e with _ _ e
    omega
  have hkept := fun (W : World) (B : Nat) (h1 : Win W B 5 1 (.slice Ai (n + 1) ci) (n + 1) (nums .u8 (xs ++ [201]))) (h2 : RdV W A (nums .u8 xs)) => KeptBytes_any W Ai A n ci c n xs xs 201 (RdV.of_win h1) h2 HL.out HL.out (by omega) (by omega) hYs HC.out
  simp only [decide_true, Bool.and_self] at hkept
  have HKE := Aside0.mk hkept
  have HK1 := Aside0.mk (fun m => hkept (w13.drewN m) w.heap.size (Y1.out.below (pw_below_drewN (Below.refl _ _) m)) ((HR.out.below N13.out.no).below (pw_below_drewN (Below.refl _ _) m)))
  -- the three lists' blocks
  have hs2 : ∀ k, At (.slice A2 (n + (uenc u).length) c2) k → w1.heap.size ≤ k ∧ k < w2.heap.size := fun k hk => ⟨(X2.out.at_ hk).1, (X2.out.at_ hk).2.1⟩
  have hs3 : ∀ k, At (.slice A3 (n + (uenc (Lib.zigzag q)).length) c3) k → w2.heap.size ≤ k ∧ k < w3.heap.size := fun k hk => ⟨(X3.out.at_ hk).1, (X3.out.at_ hk).2.1⟩
  have hs4 : ∀ k, At (.slice A4 (n + (uenc s.size).length + s.size) c4) k → w3.heap.size ≤ k ∧ k < w4.heap.size := fun k hk => ⟨(X4.out.at_ hk).1, (X4.out.at_ hk).2.1⟩
  have z12 := F2.out.size
  have z23 := F3.out.size
  have z01 := F1.out.size
  have hs1 : ∀ k, At (.slice Ai (n + 1) ci) k → k < w1.heap.size := fun k hk => (I1.out.at_ hk).2.1
  have HAP := Aside0.mk (fun m => apart3 (w13.drewN m) w.heap.size _ _ _ _ _ _ _ _ _ ((Y2.out.below (pw_below_drewN (Below.refl _ _) m)).lower z01) ((Y3.out.below (pw_below_drewN (Below.refl _ _) m)).lower (Nat.le_trans z01 z12)) ((Y4.out.below (pw_below_drewN (Below.refl _ _) m)).lower (Nat.le_trans z01 (Nat.le_trans z12 z23))) (by omega) (by omega) (by omega) (fun k h1 h2 => by have := hs2 k h1; have := hs3 k h2; omega) (fun k h1 h2 => by have := hs2 k h1; have := hs4 k h2; omega) (fun k h1 h2 => by have := hs3 k h1; have := hs4 k h2; omega) N13.out.size)
  have HAW := Aside0.mk awake2_any
  have tk0 : Aside0 (0 < 1) := ⟨by decide⟩
  clear hkept hpu hpz hpt hxu hxz hxt hass
  have HS1 := Aside0.mk hs1
  have HS2 := Aside0.mk hs2
  have HS3 := Aside0.mk hs3
  have HS4 := Aside0.mk hs4
  have HSU := Aside0.mk (show ∀ k, (At (.slice A2 (n + (uenc u).length) c2) k ∨ At (.slice A3 (n + (uenc (Lib.zigzag q)).length) c3) k ∨ At (.slice A4 (n + (uenc s.size).length + s.size) c4) k) → w1.heap.size ≤ k from fun k hk => by
    rcases hk with hk | hk | hk
    · have := hs2 k hk; omega
    · have := hs3 k hk; omega
    · have := hs4 k hk; omega)
  clear hs1 hs2 hs3 hs4 F413 F313 F213 F713
  go_wp2_with (first | (go_at_call_of 24 A7; go_must (refine HE1.out.mono ?_; rintro e' w' ⟨rfl, m1, rfl⟩)) | (go_at_call_of 24 A10; go_must (refine (HE2.out _).mono ?_; rintro e' w' ⟨rfl, m2, rfl⟩)) | (go_at_call_of 24 A13; go_must (refine (HE3.out _).mono ?_; rintro e' w' ⟨rfl, m3, rfl⟩)) | (go_at_call 32; refine (HKE.out w14 w.heap.size I14.out (HR.out.below B14.out)).mono ?_; rintro e' w' ⟨rfl, m14, rfl⟩) | (go_at_call 32; go_must (refine (HK1.out _).mono ?_; rintro e' w' ⟨rfl, m4, rfl⟩)) | (go_at_call 33; go_must (refine (HAP.out _).mono ?_; rintro e' w14 ⟨rfl, hf⟩; have B14 := Aside0.mk (acc (accDrew N13.out.no _) (Nat.le_refl _) hf (fun k hk => Nat.le_trans z01 (HSU.out k hk))); have I14 := Aside0.mk ((Y1.out.below (pw_below_drewN (Below.refl _ _) _)).fr hf (fun k hk hk' => Nat.lt_irrefl _ (Nat.lt_of_lt_of_le (HS1.out k hk) (HSU.out k hk')))); clear hf)) | (go_at_call 23; go_must (refine (HAW.out _).mono ?_; rintro e' w15 ⟨rfl, hf⟩; have F15 := Aside0.mk hf; clear hf)))
  go_ret
  exact ⟨rfl, accNo (accDrew B14.out m14) (Nat.le_refl _) F15.out⟩
end Go.Proofs.Ytchcimkmjoegdaa.C
