/- CodecOne's walk: for every bytes the call answers true and leaves memory as it was. Conditions: the bytes' length is at most 2^47. -/
import Derived.Test.YtchcimkmjoegdaaLawA
import Derived.Test.YtchcimkmjoegdaaPureA
import Derived.Deep.RegionWith
namespace Go.Proofs.Ytchcimkmjoegdaa.C
open Go.RowKit Go.Proofs.YtchcimkmjoegdaaW.PrintWords Go.Proofs.YtchcimkmjoegdaaW.PrintMore Go.Proofs.Ytchcimkmjoegdaa.M
set_option linter.unusedVariables false
set_option linter.unusedSimpArgs false

/-- Another reader's block turns. -/
theorem Rdr.other {w w' : World} {b b2 g g2 i j : Nat} {xs ys : List Int} {e e2 : Int} (h : Rdr w b g xs i e) (h2 : Rdr w b2 g2 ys j e2) (hf : Fr (One g2) w w') (hne : g ≠ g2) : Rdr w' b g xs i e :=
  h.fr hf hne (fun k cur hk hc => by
    have hk' : k = g2 := hk
    subst hk'
    obtain ⟨_, _, v, h3, _⟩ := h2
    rw [h3] at hc
    injection hc with hc
    injection hc with _ hc
    exact absurd hc (by decide))
set_option maxRecDepth 100000 in
set_option maxHeartbeats 4000000 in
theorem CodecOne_none (w : World) (A : Option Addr) (n c : Nat) (xs : List Int) (hr : RdV w A (nums .u8 xs)) (hl : xs.length = n) (h0 : A = none → c = 0) (hc : n ≤ c) (hn : n ≤ 140737488355328) (hb : Byt xs) (hq : num xs = none) :
    Calls Try.prog 3 #[.slice A n c] w fun e w' => e = .returned (.bool true) ∧ Below w.heap.size w w' := by
  have hu : rU xs 0 0 = (0, 0, 20) := by simp [rU, hq]
  have HN := Aside0.mk (fun (W : World) (h : Below w.heap.size w W) => NewReader_any W A n c xs (hr.below h) hl h0 hc hn)
  have H19 := Aside0.mk (fun W base g (h : Rdr W base g xs 0 0) => (by have := Uint_any W base g 0 xs 0 h hb; rw [hu] at this; exact this : Calls Try.prog 19 #[.pointer (some ⟨g, 0, none⟩)] W fun e' w' => e' = .returned (.int .u64 0) ∧ Rdr w' base g xs 0 20 ∧ Fr (One g) W w'))
  have H20 := Aside0.mk (fun W base g (h : Rdr W base g xs 0 20) => (by have := Left_any W base g 0 xs 20 h; rw [hl] at this; simpa using this : Calls Try.prog 20 #[.pointer (some ⟨g, 0, none⟩)] W fun e' w' => e' = .returned (.int .i64 (n : Int)) ∧ ∃ m, w' = W.drewN m))
  have H21 := Aside0.mk (fun W base g (h : Rdr W base g xs 0 0) => (by have := Int_any W base g 0 xs 0 h hb; rw [hu] at this; exact this : Calls Try.prog 21 #[.pointer (some ⟨g, 0, none⟩)] W fun e' w' => e' = .returned (.int .i64 0) ∧ Rdr w' base g xs 0 20 ∧ Fr (One g) W w'))
  have H22 := Aside0.mk (fun W base g (h : Rdr W base g xs 0 20) => Err_any W base g 0 xs 20 h)
  have H23 := Aside0.mk awake2_any
  have HB0 := Aside0.mk (Below.refl w.heap.size w)
  have tok : True := trivial
  clear hr h0 hb hq hu hl
  go_enter Try.func3, Try.ntmps3
  go_wp2_with (first | (go_at_call 18; have _t := tok; go_must (refine (HN.out w HB0.out).mono ?_; rintro e' w1 ⟨g, rfl, q1, q2⟩; have Q1 := Aside0.mk q1; have F1 := Aside0.mk q2; clear q1 q2 tok _t)) | (go_at_call 19; go_must (refine (H19.out _ _ _ Q1.out).mono ?_; rintro e' w2 ⟨rfl, q1, q2⟩; have Q2 := Aside0.mk q1; have F2 := Aside0.mk q2; clear q1 q2; have B2 := Aside0.mk (accOne (accNo HB0.out (Nat.le_refl _) F1.out) (Nat.le_refl _) F2.out Q1.out.1))) | (go_at_call 20; go_must (refine (H20.out _ _ _ Q2.out).mono ?_; rintro e' w2' ⟨rfl, m2, rfl⟩)) | (go_at_call 18; go_must (refine (HN.out (w2.drewN m2) (accDrew B2.out m2)).mono ?_; rintro e' w3 ⟨g2, rfl, p1, p2⟩; have P1 := Aside0.mk p1; have F3 := Aside0.mk p2; clear p1 p2; have Q3 := Aside0.mk ((Q2.out.drewN m2).below F3.out.no); have B3 := Aside0.mk (accNo (accDrew B2.out m2) (Nat.le_refl _) F3.out))) | (go_at_call 21; go_must (refine (H21.out _ _ _ P1.out).mono ?_; rintro e' w4 ⟨rfl, p1, p2⟩; have P2 := Aside0.mk p1; have F4 := Aside0.mk p2; clear p1 p2; have B4 := Aside0.mk (accOne B3.out (Nat.le_refl _) F4.out (Nat.le_trans B2.out.size P1.out.1)); have Q4 := Aside0.mk (Q3.out.other P1.out F4.out (by have := Q2.out.lt; have := P1.out.1; simp at this; omega)))) | (go_at_call_of 22 g; go_must (refine (H22.out _ _ _ Q4.out).mono ?_; rintro e' w5 ⟨rfl, rfl⟩)) | (go_at_call_of 22 g2; go_must (refine (H22.out _ _ _ P2.out).mono ?_; rintro e' w5 ⟨rfl, rfl⟩)) | (go_at_call 23; go_must (refine (H23.out _).mono ?_; rintro e' w6 ⟨rfl, q⟩; have F6 := Aside0.mk q; clear q)))
  go_ret
  exact ⟨rfl, accNo B4.out (Nat.le_refl _) F6.out⟩
set_option maxRecDepth 100000 in
set_option maxHeartbeats 4000000 in
theorem CodecOne_some (w : World) (A : Option Addr) (n c : Nat) (xs : List Int) (hr : RdV w A (nums .u8 xs)) (hl : xs.length = n) (h0 : A = none → c = 0) (hc : n ≤ c) (hn : n ≤ 140737488355328) (hb : Byt xs) (u k : Nat) (hq : num xs = some (u, k)) :
    Calls Try.prog 3 #[.slice A n c] w fun e w' => e = .returned (.bool true) ∧ Below w.heap.size w w' := by
  have hu : rU xs 0 0 = (u, k, 0) := by simp [rU, hq]
  obtain ⟨hk1, hk2, hk3, hk4⟩ := numK_le 10 xs u k hq
  have hu64 := num_64 hq
  have henc := num_enc hb hq
  have hz := unzig_range u hu64
  have hkn : k ≤ n := by omega
  have HN := Aside0.mk (fun (W : World) (h : Below w.heap.size w W) => NewReader_any W A n c xs (hr.below h) hl h0 hc hn)
  have H19 := Aside0.mk (fun W base g (h : Rdr W base g xs 0 0) => (by have := Uint_any W base g 0 xs 0 h hb; rw [hu] at this; exact this : Calls Try.prog 19 #[.pointer (some ⟨g, 0, none⟩)] W fun e' w' => e' = .returned (.int .u64 u) ∧ Rdr w' base g xs k 0 ∧ Fr (One g) W w'))
  have H20 := Aside0.mk (fun W base g (h : Rdr W base g xs k 0) => (by have := Left_any W base g k xs 0 h; rw [hl] at this; exact this : Calls Try.prog 20 #[.pointer (some ⟨g, 0, none⟩)] W fun e' w' => e' = .returned (.int .i64 ((n : Int) - k)) ∧ ∃ m, w' = W.drewN m))
  have H21 := Aside0.mk (fun W base g (h : Rdr W base g xs 0 0) => (by have := Int_any W base g 0 xs 0 h hb; rw [hu] at this; exact this : Calls Try.prog 21 #[.pointer (some ⟨g, 0, none⟩)] W fun e' w' => e' = .returned (.int .i64 (unzig u)) ∧ Rdr w' base g xs k 0 ∧ Fr (One g) W w'))
  have H22 := Aside0.mk (fun W base g (h : Rdr W base g xs k 0) => Err_any W base g k xs 0 h)
  have H23 := Aside0.mk awake2_any
  have hP := fun W => PutUint_any W none 0 0 u [] (rd_nil _ _ _) rfl (fun _ => rfl) (Nat.le_refl _) (by omega) hu64
  have hI := fun W => PutInt_any W none 0 0 (unzig u) [] (rd_nil _ _ _) rfl (fun _ => rfl) (Nat.le_refl _) (by omega) hz.1 hz.2
  rw [zig_unzig] at hI
  simp only [Nat.zero_add, List.nil_append] at hP hI
  have hlen : (uenc u).length = k := by rw [henc, List.length_take]; omega
  rw [hlen, henc] at hP hI
  have HP := Aside0.mk hP
  have HI := Aside0.mk hI
  have HK := Aside0.mk (fun (W : World) (A1 : Option Addr) (c1 : Nat) (h1 : RdV W A1 (nums .u8 (xs.take k))) (h2 : Below w.heap.size w W) (hc1 : k ≤ c1) => KBytes_true W A1 A k c1 c (xs.take k) h1 (by have := RdV.take (hr.below h2) k; rw [nums_take] at this; exact this) (by simp; omega) (by omega) hc1 (by omega))
  obtain ⟨i0, hi, _, hsz, _⟩ := info_parts info5
  have hcut := cuth (P := Try.prog) 22 5 .i64 Try.underlying22 hi A n c k (by omega)
  have hsub : (n : Int) - ((n : Int) - k) = k := by omega
  have HB0 := Aside0.mk (Below.refl w.heap.size w)
  have hni : (n : Int) ≤ 9223372036854775807 := by omega
  have tok : True := trivial
  clear hr h0 hb hq hu hl hu64 henc hz hP hI hlen hk1 hk3 hk4 hi hsz
  go_enter Try.func3, Try.ntmps3
  go_wp2_with (first | (go_at_call 18; have _t := tok; go_must (refine (HN.out w HB0.out).mono ?_; rintro e' w1 ⟨g, rfl, q1, q2⟩; have Q1 := Aside0.mk q1; have F1 := Aside0.mk q2; clear q1 q2 tok _t)) | (go_at_call 19; go_must (refine (H19.out _ _ _ Q1.out).mono ?_; rintro e' w2 ⟨rfl, q1, q2⟩; have Q2 := Aside0.mk q1; have F2 := Aside0.mk q2; clear q1 q2; have B2 := Aside0.mk (accOne (accNo HB0.out (Nat.le_refl _) F1.out) (Nat.le_refl _) F2.out Q1.out.1))) | (go_at_call 20; go_must (refine (H20.out _ _ _ Q2.out).mono ?_; rintro e' w2' ⟨rfl, m2, rfl⟩)) | (go_at_call 18; go_must (refine (HN.out (w2.drewN m2) (accDrew B2.out m2)).mono ?_; rintro e' w3 ⟨g2, rfl, p1, p2⟩; have P1 := Aside0.mk p1; have F3 := Aside0.mk p2; clear p1 p2; have Q3 := Aside0.mk ((Q2.out.drewN m2).below F3.out.no); have B3 := Aside0.mk (accNo (accDrew B2.out m2) (Nat.le_refl _) F3.out))) | (go_at_call 21; go_must (refine (H21.out _ _ _ P1.out).mono ?_; rintro e' w4 ⟨rfl, p1, p2⟩; have P2 := Aside0.mk p1; have F4 := Aside0.mk p2; clear p1 p2; have B4 := Aside0.mk (accOne B3.out (Nat.le_refl _) F4.out (Nat.le_trans B2.out.size P1.out.1)); have Q4 := Aside0.mk (Q3.out.other P1.out F4.out (by have := Q2.out.lt; have := P1.out.1; simp at this; omega)))) | (go_at_call_of 22 g; go_must (refine (H22.out _ _ _ Q4.out).mono ?_; rintro e' w5 ⟨rfl, rfl⟩)))
  have tok2 : True := trivial
  have tok3 : True := trivial
  go_region_held3 (fun _ => True) (trivial) (first | (go_at_call 25; refine (HP.out _).mono ?_; rintro e' w6 ⟨v6, rfl, q1, q2⟩; have V6 := Aside0.mk q1; have B6 := Aside0.mk (accNo (below_drew B4.out) (Nat.le_refl _) q2); have R6 := Aside0.mk (Q4.out.below ((below_drew (Below.refl _ _)).trans q2.no)); have S6 := Aside0.mk (P2.out.below ((below_drew (Below.refl _ _)).trans q2.no)); clear q1 q2; obtain ⟨A6, c6, e6, l6⟩ := V6.out.shape; subst e6; have L6 := Aside0.mk l6; clear l6) | (go_at_call 24; have _t := tok2; refine (HK.out w6 A6 c6 (RdV.of_win V6.out) B6.out L6.out).mono ?_; rintro e' w7 ⟨rfl, m7, rfl⟩; clear tok2 _t) | (go_at_call 26; refine (HI.out _).mono ?_; rintro e' w8 ⟨v8, rfl, q1, q2⟩; have V8 := Aside0.mk q1; have B8 := Aside0.mk (accNo (accDrew B6.out m7) (Nat.le_refl _) q2); have R8 := Aside0.mk ((R6.out.drewN m7).below q2.no); have S8 := Aside0.mk ((S6.out.drewN m7).below q2.no); clear q1 q2; obtain ⟨A8, c8, e8, l8⟩ := V8.out.shape; subst e8; have L8 := Aside0.mk l8; clear l8) | (go_at_call 24; have _t := tok3; refine (HK.out w8 A8 c8 (RdV.of_win V8.out) B8.out L8.out).mono ?_; rintro e' w9 ⟨rfl, m9, rfl⟩; clear tok3 _t) | (go_at_call_of 20 g2; go_must (refine (H20.out _ (w2.drewN m2).heap.size g2 ?_).mono ?_; (first | exact S8.out.drewN _ | exact (S8.out.drewN _).drewN _); rintro e' w10 ⟨rfl, m10, rfl⟩)) | (go_at_call_of 20 g; go_must (refine (H20.out _ w.heap.size g ?_).mono ?_; (first | exact R8.out.drewN _ | exact (R8.out.drewN _).drewN _); rintro e' w10 ⟨rfl, m11, rfl⟩)) | (go_at_call 23; refine (H23.out _).mono ?_; rintro e' w12 ⟨rfl, q⟩; have F12 := Aside0.mk q; clear q))
  go_wp2_with fail
  go_ret
  exact ⟨rfl, accNo (accDrew B8.out _) (Nat.le_refl _) F12.out⟩
/-- The walk. -/
theorem CodecOne_walk (w : World) (A : Option Addr) (n c : Nat) (xs : List Int) (hr : RdV w A (nums .u8 xs)) (hl : xs.length = n) (h0 : A = none → c = 0) (hc : n ≤ c) (hn : n ≤ 140737488355328) (hb : Byt xs) :
    Calls Try.prog 3 #[.slice A n c] w fun e w' => e = .returned (.bool true) ∧ Below w.heap.size w w' := by
  rcases hq : num xs with _ | ⟨u, k⟩
  · exact CodecOne_none w A n c xs hr hl h0 hc hn hb hq
  · exact CodecOne_some w A n c xs hr hl h0 hc hn hb u k hq
theorem CodecOne_row (w : World) {a : Option Addr} {len cap : Nat} {zs : List Int} (h : (a = none ∧ len = 0 ∧ cap = 0 ∧ zs = []) ∨ ∃ x, a = some x ∧ len ≤ cap ∧ cap ≤ maxLen ∧ zs.length = cap ∧ (∀ i, i < zs.length → w.cell? (x.add i) = some (.int .u8 (zs.getD i 0))) ∧ ∀ n ∈ zs, (Lit.int .u8 n).wf = true) (y : len * 1 ≤ 140737488351232) :
    Calls Try.prog 3 #[.slice a len cap] w fun e w' => e = .returned (.bool true) ∧ Below w.heap.size w w' := by
  obtain ⟨l, hl, hr, h0, hc, _, hw⟩ := row_read h
  exact CodecOne_walk w a len cap l hr hl h0 hc (by omega) (byt_wf hw)
end Go.Proofs.Ytchcimkmjoegdaa.C
