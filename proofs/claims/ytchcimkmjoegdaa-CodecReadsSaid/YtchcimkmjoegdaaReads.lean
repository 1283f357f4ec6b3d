/- CodecReads' walk: for any bytes and any calls both readers answer alike. Conditions: at most 2^47 - 1 bytes. -/
import Derived.Test.YtchcimkmjoegdaaOneN
import Derived.Test.YtchcimkmjoegdaaLawA
namespace Go.Proofs.Ytchcimkmjoegdaa.C
open Go.RowKit Go.Proofs.YtchcimkmjoegdaaW.PrintWords Go.Proofs.YtchcimkmjoegdaaW.PrintMore Go.Proofs.Ytchcimkmjoegdaa.M
set_option linter.unusedVariables false
set_option linter.unusedSimpArgs false

theorem add_one (a : Addr) (i : Nat) : a.add (i + 1) = ⟨(a.add i).block, (a.add i).off + 1, none⟩ := by
  unfold Addr.add
  by_cases h : i = 0
  · subst h; simp
  · rw [if_neg (by omega), if_neg h]
    simp [Nat.add_assoc]
/-- The calls' cells. -/
def opCells (l : List (Int × Int)) : List Value := l.flatMap fun p => [.int .i64 p.1, .int .i64 p.2]
theorem op_cell {w : World} {Ao : Option Addr} {l : List (Int × Int)} {j : Nat} {p : Int × Int} (h : RdV w Ao (opCells l)) (hp : l[j]? = some p) : ∃ ad, Ao = some ad ∧ w.cell? (ad.add (j * 2)) = some (.int .i64 p.1) ∧ w.cell? (ad.add (j * 2 + 1)) = some (.int .i64 p.2) := by
  have hx : ∀ (l : List (Int × Int)) (j : Nat), l[j]? = some p → (opCells l)[j * 2]? = some (.int .i64 p.1) ∧ (opCells l)[j * 2 + 1]? = some (.int .i64 p.2) := fun l => by
    induction l with
    | nil => intro j h; simp at h
    | cons a l ih =>
      intro j h
      cases j with
      | zero => simp at h; subst h; exact ⟨rfl, rfl⟩
      | succ j =>
        have := ih j (by simpa using h)
        rw [show (j + 1) * 2 = j * 2 + 2 by omega]
        exact this
  obtain ⟨h1, h2⟩ := hx l j hp
  obtain ⟨ad, e, hc⟩ := h (by intro h0; rw [h0] at h1; simp at h1)
  exact ⟨ad, e, hc _ _ h1, hc _ _ h2⟩
theorem op_some {w : World} {ad : Addr} {l : List (Int × Int)} {j : Nat} {p : Int × Int} (h : RdV w (some ad) (opCells l)) (hp : l[j]? = some p) : w.cell? (ad.add (j * 2)) = some (.int .i64 p.1) ∧ w.cell? ⟨(ad.add (j * 2)).block, (ad.add (j * 2)).off + 1, none⟩ = some (.int .i64 p.2) := by
  obtain ⟨ad', e, h1, h2⟩ := op_cell h hp
  injection e with e
  subst e
  rw [add_one] at h2
  exact ⟨h1, h2⟩
theorem syn_left {w W : World} {g1 g2 n c i1 i2 : Nat} {A : Option Addr} {xs : List Int} {e1 e2 : Int} (h : Syn w W g1 g2 A n c xs i1 e1 i2 e2) (hl : xs.length = n) : Calls Try.prog 20 #[.pointer (some ⟨g1, 0, none⟩)] W fun e' w' => e' = .returned (.int .i64 ((n : Int) - i1)) ∧ ∃ m, w' = W.drewN m := by
  have := Left_any W w.heap.size g1 i1 xs e1 h.cod
  rwa [hl] at this
/-- The state of the loop that turns the bytes lent. -/
def LoopA (w wr : World) (B g1 g2 : Nat) (A : Option Addr) (n c : Nat) (xs : List Int) (v0 v : Value) : Prop :=
  RdrV wr B g1 v0 xs 0 0 ∧ wr.heap[g2]? = some (.cells #[.slice A n c, .int .i64 0, .int .i64 0] 67 (0, 0)) ∧ Below w.heap.size w wr ∧ ∃ ys : List Int, ys.length = n ∧ Win wr w.heap.size 5 1 v n (nums .u8 ys)
theorem LoopA.step {w wr : World} {B g1 g2 n c : Nat} {A : Option Addr} {xs : List Int} {v0 : Value} {A7 : Option Addr} {c7 j : Nat} (h : LoopA w wr B g1 g2 A n c xs v0 (.slice A7 n c7)) (hj : j < n) (hB : ∀ k, At (.slice A7 n c7) k → k < B) (h2 : B ≤ g2) : ∃ (g off : Nat) (y : Int), A7 = some ⟨g, off, none⟩ ∧ wr.cell? ⟨g, off + j, none⟩ = some (.int .u8 y) ∧ wr.frozen? ⟨g, off + j, none⟩ = false ∧
    ∀ u : Int, LoopA w (wr.setCell ⟨g, off + j, none⟩ (.int .u8 u)) B g1 g2 A n c xs v0 (.slice A7 n c7) := by
  obtain ⟨hr, hs, hb, ys, hl, hw⟩ := h
  obtain ⟨g, off, rfl⟩ := ApB.win_pos hw (by omega)
  obtain ⟨y, hy⟩ := get_some (xs := ys) (i := j) (by omega)
  obtain ⟨hc, hf⟩ := hw.cell (j := j) (u := .int .u8 y) (by simp [nums, hy])
  refine ⟨g, off, y, rfl, hc, hf, fun u => ?_⟩
  obtain ⟨hw', hF⟩ := hw.store j hj (.int .u8 u)
  have hr' := hr.fr hF (fun hk => by have := hB _ hk; have := hr.1; omega) (fun k hk hk2 => by have := hB _ hk2; have := (hr.2.2.2.at_ hk).1; omega)
  refine ⟨hr', hF.get hs (fun hk => by have := hB _ hk; omega), hb.trans (hF.below hb.size (fun k hk => (hw.at_ hk).1)), ys.set j u, by simpa using hl, ?_⟩
  have e : (nums .u8 ys).set j (.int .u8 u) = nums .u8 (ys.set j u) := by simp [nums, List.map_set]
  rwa [e] at hw'
theorem LoopA.syn {w wr : World} {B g1 g2 n c : Nat} {A : Option Addr} {xs : List Int} {v0 v : Value} (h : LoopA w wr B g1 g2 A n c xs v0 v) (hl : xs.length = n) (h1 : w.heap.size ≤ B) (h2 : B ≤ g2) : Syn w wr g1 g2 A n c xs 0 0 0 0 :=
  ⟨h.1.rdr.lower h1, h.2.1, h.2.2.1, Nat.le_trans h1 h2, Nat.zero_le _⟩
theorem LoopA.start {w w1 w2 : World} {g1 n c ci m3 : Nat} {A Ai : Option Addr} {xs : List Int} {v0 : Value} (hl : xs.length = n) (h1 : Win w1 w.heap.size 5 1 (.slice Ai (n + 1) ci) (n + 1) (nums .u8 (xs ++ [201]))) (f1 : Fr No w w1) (f2 : Fr No w1 w2) (r : RdrV w2 w1.heap.size g1 v0 xs 0 0) :
    LoopA w ((w2.alloc (.cells #[.slice A n c, .int .i64 0, .int .i64 0] 67)).drewN m3) w1.heap.size g1 w2.heap.size A n c xs v0 (.slice Ai n ci) := by
  have hb := pw_below_drewN (below_alloc (Below.refl w2.heap.size w2) (.cells #[.slice A n c, .int .i64 0, .int .i64 0] 67)) m3
  refine ⟨r.below hb, heap_alloc_new w2 _, (f1.tr f2).no.trans (hb.mono (f1.tr f2).size), xs, hl, ?_⟩
  have h2 := ((h1.below f2.no).below hb).take (m := n) (by omega)
  rwa [Nat.mul_one, nums_take, ← hl, List.take_left, hl] at h2
set_option maxRecDepth 100000 in
set_option maxHeartbeats 4000000 in
theorem CodecReads_walk (w : World) (A Ao : Option Addr) (n c no co : Nat) (xs : List Int) (ops : List (Int × Int)) (I : Inp w A n c xs) (ho : RdV w Ao (opCells ops)) (hol : ops.length = no) (hoc : no ≤ co) (hom : no ≤ 9223372036854775807) (hop : ∀ p ∈ ops, -9223372036854775808 ≤ p.2 ∧ p.2 ≤ 9223372036854775807) (hn : n ≤ 140737488351232) :
    Calls Try.prog 8 #[.slice A n c, .slice Ao no co] w fun e w' => e = .returned (.bool true) ∧ Below w.heap.size w w' := by
  have HI := Aside0.mk I
  have HO := Aside0.mk ho
  have HOL := Aside0.mk hol
  have HOP := Aside0.mk hop
  have HIN := Aside0.mk (LentBytes_any w A n c xs I.rd I.len I.cap (by omega))
  have HN := Aside0.mk (fun (W : World) (Ai : Option Addr) (ci : Nat) (h : Win W w.heap.size 5 1 (.slice Ai (n + 1) ci) (n + 1) (nums .u8 (xs ++ [201]))) => (show Calls Try.prog 18 #[.slice Ai n ci] W _ from NewReader_any W Ai n ci xs (by
    have := RdV.take (RdV.of_win h) n
    rwa [nums_take, ← I.len, List.take_left] at this) I.len (fun e => by subst e; exact h.nil_cap) (by obtain ⟨_, _, e, hle⟩ := h.shape; injection e with _ _ e; omega) (by omega)))
  have hkept := fun (W : World) (B : Nat) (Ai : Option Addr) (ci : Nat) (h1 : Win W B 5 1 (.slice Ai (n + 1) ci) (n + 1) (nums .u8 (xs ++ [201]))) (h2 : RdV W A (nums .u8 xs)) => KeptBytes_any W Ai A n ci c n xs xs 201 (RdV.of_win h1) h2 I.len I.len (by omega) (by omega) (by obtain ⟨_, _, e, hle⟩ := h1.shape; injection e with _ _ e; omega) I.cap
  simp only [decide_true, Bool.and_self] at hkept
  have HK := Aside0.mk hkept
  have hcap := I.cap
  clear I ho hol hop hkept
  go_enter Try.func8, Try.ntmps8
  go_wp2_with (first | (go_at_call 27; go_must (refine HIN.out.mono ?_; rintro e' w1 ⟨Ai, ci, rfl, q1, q2⟩; have I1 := Aside0.mk q1; have F1 := Aside0.mk q2; clear q1 q2)) | (go_at_call 18; go_must (refine (HN.out w1 Ai ci I1.out).mono ?_; rintro e' w2 ⟨g1, rfl, q1, q2⟩; have R2 := Aside0.mk q1; have F2 := Aside0.mk q2; clear q1 q2)) | (go_at_call 32; go_must (refine (HK.out _ w.heap.size Ai ci ((I1.out.below F2.out.no).below (below_alloc (Below.refl _ _) _)) (HI.out.rd.below (accAlloc (F1.out.tr F2.out).no (Nat.le_refl _) _))).mono ?_; rintro e' w3 ⟨rfl, m3, rfl⟩)))
  obtain ⟨v0, r2, _⟩ := R2.out.open
  have hl7 : n ≤ ci := by obtain ⟨_, _, e, hle⟩ := I1.out.shape; injection e with _ _ e; omega
  have HLA := Aside0.mk (show LoopA w ((w2.alloc (.cells #[.slice A n c, .int .i64 0, .int .i64 0] 67)).drewN m3) w1.heap.size g1 w2.heap.size A n c xs v0 (.slice Ai n ci) from LoopA.start HI.out.len I1.out F1.out F2.out r2)
  have hv1 : ∀ k, At (.slice Ai n ci) k → k < w1.heap.size := fun k hk => (Win.at_ (I1.out.take (m := n) (by omega)) hk).2.1
  have HV1 := Aside0.mk hv1
  clear r2 hv1
  go_wp2_with fail
  go_loopw [10] (fun v10 wr => ∃ j : Nat, v10 = .int .i64 j ∧ j ≤ n ∧ Aside0 (LoopA w wr w1.heap.size g1 w2.heap.size A n c xs v0 (.slice Ai n ci))) (fun v10 _ => n - (intOf v10).toNat)
  case atStart => exact ⟨0, rfl, by omega, HLA⟩
  case round =>
    obtain ⟨j, rfl, hj, HR⟩ := hrel
    by_cases hlt : j < n
    · obtain ⟨g, off, y, rfl, hc2, hf2, hst⟩ := HR.out.step hlt HV1.out F2.out.size
      have HST := Aside0.mk hst
      clear hst
      go_wp2_with fail
      go_roundw
      case rel => exact ⟨j + 1, by simp, by omega, ⟨HST.out _⟩⟩
      case measure => simp [intOf]; omega
    · obtain ⟨wo, rfl⟩ : ∃ wo : World, wo = wr := ⟨_, rfl⟩
      have HS0 := Aside0.mk (HR.out.syn HI.out.len F1.out.size F2.out.size)
      clear HR
      go_wp2_with fail
      go_loopw [11] (fun v11 wr => ∃ j : Nat, v11 = .int .i64 j ∧ j ≤ no ∧ Aside0 (∃ i e, Syn w wr g1 w2.heap.size A n c xs i e i e)) (fun v11 _ => no - (intOf v11).toNat)
      case atStart => exact ⟨0, rfl, by omega, ⟨0, 0, HS0.out⟩⟩
      case round =>
        obtain ⟨j, rfl, hj, HR⟩ := hrel
        by_cases hlt : j < no
        · obtain ⟨⟨op, m⟩, hp⟩ : ∃ p, ops[j]? = some p := ⟨_, List.getElem?_eq_getElem (by have := HOL.out; omega)⟩
          obtain ⟨i, e, hs⟩ := HR.out
          obtain ⟨ad, eA, _⟩ := op_cell (HO.out.below hs.bel) hp
          subst eA
          obtain ⟨hc1, hc2⟩ := op_some (HO.out.below hs.bel) hp
          have HP := Aside0.mk hp
          have HS := Aside0.mk hs
          have hm := HOP.out _ (List.mem_of_getElem? hp)
          have HE := Aside0.mk (Err_any wr w.heap.size g1 i xs e hs.cod)
          have HO1 := Aside0.mk (fun (W : World) (h : Syn w W g1 w2.heap.size A n c xs i e i e) => one_any h HI.out op m hm.1 hm.2)
          have hee : e = 0 ∨ e ≠ 0 := by omega
          clear hs hp hm
          rcases hee with he | he
          case' inl => subst he; have HQ := Aside0.mk (fun (e6 : Int) (_ : (0 : Int) ≠ 0 → e6 = 0) => trivial)
          case' inr => have heb : (e != 0) = true := by simp [he]
          case' inr => have HQ := Aside0.mk (fun (e6 : Int) (h : e ≠ 0 → e6 = e) => (show (e6 != e) = false by simp [h he]))
          case' inr => clear he
          all_goals
            go_wp2_with (first | (go_at_call 22; refine (Err_any _ w.heap.size g1 i6 xs e6 s9.out.cod).mono ?_; rintro e' w10 ⟨rfl, rfl⟩) | (go_at_call 22; go_must (refine HE.out.mono ?_; rintro e' w5 ⟨rfl, rfl⟩)) | (go_at_call_of 46 g1; go_must (refine (HO1.out _ HS.out).mono ?_; rintro e' w6 ⟨rfl, i6, e6, s6, k6⟩; obtain ⟨hd1, hd2⟩ := op_some (HO.out.below s6.bel) HP.out; have S6 := Aside0.mk s6; have hq := HQ.out e6 k6; clear s6 k6)) | (go_at_call 46; go_must (refine (one_nil op m).mono ?_; rintro e' w7 ⟨rfl, q1⟩; have S7 := Aside0.mk (S6.out.no q1); clear q1)) | (go_at_call 20; go_must (refine (syn_left S7.out HI.out.len).mono ?_; rintro e' w8 ⟨rfl, m8, rfl⟩; have S8 := Aside0.mk (S7.out.no (Fr.drewN _ m8)))) | (go_at_call 47; go_must (refine (mLeft_any _ w2.heap.size A n c i6 e6 S8.out.mod S8.out.at2 HI.out.max).mono ?_; rintro e' w9 ⟨rfl, m9, rfl⟩; have s9 := Aside0.mk (S7.out.no (Fr.drewN w7 (m8 + m9))))) | (go_at_call 48; go_must (refine (mErr_any _ w2.heap.size A n c i6 e6 s9.out.mod).mono ?_; rintro e' w11 ⟨rfl, rfl⟩)))
          all_goals
            go_roundw
          all_goals first | exact ⟨j + 1, by simp, by omega, ⟨i6, e6, s9.out⟩⟩ | (simp [intOf]; omega)
        · obtain ⟨i, e, hs⟩ := HR.out
          have HS := Aside0.mk hs
          clear hs
          go_wp2_with (first | (go_at_call_of 20 g1; go_must (refine (syn_left HS.out HI.out.len).mono ?_; rintro e' w8 ⟨rfl, m8, rfl⟩; have S8 := Aside0.mk (HS.out.no (Fr.drewN wr m8)))) | (go_at_call 47; go_must (refine (mLeft_any _ w2.heap.size A n c i e S8.out.mod S8.out.at2 HI.out.max).mono ?_; rintro e' w9 ⟨rfl, m9, rfl⟩; have S9 := Aside0.mk (HS.out.no (Fr.drewN wr (m8 + m9))))) | (go_at_call 20; go_must (refine (Left_nil _).mono ?_; rintro e' w10 ⟨rfl, rfl⟩)) | (go_at_call 22; go_must (refine (Err_nil _).mono ?_; rintro e' w11 ⟨rfl, rfl⟩)) | (go_at_call 48; go_must (refine (mErr_nil _).mono ?_; rintro e' w12 ⟨rfl, rfl⟩)) | (go_at_call 23; go_must (refine (awake2_any _).mono ?_; rintro e' w13 ⟨rfl, q1⟩; have S13 := Aside0.mk (S9.out.no q1); clear q1)))
          go_ret
          exact ⟨rfl, S13.out.bel⟩
end Go.Proofs.Ytchcimkmjoegdaa.C
