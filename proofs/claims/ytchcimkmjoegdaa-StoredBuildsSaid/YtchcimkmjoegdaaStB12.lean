/- The kit's KeptEntries (107); the law's lent (45). Conditions: as each theorem states. | The law's lent (45), kept (68). Conditions: as each theorem states. | A store that was opened, out of Open's answer. Conditions: as each theorem states. | StoredBuilds' walk: true for any documents. Conditions: the sizes of what was read. | A row's documents, as the walks take them. Conditions: those of the row. | StoredBuilds under its row's names. Conditions: those of the row. (Several texts of mine laid into one by prune.py.) -/
import Derived.Test.YtchcimkmjoegdaaStB11
namespace Go.Proofs.Ytchcimkmjoegdaa.C
open Go.RowKit Go.Proofs.YtchcimkmjoegdaaW.PrintWords Go.Proofs.YtchcimkmjoegdaaW.PrintMore Go.Proofs.Ytchcimkmjoegdaa.M
set_option linter.unusedVariables false
set_option linter.unusedSimpArgs false

/-- What was lent, read. -/
structure LentR (w : World) (A : Option Addr) (n c : Nat) (E : List (Value × Ent)) : Prop where
  doc : DocR w A n c E
  cap : n + 1 ≤ c
  hdr : RdV w A (E.flatMap entCells ++ markC)
  ints : ∀ p ∈ E, ∃ A c, p.1 = .slice A p.2.ns.length c ∧ p.2.ns.length + 1 ≤ c ∧ RdV w A (nums .i64 (p.2.ns ++ [-7171]))
theorem LentR.below {w w' : World} {A : Option Addr} {n c : Nat} {E : List (Value × Ent)} (h : LentR w A n c E) (hb : Below w.heap.size w w') : LentR w' A n c E :=
  ⟨h.doc.below hb, h.cap, h.hdr.below hb, fun p hp => by obtain ⟨A, c, h1, h2, h3⟩ := h.ints p hp; exact ⟨A, c, h1, h2, h3.below hb⟩⟩
theorem mem_snd {E D : List (Value × Ent)} (h : E.map Prod.snd = D.map Prod.snd) {p : Value × Ent} (hp : p ∈ E) : ∃ q ∈ D, q.2 = p.2 := by
  have : p.2 ∈ D.map Prod.snd := by rw [← h]; exact List.mem_map.2 ⟨p, hp, rfl⟩
  obtain ⟨q, hq, e⟩ := List.mem_map.1 this
  exact ⟨q, hq, e⟩
theorem LentD.read {w0 w : World} {B : Nat} {v : Value} {E D : List (Value × Ent)} {A' : Option Addr} {n c' : Nat} (h : LentD w B v E) (hd : DocR w0 A' n c' D) (he : E.map Prod.snd = D.map Prod.snd) : ∃ A c, v = .slice A n c ∧ LentR w A n c E := by
  obtain ⟨A, c, e, hw, hp⟩ := h
  have hl : E.length = n := by have := congrArg List.length he; simp at this; rw [this]; exact hd.len
  subst e
  rw [hl] at hw ⊢
  have hc : n + 1 ≤ c := by obtain ⟨_, _, e, h⟩ := hw.shape; injection e with _ _ e; subst e; exact h
  have hr := RdV.of_win hw
  refine ⟨A, c, rfl, ⟨?_, hl, by omega, hd.max, fun p hpp => ?_⟩, hc, hr, fun p hpp => ?_⟩
  · have := hr.take (E.flatMap entCells).length
    rwa [List.take_left] at this
  · obtain ⟨q, hq, eq⟩ := mem_snd he hpp
    obtain ⟨A1, c1, k1, k2⟩ := hp p hpp
    obtain ⟨_, _, _, _, _, m1, m2, m3, m4⟩ := hd.part q hq
    rw [eq] at m1 m2 m3 m4
    obtain ⟨_, _, e1, hc1⟩ := k2.shape
    injection e1 with _ _ e1
    subst e1
    refine ⟨A1, c1, k1, by omega, ?_, m1, m2, m3, m4⟩
    have := (RdV.of_win k2).take p.2.ns.length
    rwa [nums_take, List.take_left] at this
  · obtain ⟨A1, c1, k1, k2⟩ := hp p hpp
    obtain ⟨_, _, e1, hc1⟩ := k2.shape
    injection e1 with _ _ e1
    subst e1
    exact ⟨A1, c1, k1, hc1, RdV.of_win k2⟩
theorem LentR.mark {w : World} {A : Option Addr} {n c : Nat} {E : List (Value × Ent)} (h : LentR w A n c E) : ∃ ad, A = some ad ∧ w.cell? (ad.add (n * 3)) = some (.string ⟨#[109, 97, 114, 107]⟩) := by
  have hg : (E.flatMap entCells ++ markC)[n * 3]? = some (.string ⟨#[109, 97, 114, 107]⟩) := by
    have hl := flat3_len (f := entCells) (fun p => rfl) E
    rw [h.doc.len] at hl
    rw [List.getElem?_append_right (by omega), hl, Nat.sub_self]
    rfl
  obtain ⟨ad, e, hc⟩ := h.hdr (by intro h0; rw [h0] at hg; simp at hg)
  exact ⟨ad, e, hc _ _ hg⟩
set_option maxRecDepth 100000 in
set_option maxHeartbeats 8000000 in
/-- kit.KeptEntries: what was lent is there, the marks too. -/
theorem KeptEntries_any (w : World) (A B : Option Addr) (n c d : Nat) (E D : List (Value × Ent)) (h : LentR w A n c E) (hd : DocR w B n d D) (he : E.map Prod.snd = D.map Prod.snd) :
    Calls Try.prog 107 #[.slice A n c, .slice B n d] w fun e w' => e = .returned (.bool true) ∧ ∃ m, w' = w.drewN m := by
  have hN : n ≤ 9223372036854775807 := by have := hd.max; omega
  have hN1 : (n : Int) + 1 ≤ 9223372036854775807 := by have := hd.max; omega
  obtain ⟨ad, ea, hmk⟩ := h.mark
  subst ea
  have H := Aside0.mk h
  have HD := Aside0.mk hd
  have HE := Aside0.mk he
  obtain ⟨i0, hi, _, hsz, _⟩ := info_parts info134
  have HCUT := Aside0.mk (cuth (P := Try.prog) 52 134 .i64 Try.underlying52 hi (some ad) n c (n + 1) h.cap)
  have HENT := Aside0.mk (Entries_any w (some ad) B n n c d E D h.doc hd)
  have HMK := Aside0.mk hmk
  clear h hd he hi hsz hmk
  go_enter Try.func107, Try.ntmps107
  go_wp2_with (go_at_call 42; go_must (refine HENT.out.mono ?_; rintro e' w1 ⟨⟨r, rfl, hr⟩, m, hm⟩; have hr1 := hr.2 HE.out; subst hr1; have HW1 := Aside0.mk (show Below w.heap.size w w1 from by rw [hm]; exact pw_below_drewN (Below.refl _ _) m); have HM1 := Aside0.mk (show ∃ m, w1 = w.drewN m from ⟨m, hm⟩); clear hm hr))
  go_loopw [5] (fun v5 wr => ∃ i : Nat, v5 = .int .i64 i ∧ i ≤ n ∧ Aside0 (∃ m, wr = w.drewN m)) (fun v5 _ => n - (intOf v5).toNat)
  case atStart => exact ⟨0, rfl, by omega, HM1⟩
  case round =>
    obtain ⟨i, rfl, hi, HR⟩ := hrel
    have HW := Aside0.mk (show Below w.heap.size w wr from by obtain ⟨m, rfl⟩ := HR.out; exact pw_below_drewN (Below.refl _ _) m)
    by_cases hlt : i < n
    · obtain ⟨⟨pv, f, t, ns⟩, hp⟩ := get_some' (xs := E) (i := i) (by have := H.out.doc.len; omega)
      obtain ⟨⟨qv, f', t', ns'⟩, hq⟩ := get_some' (xs := D) (i := i) (by have := HD.out.len; omega)
      have da := H.out.below HW.out
      have db := HD.out.below HW.out
      obtain ⟨a1, e1, h10, h11, h12⟩ := ent_at da.doc.hdr hp
      obtain ⟨a2, e2, h20, h21, h22⟩ := ent_at db.hdr hq
      obtain rfl := Option.some.inj e1
      subst e2
      obtain ⟨A1, c1, f1, f2, f3⟩ := da.ints _ (List.mem_of_getElem? hp)
      obtain ⟨A2, c2, k1, k2, k3, _, k4, k5, k6⟩ := db.part _ (List.mem_of_getElem? hq)
      have hpq : (⟨f, t, ns⟩ : Ent) = ⟨f', t', ns'⟩ := by
        have h1 : (E.map Prod.snd)[i]? = (D.map Prod.snd)[i]? := by rw [HE.out]
        rw [List.getElem?_map, List.getElem?_map, hp, hq] at h1
        exact Option.some.inj h1
      injection hpq with p1 p2 p3
      subst p1; subst p2; subst p3
      obtain rfl : pv = .slice A1 ns.length c1 := f1
      obtain rfl : qv = .slice A2 ns.length c2 := k1
      simp only at h10 h11 h12 h20 h21 h22
      have HC := Aside0.mk (fun m => KeptInts_any (wr.drewN m) A1 A2 ns.length c1 c2 ns.length ns ns (-7171) (f3.below (pw_below_drewN (Below.refl _ _) m)) (k3.below (pw_below_drewN (Below.refl _ _) m)) rfl rfl (by have : ns.length ≤ 17592186043904 := k4; omega) (by have : ns.length ≤ 17592186043904 := k4; omega) f2 k2)
      rw [decide_eq_true rfl, decide_eq_true rfl] at HC
      clear hp hq f2 f3 k2 k3 k4 k5 k6 da db e1
      generalize hl1 : ns.length = l1 at *
      clear hl1
      go_wp2_with fail
      go_quiet ((go_at_call 119; go_must (exact Calls.quiet_of (HC.out _))))
      go_wp2_with fail
      go_roundw
      case rel => exact ⟨i + 1, by simp, by omega, ⟨by obtain ⟨m, hm⟩ := HR.out; exact ⟨m + nq, by rw [hm]; exact World.drewN_drewN ..⟩⟩⟩
      case measure => simp [intOf]; omega
    · obtain rfl : n = i := by omega
      have hcell : wr.cell? (ad.add (n * 3)) = some (.string ⟨#[109, 97, 114, 107]⟩) := by obtain ⟨m, rfl⟩ := HR.out; exact HMK.out
      have hcut := HCUT.out
      simp only [Int.natCast_add, Int.natCast_one] at hcut
      go_wp2_with fail
      go_ret
      exact ⟨rfl, HR.out⟩
end Go.Proofs.Ytchcimkmjoegdaa.C
namespace Go.Proofs.Ytchcimkmjoegdaa.C
open Go.RowKit Go.Proofs.YtchcimkmjoegdaaW.PrintWords Go.Proofs.YtchcimkmjoegdaaW.PrintMore Go.Proofs.Ytchcimkmjoegdaa.M
set_option linter.unusedVariables false
set_option linter.unusedSimpArgs false

/-- Lent documents. -/
structure LentDs (W : World) (B : Nat) (v : Value) (M : List (Value × List (Value × Ent))) : Prop where
  hdr : Win W B 52 1 v M.length (M.map Prod.fst)
  part : ∀ x ∈ M, LentD W B x.1 x.2
theorem LentDs.below {W W' : World} {B : Nat} {v : Value} {M : List (Value × List (Value × Ent))} (h : LentDs W B v M) (hb : Below W.heap.size W W') : LentDs W' B v M :=
  ⟨h.hdr.below hb, fun x hx => (h.part x hx).below hb⟩
theorem mapo_succ {D : List (Value × List (Value × Ent))} {i : Nat} {p : Value × List (Value × Ent)} (h : D[i]? = some p) : (D.take (i + 1)).map docOf = (D.take i).map docOf ++ [docOf p] := by
  rw [List.take_add_one, h]
  simp
theorem mapo_len {D E : List (Value × List (Value × Ent))} {i : Nat} (h : E.map docOf = (D.take i).map docOf) (hi : i ≤ D.length) : E.length = i := by
  have := congrArg List.length h
  simp at this
  omega
theorem LentDs.push {w wr w1 w2 : World} {v v2 u : Value} {M : List (Value × List (Value × Ent))} {E : List (Value × Ent)} (h : LentDs wr w.heap.size v M) (hf : Fr No w wr) (hu : LentD w1 wr.heap.size u E) (f1 : Fr No wr w1)
    (g1 : Win w2 w.heap.size 52 1 v2 (M.length + 1) (M.map Prod.fst ++ [u])) (g3 : Fr (At v) w1 w2) : LentDs w2 w.heap.size v2 (M ++ [(u, E)]) ∧ Fr No w w2 := by
  have hv1 := h.hdr.below f1.no
  refine ⟨⟨by rw [List.length_append, List.map_append]; simpa using g1, fun x hx => ?_⟩, (hf.trans f1 (fun _ _ h => h) (fun _ _ h => h)).trans g3 (fun _ _ h => h) (fun k hk hs => by have := (hv1.at_ hs).1; omega)⟩
  rcases List.mem_append.1 hx with hx | hx
  · exact ((h.part x hx).below f1.no).fr hv1 (by decide) (by decide) g3
  · simp only [List.mem_cons, List.mem_nil_iff, or_false] at hx
    subst hx
    exact (hu.lower hf.size).fr hv1 (by decide) (by decide) g3
theorem lentDs_bound {n : Nat} (h : n ≤ 5864062014634) : n + 1 ≤ maxLen ∧ (n + 1 + (n + 1) / 4 + 700) * 24 ≤ 281474976710656 := by
  simp only [maxLen]; omega
set_option maxRecDepth 100000 in
set_option maxHeartbeats 2000000 in
theorem lent_any (w : World) (A : Option Addr) (n c : Nat) (L : List (Value × List (Value × Ent))) (h : DocsR w A n c L) (hm : n ≤ 5864062014634) :
    Calls Try.prog 45 #[.slice A n c] w fun e w' => ∃ v M, e = .returned v ∧ LentDs w' w.heap.size v M ∧ M.map docOf = L.map docOf ∧ Fr No w w' := by
  have hN : n ≤ 9223372036854775807 := h.max
  have H := Aside0.mk h
  have HMX := Aside0.mk hm
  clear h hm
  go_enter Try.func45, Try.ntmps45
  go_wp2_with fail
  go_loopw [3, 4] (fun v3 v4 wr => ∃ i : Nat, v4 = .int .i64 i ∧ i ≤ n ∧ Aside0 (∃ M, LentDs wr w.heap.size v3 M ∧ M.map docOf = (L.take i).map docOf ∧ Fr No w wr)) (fun _ v4 _ => n - (intOf v4).toNat)
  case atStart => exact ⟨0, rfl, by omega, ⟨[], ⟨Win.nil _ _ _ _, fun p hp => (nomatch hp)⟩, rfl, Fr.refl _ _⟩⟩
  case round =>
    obtain ⟨i, rfl, hi, HI⟩ := hrel
    obtain ⟨M, hM, hMD, hfr⟩ := HI.out
    obtain ⟨wo, rfl⟩ : ∃ wo : World, wo = wr := ⟨_, rfl⟩
    have HM := Aside0.mk hM
    have HF := Aside0.mk hfr
    have HML := Aside0.mk (mapo_len hMD (by have := H.out.len; omega))
    have HMD := Aside0.mk hMD
    clear hM hMD
    by_cases hlt : i < n
    · obtain ⟨p, hp⟩ := get_some' (xs := L) (i := i) (by have := H.out.len; omega)
      have da := H.out.below hfr.no
      obtain ⟨ad, eA, hcell⟩ := rdv_at da.hdr hp
      obtain ⟨A1, c1, f1, f2⟩ := da.part _ (List.mem_of_getElem? hp)
      rw [f1] at hcell
      subst eA
      have HP := Aside0.mk hp
      have HLE := Aside0.mk (LentEntries_any wo A1 p.2.length c1 p.2 f2)
      have hpl : p.2.length ≤ 2513169434845 := f2.max
      have HLB := Aside0.mk (lentDs_bound (n := i) (by have := HMX.out; omega))
      clear hp da f1 f2 hfr
      generalize p.2.length = l1 at *
      go_wp2_with (first | ((with_reducible refine gate_builtin (b := .append) (xs := #[.tmp 17, .tmp 19]) rfl ?_); at_builtin; go_must (refine wpl_append1 w1 w.heap.size rfl (.tmp 17) (.tmp 19) 56 52 (.slice none 0 0) 1 24 rfl Try.underlying56 info52 rfl u3 i (M.map Prod.fst) [.slice A3 E.length c3] rfl rfl (by have h := HM.out.hdr.below Q2.out.no; rwa [HML.out] at h) rfl (by simp [Value.oneCell']) (Nat.le_trans HF.out.size Q2.out.size) HLB.out.1 HLB.out.2 ?_; intro v2 w2 g1 _ g3 _; have G1 := Aside0.mk g1; have G3 := Aside0.mk g3; clear g1 g3)) | (go_at_call 94; go_must (refine HLE.out.mono ?_; rintro e' w1 ⟨u1, E, rfl, q1, q3, q2⟩; obtain ⟨A3, c3, e3, _⟩ := id q1; subst e3; have Q1 := Aside0.mk q1; have Q2 := Aside0.mk q2; have Q3 := Aside0.mk q3; clear q1 q2 q3)))
      go_roundw
      case rel =>
        have hst := HM.out.push HF.out Q1.out Q2.out (by rw [HML.out]; exact G1.out) G3.out
        exact ⟨i + 1, by simp, by omega, ⟨_, hst.1, by rw [List.map_append, HMD.out, mapo_succ HP.out]; show _ ++ [docOf (.slice A3 E.length c3, E)] = _; unfold docOf; rw [Q3.out], hst.2⟩⟩
      case measure => simp [intOf]; omega
    · obtain rfl : n = i := by omega
      clear hfr
      go_wp2_with fail
      go_ret
      exact ⟨u3, M, rfl, HM.out, by rw [HMD.out, List.take_of_length_le (by have := H.out.len; omega)], HF.out⟩
/-- What was lent, read. -/
structure LentsR (w : World) (A : Option Addr) (n c : Nat) (M : List (Value × List (Value × Ent))) : Prop where
  docs : DocsR w A n c M
  part : ∀ x ∈ M, ∃ A' c', x.1 = .slice A' x.2.length c' ∧ LentR w A' x.2.length c' x.2
theorem LentsR.below {w w' : World} {A : Option Addr} {n c : Nat} {M : List (Value × List (Value × Ent))} (h : LentsR w A n c M) (hb : Below w.heap.size w w') : LentsR w' A n c M :=
  ⟨h.docs.below hb, fun x hx => by obtain ⟨A, c, h1, h2⟩ := h.part x hx; exact ⟨A, c, h1, h2.below hb⟩⟩
theorem mem_doc {E D : List (Value × List (Value × Ent))} (h : E.map docOf = D.map docOf) {p : Value × List (Value × Ent)} (hp : p ∈ E) : ∃ q ∈ D, docOf q = docOf p := by
  have : docOf p ∈ D.map docOf := by rw [← h]; exact List.mem_map.2 ⟨p, hp, rfl⟩
  obtain ⟨q, hq, e⟩ := List.mem_map.1 this
  exact ⟨q, hq, e⟩
theorem LentDs.read {w0 w : World} {B : Nat} {v : Value} {M L : List (Value × List (Value × Ent))} {A' : Option Addr} {n c' : Nat} (h : LentDs w B v M) (hd : DocsR w0 A' n c' L) (he : M.map docOf = L.map docOf) : ∃ A c, v = .slice A n c ∧ LentsR w A n c M := by
  have hl : M.length = n := by have := congrArg List.length he; simp at this; rw [this]; exact hd.len
  have hw := h.hdr
  rw [hl] at hw
  obtain ⟨A, c, e, hc⟩ := hw.shape
  subst e
  have hp : ∀ x ∈ M, ∃ A' c', x.1 = .slice A' x.2.length c' ∧ LentR w A' x.2.length c' x.2 := fun x hx => by
    obtain ⟨q, hq, eq⟩ := mem_doc he hx
    obtain ⟨A1, c1, _, k2⟩ := hd.part q hq
    obtain ⟨A2, c2, m1, m2⟩ := (h.part x hx).read k2 eq.symm
    have hl2 : x.2.length = q.2.length := m2.doc.len
    exact ⟨A2, c2, by rw [hl2]; exact m1, by rw [hl2]; exact m2⟩
  exact ⟨A, c, rfl, ⟨RdV.of_win hw, hl, hc, hd.max, fun x hx => by obtain ⟨A2, c2, m1, m2⟩ := hp x hx; exact ⟨A2, c2, m1, m2.doc⟩⟩, hp⟩
set_option maxRecDepth 100000 in
set_option maxHeartbeats 2000000 in
theorem kept_any (w : World) (A B : Option Addr) (n c d : Nat) (M L : List (Value × List (Value × Ent))) (h : LentsR w A n c M) (hd : DocsR w B n d L) (he : M.map docOf = L.map docOf) :
    Calls Try.prog 68 #[.slice A n c, .slice B n d] w fun e w' => e = .returned (.bool true) ∧ ∃ m, w' = w.drewN m := by
  have hN : n ≤ 9223372036854775807 := hd.max
  have H := Aside0.mk h
  have HD := Aside0.mk hd
  have HE := Aside0.mk he
  clear h hd he
  go_enter Try.func68, Try.ntmps68
  go_wp2_with fail
  go_loopw [5] (fun v5 wr => ∃ i : Nat, v5 = .int .i64 i ∧ i ≤ n ∧ Aside0 (∃ m, wr = w.drewN m)) (fun v5 _ => n - (intOf v5).toNat)
  case atStart => exact ⟨0, rfl, by omega, ⟨0, rfl⟩⟩
  case round =>
    obtain ⟨i, rfl, hi, HR⟩ := hrel
    have HW := Aside0.mk (show Below w.heap.size w wr from by obtain ⟨m, rfl⟩ := HR.out; exact pw_below_drewN (Below.refl _ _) m)
    by_cases hlt : i < n
    · obtain ⟨⟨pv, E⟩, hp⟩ := get_some' (xs := M) (i := i) (by have := H.out.docs.len; omega)
      obtain ⟨⟨qv, D⟩, hq⟩ := get_some' (xs := L) (i := i) (by have := HD.out.len; omega)
      have da := H.out.below HW.out
      have db := HD.out.below HW.out
      obtain ⟨a1, e1, h1⟩ := rdv_at da.docs.hdr hp
      obtain ⟨a2, e2, h2⟩ := rdv_at db.hdr hq
      subst e1; subst e2
      obtain ⟨A1, c1, f1, f2⟩ := da.part _ (List.mem_of_getElem? hp)
      obtain ⟨A2, c2, k1, k2⟩ := db.part _ (List.mem_of_getElem? hq)
      obtain rfl : pv = .slice A1 E.length c1 := f1
      obtain rfl : qv = .slice A2 D.length c2 := k1
      have hed : E.map Prod.snd = D.map Prod.snd := by
        have h1 : (M.map docOf)[i]? = (L.map docOf)[i]? := by rw [HE.out]
        rw [List.getElem?_map, List.getElem?_map, hp, hq] at h1
        exact Option.some.inj h1
      have hll : E.length = D.length := by have := congrArg List.length hed; simpa using this
      simp only at h1 h2 f2 k2
      rw [hll] at h1 f2
      have HC := Aside0.mk (fun m => KeptEntries_any (wr.drewN m) A1 A2 D.length c1 c2 E D (f2.below (pw_below_drewN (Below.refl _ _) m)) (k2.below (pw_below_drewN (Below.refl _ _) m)) hed)
      have hl0 : D.length ≤ 2513169434845 := k2.max
      clear hp hq f2 k2 da db hed hll
      generalize D.length = l1 at *
      go_wp2_with fail
      go_quiet ((go_at_call 107; go_must (exact Calls.quiet_of (HC.out _))))
      go_wp2_with fail
      go_roundw
      case rel => exact ⟨i + 1, by simp, by omega, ⟨by obtain ⟨m, hm⟩ := HR.out; exact ⟨m + nq, by rw [hm]; exact World.drewN_drewN ..⟩⟩⟩
      case measure => simp [intOf]; omega
    · obtain rfl : n = i := by omega
      go_wp2_with fail
      go_ret
      exact ⟨rfl, HR.out⟩
end Go.Proofs.Ytchcimkmjoegdaa.C
namespace Go.Proofs.Ytchcimkmjoegdaa.C
open Go.RowKit Go.Proofs.YtchcimkmjoegdaaW.PrintWords Go.Proofs.YtchcimkmjoegdaaW.PrintMore Go.Proofs.Ytchcimkmjoegdaa.M
set_option linter.unusedVariables false
set_option linter.unusedSimpArgs false

theorem chunkO_fine {b : List Int} {n : Nat} {d : List (List Ent)} (h : chunkO b n = some d) : ∀ x ∈ d, okD x = true ∧ ∀ e ∈ x, I64 e.ns := by
  unfold chunkO at h
  cases hq : docsO b n 0 with
  | none => rw [hq] at h; simp at h
  | some q =>
    rw [hq] at h
    simp only [Option.bind_some] at h
    split at h
    · injection h with h
      subst h
      exact (docsO_fine (xs := b) (n := n) (i := 0) (D := q.1) (j := q.2) (by rw [hq])).2
    · cases h
theorem storeF_some {xs : List Int} {C : List Chk} {d : List (List Ent)} (h : storeF xs = some (C, d)) : buildB d = xs ∧ Fine d ∧ C = cutsF d := by
  have h0 := h
  unfold storeF at h
  simp only at h
  split at h
  · cases hH : headsO xs (rS xs 0 0 16384).1 (rS xs (rS xs 0 0 16384).2.1 (rS xs 0 0 16384).2.2 ((rS xs 0 0 16384).1 : Nat)).1 0 (rS xs (rS xs 0 0 16384).2.1 (rS xs 0 0 16384).2.2 ((rS xs 0 0 16384).1 : Nat)).2.1 with
    | none => rw [hH] at h; simp at h
    | some q =>
      rw [hH] at h
      simp only [Option.bind_some] at h
      split at h
      · cases hB : bodiesO xs q.1 q.2.2 with
        | none => rw [hB] at h; simp at h
        | some r =>
          rw [hB] at h
          simp only [Option.bind_some] at h
          split at h
          · rename_i hh
            injection h with h
            injection h with h1 h2
            subst h1
            subst h2
            have hf : Fine r.2.1 := ⟨hh.2.1, fun x hx => by
              obtain ⟨k1, k2⟩ := bodiesO_fine (xs := xs) (H := q.1) (i := q.2.2) (C := r.1) (D := r.2.1) (j := r.2.2) (by rw [hB])
              rw [k1] at hx
              obtain ⟨c, hc, hx⟩ := List.mem_flatMap.1 hx
              obtain ⟨d', hd'⟩ := k2 c hc
              rw [hd'] at hx
              exact (chunkO_fine hd' x hx).2⟩
            have hb := storeF_build hf hf.small
            rw [hh.2.2, h0] at hb
            injection hb with hb
            injection hb with hb _
            exact ⟨hh.2.2, hf, hb⟩
          · cases h
      · cases h
  · cases h
/-- Open's answer: a refusal, or a store. -/
theorem SOpenPost.sto {xs : List Int} {w W : World} {e : Ending} (h : SOpenPost xs w e W) : Fr No w W ∧ ((storeF xs = none ∧ e = .returned (.tuple #[.pointer none, .int .i64 20])) ∨
    ∃ (C : List (Value × Chk)) (d : List (List Ent)) (gs : Nat) (v : Value), buildB d = xs ∧ e = .returned (.tuple #[.pointer (some ⟨gs, 0, none⟩), .int .i64 0]) ∧ w.heap.size ≤ gs ∧ StoD W w.heap.size gs v C d) := by
  obtain ⟨hf, h⟩ := h
  refine ⟨hf, ?_⟩
  rcases h with h | ⟨C, d, gs, v, h1, h2, h3, h4, h5⟩
  · exact .inl h
  · obtain ⟨k1, k2, k3⟩ := storeF_some h1
    exact .inr ⟨C, d, gs, v, k1, h2, h3, ⟨h4, h5, k3, k2⟩⟩
/-- Open's answer to what Build made. -/
theorem SOpenPost.build {d : List (List Ent)} (hd : Fine d) {w W : World} {e : Ending} (h : SOpenPost (buildB d) w e W) : Fr No w W ∧
    ∃ (C : List (Value × Chk)) (gs : Nat) (v : Value), e = .returned (.tuple #[.pointer (some ⟨gs, 0, none⟩), .int .i64 0]) ∧ w.heap.size ≤ gs ∧ StoD W w.heap.size gs v C d := by
  obtain ⟨hf, h⟩ := h
  have hb := storeF_build hd hd.small
  refine ⟨hf, ?_⟩
  rcases h with ⟨h1, _⟩ | ⟨C, d', gs, v, h1, h2, h3, h4, h5⟩
  · rw [hb] at h1; cases h1
  · rw [hb] at h1
    injection h1 with h1
    injection h1 with h1 h1'
    subst h1'
    exact ⟨C, gs, v, h2, h3, ⟨h4, h5, h1.symm, hd⟩⟩
theorem StoD.stoR {W : World} {B gs : Nat} {v : Value} {C : List (Value × Chk)} {d : List (List Ent)} (h : StoD W B gs v C d) : ∃ A c, v = .slice A (cutsF d).length c ∧ StoR W gs A (cutsF d).length c d.length C := by
  have hl : C.length = (cutsF d).length := by rw [← h.eq, List.length_map]
  obtain ⟨A, c, e, hc⟩ := h.ch.hdr.shape
  rw [hl] at e hc
  subst e
  exact ⟨A, c, rfl, h.st, RdV.of_win h.ch.hdr, hl, hc, by have := lk_len (cutsF_row d).1; have := h.fine.len; omega⟩
/-- Documents that are read and may be stored. -/
theorem DocsR.fine {w : World} {A : Option Addr} {n c : Nat} {L : List (Value × List (Value × Ent))} (h : DocsR w A n c L) (ho : okDs (L.map docOf) = true) : Fine (L.map docOf) := by
  refine ⟨ho, fun x hx e he => ?_⟩
  obtain ⟨p, hp, rfl⟩ := List.mem_map.1 hx
  obtain ⟨q, hq, rfl⟩ := List.mem_map.1 he
  obtain ⟨A1, c1, _, k⟩ := h.part p hp
  obtain ⟨_, _, _, _, _, k1, _⟩ := k.part q hq
  exact k1
end Go.Proofs.Ytchcimkmjoegdaa.C
namespace Go.Proofs.Ytchcimkmjoegdaa.C
open Go.RowKit Go.Proofs.YtchcimkmjoegdaaW.PrintWords Go.Proofs.YtchcimkmjoegdaaW.PrintMore Go.Proofs.Ytchcimkmjoegdaa.M
set_option linter.unusedVariables false
set_option linter.unusedSimpArgs false

theorem byt_buildB (d : List (List Ent)) : Byt (buildB d) := by
  unfold buildB
  refine Byt.app (Byt.app (Byt.app (byt_uenc _) (byt_uenc _)) (byt_flat chkH (fun c => Byt.app (byt_uenc _) (byt_uenc _)) _)) (fun x hx => ?_)
  obtain ⟨c, hc, hx⟩ := List.mem_flatMap.1 hx
  exact cutsF_byt hc x hx
theorem buildB_len {d : List (List Ent)} (h : Fine d) : (buildB d).length ≤ 4915600020 := by
  have := bldP_len h.len (Nat.le_trans (cutN_len _ _) h.len) h.small (cutsF d).length (cutsF d).length
  rwa [bldP_all d (Nat.le_refl _)] at this
theorem win_capS {W : World} {base e n c : Nat} {A : Option Addr} {xs : List Value} (h : Win W base e 1 (.slice A n c) n xs) : n ≤ c := by
  obtain ⟨_, _, e, hc⟩ := h.shape
  injection e with _ _ e
  subst e
  exact hc
theorem sopen_acc {W : World} {B nx : Nat} {A : Option Addr} {c : Nat} {b : List Int} (h : Win W B 5 1 (.slice A nx c) nx (nums .u8 b)) (hl : b.length = nx) (hb : Byt b) (hn : nx ≤ 4915600020) : Calls Try.prog 40 #[.slice A nx c] W (SOpenPost b W) :=
  sopen_any W A nx c b (RdV.of_win h) hl hb (fun e => by subst e; exact Win.nil_cap h) (win_capS h) (by omega)
set_option maxRecDepth 100000 in
set_option maxHeartbeats 4000000 in
theorem StoredBuilds_any (w : World) (A : Option Addr) (n c : Nat) (L : List (Value × List (Value × Ent))) (h : DocsR w A n c L) (h24 : n ≤ 5864062014634) :
    Calls Try.prog 15 #[.slice A n c] w fun e w' => e = .returned (.bool true) ∧ Fr No w w' := by
  have hN : n ≤ 9223372036854775807 := h.max
  have H := Aside0.mk h
  have HLENT := Aside0.mk (lent_any w A n c L h h24)
  have HRB := Aside0.mk (fun (W : World) (hW : Fr No w W) => rbuild_any W A n c L (h.below hW.no))
  have HMAY := Aside0.mk (fun (W : World) (hW : Fr No w W) => may_any W A n c L (h.below hW.no))
  have HCUT := Aside0.mk (fun (W : World) (hW : Fr No w W) => rcuts_any W A n c L (h.below hW.no))
  have HFINE := Aside0.mk (fun ho => h.fine ho)
  obtain ⟨d, hd⟩ : ∃ d, L.map docOf = d := ⟨_, rfl⟩
  have HD := Aside0.mk hd
  have HDL := Aside0.mk (show d.length = n from by rw [← hd, List.length_map]; exact h.len)
  rw [hd] at HRB HMAY HCUT HFINE
  clear h h24 hd
  rcases hod : okDs d with _ | _
  · rw [hod] at HRB HMAY
    have HRB2 := Aside0.mk (fun (W : World) (hW : Fr No w W) => (HRB.out W hW).mono fun e W' hq => (show e = .returned (.slice none 0 0) ∧ Fr No W W' from ⟨by rcases hq.1 with ⟨h, _⟩ | ⟨_, h⟩ <;> first | exact h | exact absurd h (by decide), hq.2⟩))
    have HMAY2 := HMAY
    have HOD := Aside0.mk hod
    clear HRB HMAY HCUT HFINE hod
    go_enter Try.func15, Try.ntmps15
    go_wp2_with (first | (go_at_call 69; go_must (refine (HMAY2.out _ (frt F3.out F5.out)).mono ?_; rintro e' w6 ⟨rfl, q1⟩; have F6 := Aside0.mk (frt (frt F3.out F5.out) q1); clear q1)) | (go_at_call 68; go_must (refine (kept_any _ A3 A n c3 c M L (Q1.out.below (frt G2.out (frt G3.out G4.out)).no) (H.out.below (frt F3.out G4.out).no) QM.out).mono ?_; rintro e' w5 ⟨rfl, m5, hm5⟩; have F5 := Aside0.mk (show Fr No w3 w5 from by rw [hm5]; exact frt G4.out (Fr.drewN _ _)); clear hm5)) | (go_at_call 24; go_must (refine (KBytes_any w3 none none 0 0 0 0 [] [] (fun h => absurd rfl h) (fun h => absurd rfl h) rfl rfl (by decide) (by decide) (by decide) (by decide)).mono ?_; rw [decide_eq_true rfl]; rintro e' w4 ⟨rfl, m4, hm4⟩; have G4 := Aside0.mk (show Fr No w3 w4 from by rw [hm4]; exact Fr.drewN _ _); clear hm4)) | (go_at_call 67; go_must (refine (HRB2.out w2 F2.out).mono ?_; rintro e' w3 ⟨rfl, q1⟩; have G3 := Aside0.mk q1; have F3 := Aside0.mk (frt F2.out q1); clear q1)) | (go_at_call 44; go_must (refine (build_any w1 A3 n c3 M Q1.out.docs).mono ?_; rw [QM.out, HD.out, HOD.out]; rintro e' w2 ⟨q0, q1⟩; obtain rfl : e' = .returned (.slice none 0 0) := (by rcases q0 with ⟨h, _⟩ | ⟨_, h⟩ <;> first | exact h | exact absurd h (by decide)); have G2 := Aside0.mk q1; have F2 := Aside0.mk (frt F1.out q1); clear q0 q1)) | (go_at_call 45; go_must (refine HLENT.out.mono ?_; rintro e' w1 ⟨v1, M, rfl, q1, q2, q3⟩; obtain ⟨A3, c3, e3, q4⟩ := q1.read H.out q2; subst e3; have Q1 := Aside0.mk q4; have QM := Aside0.mk q2; have F1 := Aside0.mk q3; clear q1 q2 q3 q4)))
    go_ret
    exact ⟨rfl, F6.out⟩
  · rw [hod] at HMAY
    have HFN := Aside0.mk (HFINE.out hod)
    have HRB2 := Aside0.mk (fun (W : World) (hW : Fr No w W) => (HRB.out W hW).mono fun e W' hq => (show (∃ v, e = .returned v ∧ Acc W' W.heap.size v (buildB d)) ∧ Fr No W W' from ⟨by rcases hq.1 with ⟨_, h⟩ | ⟨h, _⟩ <;> first | exact h | exact absurd (hod.symm.trans h) (by decide), hq.2⟩))
    have HCUT2 := Aside0.mk (fun (W : World) (hW : Fr No w W) => HCUT.out W hW hod)
    have HMAY2 := HMAY
    have HOD := Aside0.mk hod
    obtain ⟨b, hb⟩ : ∃ b, buildB d = b := ⟨_, rfl⟩
    obtain ⟨nb, hnb⟩ : ∃ nb, b.length = nb := ⟨_, rfl⟩
    have HBB := Aside0.mk hb
    have HNB := Aside0.mk hnb
    rw [hb] at HRB2
    have hnbm : nb ≤ 4915600020 := by rw [← hnb, ← hb]; exact buildB_len HFN.out
    have HBY := Aside0.mk (show Byt b from by rw [← hb]; exact byt_buildB d)
    clear HRB HMAY HCUT HFINE hod hb hnb
    have hdl := HDL.out
    obtain ⟨K, hK⟩ : ∃ K, (cutsF d).length = K := ⟨_, rfl⟩
    have HK := Aside0.mk hK
    have hKm : K ≤ 16384 := by rw [← hK]; exact Nat.le_trans (cutN_len _ _) HFN.out.len
    clear hK hdl
    go_enter Try.func15, Try.ntmps15
    go_wp2_with (first | (go_at_call 39; go_must (refine (SChunks_any w8 gs K c4 n A4 C Q8.out).mono ?_; rintro e' wz ⟨rfl, hz⟩; have hz' := hz.symm; subst hz')) | (go_at_call 37; go_must (refine (SLen_any w8 gs K c4 n A4 C Q8.out).mono ?_; rintro e' wz ⟨rfl, hz⟩; have hz' := hz.symm; subst hz')) | (go_at_call 70; go_must (refine (HCUT2.out w7 F7.out).mono ?_; rintro e' w8 ⟨v8, v9, B8, rfl, q1, q2⟩; obtain ⟨A8, c8, e8, hc8⟩ := q1.many.shape; rw [HK.out] at e8 hc8; subst e8; have Q8 := Aside0.mk (Q7.out.below q2.no); have QC := Aside0.mk q1; have F8 := Aside0.mk (frt F7.out q2); obtain ⟨A9, c9, e9, hc9⟩ := q1.bl.hdr.shape; subst e9; clear q1 q2)) | (go_at_call 40; go_must (refine (sopen_acc (W := w6) (B := w1.heap.size) (nx := nb) (A := Ab) (c := cb) (b := b) (Qb.out.below (frt G3.out (frt G4.out (frt G5.out G6.out))).no) HNB.out HBY.out hnbm).mono ?_; rintro e' w7 q; rw [← HBB.out] at q; obtain ⟨q1, C, gs, v, rfl, q2, q3⟩ := q.build HFN.out; obtain ⟨A4, c4, e4, q4⟩ := q3.stoR; rw [HK.out, HDL.out] at q4; have Q7 := Aside0.mk q4; have QS := Aside0.mk q3; have F7 := Aside0.mk (frt F6.out q1); clear q1 q2 q3 q4 q)) | (go_at_call 69; go_must (refine (HMAY2.out _ (frt F3.out (frt G4.out G5.out))).mono ?_; rintro e' w6 ⟨rfl, q1⟩; have G6 := Aside0.mk q1; have F6 := Aside0.mk (frt (frt F3.out (frt G4.out G5.out)) q1); clear q1)) | (go_at_call 68; go_must (refine (kept_any _ A3 A n c3 c M L (Q1.out.below (frt G2.out (frt G3.out G4.out)).no) (H.out.below (frt F3.out G4.out).no) QM.out).mono ?_; rintro e' w5 ⟨rfl, m5, hm5⟩; have G5 := Aside0.mk (show Fr No w4 w5 from by rw [hm5]; exact Fr.drewN _ _); clear hm5)) | (go_at_call 24; go_must (refine (KBytes_any w3 Ab Ar nb nb cb cr b b (RdV.of_win (Qb.out.below G3.out.no)) (RdV.of_win Qr.out) HNB.out HNB.out (by omega) (by omega) lb lr).mono ?_; rw [decide_eq_true rfl]; rintro e' w4 ⟨rfl, m4, hm4⟩; have G4 := Aside0.mk (show Fr No w3 w4 from by rw [hm4]; exact Fr.drewN _ _); clear hm4)) | (go_at_call 67; go_must (refine (HRB2.out w2 F2.out).mono ?_; rintro e' w3 ⟨⟨v3, rfl, q0⟩, q1⟩; obtain ⟨Ar, cr, er, lr⟩ := Win.shape q0; rw [HNB.out] at er lr; subst er; have Qr := Aside0.mk q0; have G3 := Aside0.mk q1; have F3 := Aside0.mk (frt F2.out q1); clear q0 q1)) | (go_at_call 44; go_must (refine (build_any w1 A3 n c3 M Q1.out.docs).mono ?_; rw [QM.out, HD.out, HOD.out, HBB.out]; rintro e' w2 ⟨q0, q1⟩; obtain ⟨v2, rfl, q2⟩ : ∃ v2, e' = .returned v2 ∧ Acc w2 w1.heap.size v2 b := (by rcases q0 with ⟨_, h⟩ | ⟨h, _⟩ <;> first | exact h | exact absurd h (by decide)); obtain ⟨Ab, cb, eb, lb⟩ := Win.shape q2; rw [HNB.out] at eb lb; subst eb; have Qb := Aside0.mk (show Win w2 w1.heap.size 5 1 (.slice Ab nb cb) nb (nums .u8 b) from by have h := q2; unfold Acc at h; rwa [HNB.out] at h); have G2 := Aside0.mk q1; have F2 := Aside0.mk (frt F1.out q1); clear q0 q1 q2)) | (go_at_call 45; go_must (refine HLENT.out.mono ?_; rintro e' w1 ⟨v1, M, rfl, q1, q2, q3⟩; obtain ⟨A3, c3, e3, q4⟩ := q1.read H.out q2; subst e3; have Q1 := Aside0.mk q4; have QM := Aside0.mk q2; have F1 := Aside0.mk q3; clear q1 q2 q3 q4)))
    have HLK := Aside0.mk (cutsF_row d).1
    have HKM := Aside0.mk hKm
    have HDN := Aside0.mk (show n ≤ 16384 from by have := HFN.out.len; rwa [HDL.out] at this)
    have hdn := HDN.out
    go_loopw [9, 10] (fun v9 v10 wr => ∃ (i a : Nat), v9 = .int .i64 a ∧ v10 = .int .i64 i ∧ i ≤ K ∧ Aside0 (Lk a ((cutsF d).drop i) d.length ∧ Fr No w8 wr)) (fun _ v10 _ => K - (intOf v10).toNat)
    case atStart => exact ⟨0, 0, rfl, rfl, by omega, ⟨HLK.out, Fr.refl _ _⟩⟩
    case round =>
      obtain ⟨i, a, rfl, rfl, hi, HI⟩ := hrel
      obtain ⟨wo, rfl⟩ : ∃ wo : World, wo = wr := ⟨_, rfl⟩
      by_cases hlt : i < K
      · obtain ⟨⟨f, t, cb0⟩, hp⟩ := get_some' (xs := cutsF d) (i := i) (by have := HK.out; omega)
        obtain ⟨⟨u, ck⟩, hq⟩ := get_some' (xs := C) (i := i) (by have := QS.out.eq; have := congrArg List.length this; rw [List.length_map, HK.out] at this; omega)
        have hck : ck = ⟨f, t, cb0⟩ := by
          have h1 : (C.map Prod.snd)[i]? = some ⟨f, t, cb0⟩ := by rw [QS.out.eq]; exact hp
          rw [List.getElem?_map, hq] at h1
          exact Option.some.inj h1
        subst hck
        have hdr : (cutsF d).drop i = ⟨f, t, cb0⟩ :: (cutsF d).drop (i + 1) := by
          obtain ⟨hlt', e⟩ := List.getElem?_eq_some_iff.1 hp
          rw [List.drop_eq_getElem_cons hlt', e]
        have hl := HI.out.1
        rw [hdr] at hl
        obtain ⟨l1, l2, l3⟩ := hl
        have l1' : f = a := l1
        have l2' : f < t := l2
        subst l1'
        obtain ⟨m, rfl⟩ : ∃ m, t = f + m := ⟨t - f, by omega⟩
        have htn : f + m ≤ n := by have := (cutsF_ft (List.mem_of_getElem? hp)).2; have e := HDL.out; simp only at this; omega
        have hmany : (nums .i64 ((cutsF d).map fun c => ((c.t - c.f : Nat) : Int)))[i]? = some (.int .i64 (m : Int)) := by
          simp only [nums, List.getElem?_map, hp, Option.map_some]
          rw [show f + m - f = m from by omega]
        obtain ⟨ad, ea, hcc⟩ := (RdV.of_win (QC.out.many.below HI.out.2.no)) (by intro h0; rw [h0] at hmany; simp at hmany)
        have hcell := hcc i _ hmany
        have HCH := Aside0.mk (SChunk_in wo gs K c4 n A4 C (Q8.out.below HI.out.2.no) i u f (f + m) cb0 hq)
        have HL3 := Aside0.mk l3
        clear hp hq hdr l1 l2 l3 hmany hcc
        subst ea
        go_wp2_with (go_at_call 36; go_must (refine HCH.out.mono ?_; rintro e' w9 ⟨rfl, m9, hm9⟩; have F9 := Aside0.mk (show Fr No wo w9 from by rw [hm9]; exact Fr.drewN _ _); have hcell9 : w9.cell? (ad.add i) = some (.int .i64 (m : Int)) := (by rw [hm9]; exact hcell); clear hm9))
        go_roundw
        case rel => exact ⟨i + 1, f + m, by simp, by simp, by omega, ⟨HL3.out, frt HI.out.2 F9.out⟩⟩
        case measure => simp [intOf]; omega
      · obtain rfl : K = i := by omega
        go_wp2_with fail
        go_ret
        exact ⟨rfl, frt F8.out HI.out.2⟩
end Go.Proofs.Ytchcimkmjoegdaa.C
namespace Go.Proofs.Ytchcimkmjoegdaa.C
open Go.RowKit Go.Proofs.YtchcimkmjoegdaaW.PrintWords Go.Proofs.YtchcimkmjoegdaaW.PrintMore Go.Proofs.Ytchcimkmjoegdaa.M
set_option linter.unusedVariables false
set_option linter.unusedSimpArgs false

theorem weightsS_mem {H : Type} {P : Program} {e : TypeId} : ∀ {l : List (DataW H)} {d : DataW H}, d ∈ l → ∀ n ∈ d.weights P e, n ∈ DataW.weightsAll P e l
  | x :: l, d, h, n, hn => by
    simp only [DataW.weightsAll, List.mem_append]
    rcases List.mem_cons.1 h with rfl | h
    · exact .inl hn
    · exact .inr (weightsS_mem h n hn)
  | [], _, h, _, _ => nomatch h
theorem i64S {u : Int} (h : (Lit.int .i64 u).wf = true) : -9223372036854775808 ≤ u ∧ u ≤ 9223372036854775807 := by
  have h' : decide (IntKind.i64.min ≤ u) && decide (u ≤ IntKind.i64.max) := h
  have h0 : IntKind.i64.min = -9223372036854775808 := by decide +kernel
  have h1 : IntKind.i64.max = 9223372036854775807 := by decide +kernel
  rw [h0, h1] at h'
  simpa using h'
theorem addS (a : Addr) (i j : Nat) : (a.add i).add j = a.add (i + j) := by
  unfold Addr.add
  by_cases hi : i = 0
  · subst hi; simp
  · by_cases hj : j = 0
    · subst hj; simp [hi]
    · simp [hi, hj, Nat.add_assoc]
instance : Inhabited Ent := ⟨⟨.empty, .empty, []⟩⟩
noncomputable instance : Inhabited (Value × Ent) := ⟨(.slice none 0 0, default)⟩
noncomputable instance : Inhabited (Value × List (Value × Ent)) := ⟨(.slice none 0 0, [])⟩
theorem fields134 : ∃ f0 f1 f2 : Field, Try.prog.underlying 134 = some (.struct #[f0, f1, f2]) ∧ (f0.type, f0.offset) = (9, 0) ∧ (f1.type, f1.offset) = (9, 1) ∧ (f2.type, f2.offset) = (45, 2) := ⟨_, _, _, Try.underlying134, rfl, rfl, rfl⟩
abbrev Rch : Nat := 140737488351232
open Go.ChangeShapes Go.WideShapes Go.Deep
section
variable {H : Type} {enc : TypeId × Value → H} {W : World} {base : Nat} {sp : Nat → Bool} {held : Bool}
theorem ints_read {fuel : Nat} {cs : List Value} {x : DataW H × List MemPlace} (h : DataW.trod enc Try.prog W base sp held fuel 45 cs = some x) (hw : ∀ k ∈ x.1.weights Try.prog 45, k ≤ Rch) :
    ∃ (A : Option Addr) (c : Nat) (zs : List Int), cs = [.slice A zs.length c] ∧ zs.length ≤ c ∧ RdV W A (nums .i64 zs) ∧ I64 zs ∧ zs.length ≤ 17592186043904 := by
  rcases open_ints Try.underlying45 Try.underlying2 (by kernel_rfl) h with ⟨hcs, _⟩ | ⟨a, len, cap, zs, hcs, _, hl, hm, hz, hx, hcell, hwf⟩
  · exact ⟨none, 0, [], hcs, Nat.le_refl _, fun h => absurd rfl h, (fun q hq => nomatch hq), by decide⟩
  · have hlz : len ≤ zs.length := by rw [hz]; split <;> omega
    have hlen : (zs.take len).length = len := by rw [List.length_take]; omega
    have hw1 := hw (((lits (H := H) .i64 (zs.take len)).length + (lits (H := H) .i64 (zs.drop len)).length) * Try.prog.bytesOf 2) (by rw [hx]; simp [DataW.weights, Try.underlying45])
    rw [show Try.prog.bytesOf 2 = 8 from by kernel_rfl] at hw1
    simp only [lits, List.length_map, hlen] at hw1
    refine ⟨some a, cap, zs.take len, by rw [hlen]; exact hcs, by rw [hlen]; exact hl, fun _ => ⟨a, rfl, fun i u hi => ?_⟩, fun q hq => i64S (hwf q (List.mem_of_mem_take hq)), by rw [hlen]; simp only [Rch] at hw1; omega⟩
    simp only [nums, List.getElem?_map] at hi
    obtain ⟨z, hz', rfl⟩ := Option.map_eq_some_iff.1 hi
    rw [List.getElem?_take] at hz'
    split at hz'
    · rename_i hil
      rw [hcell i (by omega), List.getD_eq_getElem?_getD, hz']
      rfl
    · cases hz'
theorem doc_read {fuel : Nat} {cs : List Value} {x : DataW H × List MemPlace} (h : DataW.trod enc Try.prog W base sp held fuel 52 cs = some x) (hw : ∀ k ∈ x.1.weights Try.prog 52, k ≤ Rch) :
    ∃ (A : Option Addr) (c : Nat) (D : List (Value × Ent)), cs = [.slice A D.length c] ∧ DocR W A D.length c D := by
  have hc134 : Try.prog.cellsOf 134 = 3 := by kernel_rfl
  have hc9 : Try.prog.cellsOf 9 = 1 := by kernel_rfl
  have hc45 : Try.prog.cellsOf 45 = 1 := by kernel_rfl
  rcases open_slice Try.underlying52 h with ⟨hcs, _⟩ | ⟨a, len, cap, m, n, Dd, Pl, hcs, _, hl, hmax, hm, hx, hcell⟩
  · exact ⟨none, 0, [], hcs, ⟨fun h => absurd rfl h, rfl, Nat.le_refl _, by decide, fun p hp => nomatch hp⟩⟩
  · have hlm : len ≤ m := by rw [hm]; split <;> omega
    rw [hc134] at hcell
    have hlen56 : len ≤ 2513169434845 := by
      have hw1 := hw ((((List.range len).map Dd).length + ((List.range (m - len)).map fun j => Dd (len + j)).length) * Try.prog.bytesOf 134) (by rw [hx]; simp only [DataW.weights, Try.underlying52]; exact List.mem_cons_self)
      rw [show Try.prog.bytesOf 134 = 56 from by kernel_rfl] at hw1
      simp only [List.length_map, List.length_range, Rch] at hw1
      omega
    have each : ∀ i, i < len → ∃ p : Value × Ent, W.cell? (a.add (i * 3)) = some (.string p.2.f) ∧ W.cell? (a.add (i * 3 + 1)) = some (.string p.2.t) ∧ W.cell? (a.add (i * 3 + 2)) = some p.1 ∧ EntR W p := fun i hi => by
      obtain ⟨cs', h1, h2⟩ := hcell i (by omega)
      have hwi : ∀ k ∈ (Dd i).weights Try.prog 134, k ≤ Rch := fun k hk => hw k (by
        rw [hx]
        simp only [DataW.weights, Try.underlying52]
        exact List.mem_cons_of_mem _ (List.mem_append_left _ (weightsS_mem (List.mem_map.2 ⟨i, List.mem_range.2 hi, rfl⟩) k hk)))
      obtain ⟨f0, f1, f2, hu, e0, e1, e2⟩ := fields134
      obtain ⟨t0, o0⟩ := Prod.mk.inj e0
      obtain ⟨t1, o1⟩ := Prod.mk.inj e1
      obtain ⟨t2, o2⟩ := Prod.mk.inj e2
      obtain ⟨_, h3, h4⟩ := World.cells?_some h1
      obtain ⟨y0, y1, y2, n', hxx, hl3, k0, k1, k2⟩ := trod_struct3 hu h2
      rw [t0, o0, hc9] at k0
      rw [t1, o1, hc9] at k1
      rw [t2, o2, hc45] at k2
      have hxe : Dd i = .agg [y0.1, y1.1, y2.1] := (Prod.mk.inj hxx).1
      rw [hxe] at hwi
      simp only [DataW.weights, hu, DataW.weightsEach, List.map_cons, List.map_nil, Array.toList, t0, t1, t2, List.append_nil, List.mem_append] at hwi
      obtain ⟨s0, q0, z0, _⟩ := DataW.trod_string Try.underlying9 k0
      obtain ⟨s1, q1, z1, _⟩ := DataW.trod_string Try.underlying9 k1
      obtain ⟨A2, c2, zs, q2, r1, r2, r3, r4⟩ := ints_read k2 (fun k hk => hwi k (.inr (.inr hk)))
      have w0 := hwi s0.data.toList.length (.inl (by rw [z0]; simp [DataW.weights]))
      have w1 := hwi s1.data.toList.length (.inr (.inl (by rw [z1]; simp [DataW.weights])))
      have g0 := h4 0 (by omega)
      have g1 := h4 1 (by omega)
      have g2 := h4 2 (by omega)
      rw [addS] at g0 g1 g2
      have j0 : cs'[0]? = some (.string s0) := by have := congrArg (fun l => l[0]?) q0; simpa using this
      have j1 : cs'[1]? = some (.string s1) := by have := congrArg (fun l => l[0]?) q1; simpa using this
      have j2 : cs'[2]? = some (.slice A2 zs.length c2) := by have := congrArg (fun l => l[0]?) q2; simpa using this
      refine ⟨(.slice A2 zs.length c2, ⟨s0, s1, zs⟩), by rw [show i * 3 = i * 3 + 0 by omega, g0, j0], by rw [g1, j1], by rw [g2, j2], A2, c2, rfl, r1, r2, r3, r4, ?_, ?_⟩
      · show s0.data.size ≤ _
        rw [← Array.length_toList]
        exact w0
      · show s1.data.size ≤ _
        rw [← Array.length_toList]
        exact w1
    obtain ⟨Dx, hD⟩ := choose_lt each
    have hlen3 : ((List.range len).map Dx).length = len := by simp
    refine ⟨some a, cap, (List.range len).map Dx, by rw [hlen3]; exact hcs, ⟨fun _ => ⟨a, rfl, fun j u hj => ?_⟩, rfl, by rw [hlen3]; exact hl, by rw [hlen3]; exact hlen56, fun p hp => ?_⟩⟩
    · have hjl := (List.getElem?_eq_some_iff.1 hj).1
      rw [flat3_len (f := entCells) (fun _ => rfl), hlen3] at hjl
      have hdi : j / 3 < len := by omega
      have hget : ((List.range len).map Dx)[j / 3]? = some (Dx (j / 3)) := by rw [List.getElem?_map, List.getElem?_range hdi]; rfl
      have hmod : j % 3 < 3 := Nat.mod_lt _ (by decide)
      have hjj : j / 3 * 3 + j % 3 = j := by omega
      have hk := flat3_get (f := entCells) (fun _ => rfl) hget hmod
      rw [hjj, hj] at hk
      obtain ⟨d0, d1, d2, _⟩ := hD (j / 3) hdi
      rw [← hjj]
      rcases (show j % 3 = 0 ∨ j % 3 = 1 ∨ j % 3 = 2 by omega) with e | e | e <;> rw [e] at hk ⊢ <;> simp [entCells] at hk
      · rw [Nat.add_zero, d0, hk]
      · rw [d1, hk]
      · rw [d2, hk]
    · obtain ⟨i, hi, rfl⟩ := List.mem_map.1 hp
      exact (hD i (List.mem_range.1 hi)).2.2.2
theorem docs_read {fuel : Nat} {cs : List Value} {x : DataW H × List MemPlace} (h : DataW.trod enc Try.prog W base sp held fuel 56 cs = some x) (hw : ∀ k ∈ x.1.weights Try.prog 56, k ≤ Rch) :
    ∃ (A : Option Addr) (n c : Nat) (L : List (Value × List (Value × Ent))), cs = [.slice A n c] ∧ DocsR W A n c L ∧ n ≤ 5864062014634 := by
  rcases open_slice1 Try.underlying56 (by kernel_rfl) h with ⟨hcs, _⟩ | ⟨a, len, cap, m, n, V, Dd, Pl, hcs, _, hl, hmax, hm, hx, hcell⟩
  · exact ⟨none, 0, 0, [], hcs, ⟨fun h => absurd rfl h, rfl, Nat.le_refl _, by decide, fun p hp => nomatch hp⟩, by decide⟩
  · have hlm : len ≤ m := by rw [hm]; split <;> omega
    have hlen24 : len ≤ 5864062014634 := by
      have hw1 := hw ((((List.range len).map Dd).length + ((List.range (m - len)).map fun j => Dd (len + j)).length) * Try.prog.bytesOf 52) (by rw [hx]; simp only [DataW.weights, Try.underlying56]; exact List.mem_cons_self)
      rw [show Try.prog.bytesOf 52 = 24 from by kernel_rfl] at hw1
      simp only [List.length_map, List.length_range, Rch] at hw1
      omega
    have each : ∀ i, i < len → ∃ p : Value × List (Value × Ent), W.cell? (a.add i) = some p.1 ∧ ∃ A' c', p.1 = .slice A' p.2.length c' ∧ DocR W A' p.2.length c' p.2 := fun i hi => by
      obtain ⟨h1, h2⟩ := hcell i (by omega)
      obtain ⟨A', c', D, e, hd⟩ := doc_read h2 (fun k hk => hw k (by
        rw [hx]
        simp only [DataW.weights, Try.underlying56]
        exact List.mem_cons_of_mem _ (List.mem_append_left _ (weightsS_mem (List.mem_map.2 ⟨i, List.mem_range.2 hi, rfl⟩) k hk))))
      have e' : V i = .slice A' D.length c' := by injection e
      exact ⟨(V i, D), h1, A', c', e', hd⟩
    obtain ⟨Lx, hL⟩ := choose_lt each
    refine ⟨some a, len, cap, (List.range len).map Lx, hcs, ⟨fun _ => ⟨a, rfl, fun j u hj => ?_⟩, by simp, hl, by omega, fun p hp => ?_⟩, hlen24⟩
    · rw [List.map_map, List.getElem?_map] at hj
      obtain ⟨z, hz, rfl⟩ := Option.map_eq_some_iff.1 hj
      obtain ⟨hlt, e⟩ := List.getElem?_eq_some_iff.1 hz
      simp at hlt e
      subst e
      exact (hL j hlt).1
    · obtain ⟨i, hi, rfl⟩ := List.mem_map.1 hp
      exact (hL i (List.mem_range.1 hi)).2
theorem row_docs {a : Option Addr} {len cap : Nat} {d : DataW H} {ps : List MemPlace} {ts : List TypeId} {ds : List (DataW H)} {j : Nat}
    (hsz : (DataW.weightsEach Try.prog ts ds).all (· ≤ reachBytes) = true) (ht : ts[j]? = some 56) (hd : ds[j]? = some d) (h : DataW.Trod enc Try.prog W base sp held 56 (.slice a len cap) d ps) :
    ∃ L, DocsR W a len cap L ∧ len ≤ 5864062014634 := by
  obtain ⟨fuel, hf⟩ := h
  obtain ⟨A, n, c, L, e, h1, h2⟩ := docs_read hf (fun k hk => of_decide_eq_true (List.all_eq_true.1 hsz _ (DataW.weights_mem_each ht hd k hk)))
  simp [Value.cells] at e
  obtain ⟨rfl, rfl, rfl⟩ := e
  exact ⟨L, h1, h2⟩
end
end Go.Proofs.Ytchcimkmjoegdaa.C
namespace Go.Proofs.Ytchcimkmjoegdaa.C
open Go.RowKit Go.Proofs.YtchcimkmjoegdaaW.PrintWords Go.Proofs.YtchcimkmjoegdaaW.PrintMore Go.Proofs.Ytchcimkmjoegdaa.M
theorem StoredBuilds_row (w : World) {a : Option Addr} {n c : Nat} {L : List (Value × List (Value × Ent))} (h : DocsR w a n c L ∧ n ≤ 5864062014634) :
    Calls Try.prog 15 #[.slice a n c] w fun e w' => e = .returned (.bool true) ∧ Below w.heap.size w w' :=
  (StoredBuilds_any w a n c L h.1 h.2).mono fun _ _ h => ⟨h.1, h.2.no⟩
end Go.Proofs.Ytchcimkmjoegdaa.C
