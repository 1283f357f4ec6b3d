/- stored.Build (44). Conditions: as the theorem states. | The reference's Cuts (70). Conditions: as the theorem states. | The kit's Int64s (92), Entries (42). Conditions: as each theorem states. | The kit's Entries (42). Conditions: as each theorem states. | A store in memory; Len (37), Chunks (39), Chunk (36). Conditions: as each theorem states. | stored.good (86). Conditions: as each theorem states. | chunk.docs (84): it makes the iterator. Conditions: as the theorem states. | Stored documents read again: the pure reading, no program. Conditions: as each theorem states. | The chunks lie in a row. Conditions: as each theorem states. | What Open makes of any bytes: the pure reading of a store, and that a store's own form is read again. No program. Conditions: as each theorem states. (Several texts of mine laid into one by prune.py.) -/
import Derived.Test.YtchcimkmjoegdaaSkC4
namespace Go.Proofs.Ytchcimkmjoegdaa.C
open Go.RowKit Go.Proofs.YtchcimkmjoegdaaW.PrintWords Go.Proofs.YtchcimkmjoegdaaW.PrintMore Go.Proofs.Ytchcimkmjoegdaa.M
set_option linter.unusedVariables false
set_option linter.unusedSimpArgs false

/-- A chunk's head. -/
def chkH (c : Chk) : List Int := uenc (c.t - c.f) ++ uenc c.b.length
def cutsF (d : List (List Ent)) : List Chk := cutN (d.map docB) d.length
/-- The bytes behind j heads and i bodies. -/
def bldP (d : List (List Ent)) (j i : Nat) : List Int := uenc d.length ++ uenc (cutsF d).length ++ ((cutsF d).take j).flatMap chkH ++ ((cutsF d).take i).flatMap Chk.b
def buildB (d : List (List Ent)) : List Int := uenc d.length ++ uenc (cutsF d).length ++ (cutsF d).flatMap chkH ++ (cutsF d).flatMap Chk.b
theorem bldP_all (d : List (List Ent)) {j : Nat} (h : (cutsF d).length ≤ j) : bldP d j j = buildB d := by
  unfold bldP buildB
  rw [List.take_of_length_le h]
theorem bldP_head {d : List (List Ent)} {j : Nat} {c : Chk} (h : (cutsF d)[j]? = some c) : bldP d (j + 1) 0 = bldP d j 0 ++ chkH c := by
  unfold bldP
  rw [List.take_add_one, h]
  simp
theorem bldP_body {d : List (List Ent)} {j i : Nat} {c : Chk} (h : (cutsF d)[i]? = some c) : bldP d j (i + 1) = bldP d j i ++ c.b := by
  unfold bldP
  rw [List.take_add_one, h]
  simp
theorem cutsF_ft {d : List (List Ent)} {c : Chk} (h : c ∈ cutsF d) : c.f ≤ c.t ∧ c.t ≤ d.length := cutN_ft _ _ c h
theorem bldP_len {d : List (List Ent)} (hd : d.length ≤ 16384) (hc : (cutsF d).length ≤ 16384) (hs : ∀ c ∈ cutsF d, c.b.length ≤ 300000) (j i : Nat) : (bldP d j i).length ≤ 4915600020 := by
  have a := uenc_10 d.length (by omega)
  have b := uenc_10 (cutsF d).length (by omega)
  have c := flat_len chkH 20 ((cutsF d).take j) (fun c h => by
    have h1 := cutsF_ft (List.mem_of_mem_take h)
    have h2 := hs c (List.mem_of_mem_take h)
    unfold chkH
    rw [List.length_append]
    have := uenc_10 (c.t - c.f) (by omega)
    have := uenc_10 c.b.length (by omega)
    omega)
  have e := flat_len Chk.b 300000 ((cutsF d).take i) (fun c h => hs c (List.mem_of_mem_take h))
  rw [List.length_take] at c e
  unfold bldP
  simp only [List.length_append]
  omega
theorem box3 {W : World} {k t : Nat} {a b c : Value} (h : W.heap[k]? = some (Obj.cells #[a, b, c] t (0, 0))) : W.cell? ⟨k, 0, none⟩ = some a ∧ W.cell? ⟨k, 1, none⟩ = some b ∧ W.cell? ⟨k, 2, none⟩ = some c := by
  simp [World.cell?, h]
set_option maxRecDepth 100000 in
set_option maxHeartbeats 4000000 in
theorem build_any (w : World) (A : Option Addr) (n c : Nat) (L : List (Value × List (Value × Ent))) (h : DocsR w A n c L) :
    Calls Try.prog 44 #[.slice A n c] w fun e W' => ((okDs (L.map docOf) = true ∧ ∃ v, e = .returned v ∧ Acc W' w.heap.size v (buildB (L.map docOf))) ∨ (okDs (L.map docOf) = false ∧ e = .returned (.slice none 0 0))) ∧ Fr No w W' := by
  obtain ⟨d, hd⟩ : ∃ d, L.map docOf = d := ⟨_, rfl⟩
  have HCUT := Aside0.mk (cut_any w A n c L h)
  rw [hd] at HCUT ⊢
  have hc := h.cap
  have hn := h.max
  have HDL := Aside0.mk (show d.length = n from by rw [← hd, List.length_map]; exact h.len)
  clear h hd
  cases hok : okDs d with
  | false =>
    have HF := Aside0.mk (show Calls Try.prog 93 #[.slice A n c] w fun e W' => e = .returned (.tuple #[.slice none 0 0, .bool false]) ∧ Fr No w W' from HCUT.out.mono (by
      rintro e W' ⟨⟨h0, _⟩ | ⟨_, h1⟩, h3⟩
      · rw [hok] at h0; exact absurd h0 (by decide)
      · exact ⟨h1, h3⟩))
    clear HCUT hok
    go_enter Try.func44, Try.ntmps44
    go_wp2_with (first | (go_at_call 93; go_must (refine HF.out.mono ?_; rintro e' w1 ⟨rfl, q1⟩; have Q1 := Aside0.mk q1; clear q1)))
    go_ret
    exact ⟨.inr ⟨by trivial, rfl⟩, Q1.out⟩
  | true =>
    have HF := Aside0.mk (show Calls Try.prog 93 #[.slice A n c] w fun e W' => ∃ v C, e = .returned (.tuple #[v, .bool true]) ∧ CutS w d d.length W' v C ∧ Fr No w W' from HCUT.out.mono (by
      rintro e W' ⟨⟨_, v, C, h1, h2⟩ | ⟨h0, _⟩, h3⟩
      · exact ⟨v, C, h1, h2, h3⟩
      · rw [hok] at h0; exact absurd h0 (by decide)))
    have hn2 : n ≤ 16384 := by
      unfold okDs at hok
      rw [Bool.and_eq_true, decide_eq_true_eq] at hok
      rw [← HDL.out]
      exact hok.1
    clear HCUT hok hn
    go_enter Try.func44, Try.ntmps44
    go_wp2_with (first | (go_at_call_of 25 v2; go_must (refine (put_step_u w2 w1.heap.size v2 _ (k : Int) Q2.out F2.out.size (by omega) (by have := uenc_10 n (by omega); omega)).mono ?_; rintro e' w3 ⟨v3, rfl, q1, q2⟩; rw [Int.toNat_natCast] at q1; have Q3 := Aside0.mk q1; have F3 := Aside0.mk (F2.out.trans q2 (fun _ _ h => h) (fun _ _ h => h)); clear q1 q2)) | (go_at_call 25; go_must (refine (put_step_u w1 w1.heap.size (.slice none 0 0) [] (n : Int) (Win.nil _ _ _ _) (Nat.le_refl _) (by omega) (by simp)).mono ?_; rintro e' w2 ⟨v2, rfl, q1, q2⟩; rw [List.nil_append, Int.toNat_natCast] at q1; have Q2 := Aside0.mk q1; have F2 := Aside0.mk q2; clear q1 q2)) | (go_at_call 93; go_must (refine HF.out.mono ?_; rintro e' w1 ⟨v1, C, rfl, q1, q2⟩; obtain ⟨A1, c1, e1, l1⟩ := Win.shape q1.ch.hdr; subst e1; obtain ⟨k, hk⟩ : ∃ k, C.length = k := ⟨_, rfl⟩; have hk2 : k ≤ 16384 := (by have := q1.len; have := HDL.out; omega); rw [hk] at q1 l1 ⊢; have HK := Aside0.mk hk; have HC := Aside0.mk q1; have Q1 := Aside0.mk q2; clear q1 q2 hk)))
    have HCF := Aside0.mk (show C.map Prod.snd = cutsF d from HC.out.eq)
    have HCL := Aside0.mk (show (cutsF d).length = k from by rw [← HCF.out, List.length_map, HK.out])
    have HCG := Aside0.mk (show ∀ (j : Nat) (p : Value × Chk), C[j]? = some p → (cutsF d)[j]? = some p.2 from fun j p h => by rw [← HCF.out, List.getElem?_map, h]; rfl)
    have HBL := Aside0.mk (show ∀ j i, (bldP d j i).length ≤ 4915600020 from bldP_len (by rw [HDL.out]; omega) (by rw [HCL.out]; omega) (fun x hx => by
      rw [← HCF.out] at hx
      obtain ⟨p, hp, rfl⟩ := List.mem_map.1 hx
      exact HC.out.small p hp))
    go_loopw [5, 27] (fun v5 v27 wr => ∃ j : Nat, v27 = .int .i64 j ∧ j ≤ k ∧ Aside0 (Acc wr w1.heap.size v5 (bldP d j 0) ∧ Fr No w1 wr)) (fun _ v27 _ => k - (intOf v27).toNat)
    case atStart => exact ⟨0, rfl, by omega, ⟨by have q := Q3.out; unfold bldP; rw [HDL.out, HCL.out]; simpa using q, F3.out⟩⟩
    case round =>
      obtain ⟨j, rfl, hj, HW⟩ := hrel
      by_cases hlt : j < k
      · obtain ⟨⟨u, f, t, b⟩, hp⟩ := get_some' (xs := C) (i := j) (by have := HK.out; omega)
        have hch := HC.out.ch.below HW.out.2.no
        have hG := HCG.out j _ hp
        obtain ⟨g, off, c2, e2, _⟩ := Win.shape1 (by have h := hch.hdr; rwa [HK.out] at h) (by omega)
        injection e2 with e2 _ e3
        subst e2
        subst e3
        obtain ⟨⟨k0, _⟩, ⟨k1, _⟩, k2, _⟩ := Chks.cells hch HK.out hp
        obtain ⟨Au, cu, eu, hcu⟩ := Win.shape (hch.part _ (List.mem_of_getElem? hp))
        obtain rfl : u = .slice Au b.length cu := eu
        replace hcu : b.length ≤ cu := hcu
        have hft := cutsF_ft (List.mem_of_getElem? hG)
        have hbs : b.length ≤ 300000 := HC.out.small _ (List.mem_of_getElem? hp)
        obtain ⟨s, hs⟩ : ∃ s, t = f + s := ⟨t - f, by have : f ≤ t := hft.1; omega⟩
        have hfn : f + s ≤ n := by have : t ≤ d.length := hft.2; have := HDL.out; omega
        subst hs
        obtain ⟨nb, hnb⟩ : ∃ k, b.length = k := ⟨_, rfl⟩
        have HH := Aside0.mk (show bldP d (j + 1) 0 = bldP d j 0 ++ (uenc s ++ uenc nb) from by rw [bldP_head hG]; unfold chkH; simp only [hnb, Nat.add_sub_cancel_left])
        have HX := Aside0.mk (show (uenc s ++ uenc nb).length ≤ 20 from by have := uenc_10 s (by omega); have := uenc_10 nb (by omega); rw [List.length_append]; omega)
        rw [hnb] at k2 hcu hbs
        clear hch hG hft hnb hp
        obtain ⟨A5, c5, e5, hc5⟩ := Win.shape HW.out.1
        subst e5
        obtain ⟨lx, hlx⟩ : ∃ k, (uenc s ++ uenc nb).length = k := ⟨_, rfl⟩
        have HLX := Aside0.mk hlx
        clear hlx
        have HKX := Aside0.mk (show ((wr.alloc (.cells #[.int .i64 f, .int .i64 ((f : Int) + s), .slice Au nb cu] 118)).drew).heap[wr.heap.size]? = some (.cells #[.int .i64 f, .int .i64 ((f : Int) + s), .slice Au nb cu] 118 (0, 0)) from heap_alloc_new wr (.cells #[.int .i64 f, .int .i64 ((f : Int) + s), .slice Au nb cu] 118))
        have HWR := Aside0.mk (show IntKind.u64.wrap (IntKind.i64.wrap ((f : Int) + s - f)) = (s : Int) from by rw [IntKind.wrap_i64, IntKind.wrap_u64]; omega)
        have HWN := Aside0.mk (show IntKind.u64.wrap (nb : Int) = (nb : Int) from by rw [IntKind.wrap_u64]; omega)
        have HSB := Aside0.mk (small_bound (n := (bldP d j 0).length + lx) (by have := HBL.out j 0; have := HX.out; have := HLX.out; omega))
        have FA := Aside0.mk (show Fr No wr ((wr.alloc (.cells #[.int .i64 f, .int .i64 ((f : Int) + s), .slice Au nb cu] 118)).drew) from Fr.of_No (below_drew (below_alloc (Below.refl _ _) _)))
        go_wp2_with fail
        go_region_held3 (fun w' => w'.cell? ⟨wr.heap.size, 0, none⟩ = some (.int .i64 f) ∧ w'.cell? ⟨wr.heap.size, 1, none⟩ = some (.int .i64 ((f : Int) + s)) ∧ w'.cell? ⟨wr.heap.size, 2, none⟩ = some (.slice Au nb cu)) (first | exact box3 HKX.out | assumption) (first | (go_at_call_of 25 v4; rw [HWN.out]; refine (put_step_u w4 0 v4 _ (nb : Int) Q4.out (Nat.zero_le _) (by omega) (by have := uenc_10 s (by omega); omega)).mono ?_; rintro e' w5 ⟨v5, rfl, q1, q2⟩; rw [Int.toNat_natCast] at q1; obtain ⟨A7, c7, e7, l7⟩ := Win.shape q1; rw [HLX.out] at e7; subst e7; have Q5 := Aside0.mk q1; have F5 := Aside0.mk (F4.out.trans q2 (fun _ _ h => h) (fun _ _ h => h)); have H5 := Aside0.mk (q2.get H4.out (fun h => h)); have hb5 := box3 H5.out; clear q1 q2 l7) | (go_at_call 25; rw [HWR.out]; refine (put_step_u _ 0 (.slice none 0 0) [] (s : Int) (Win.nil _ _ _ _) (Nat.zero_le _) (by omega) (by simp)).mono ?_; rintro e' w4 ⟨v4, rfl, q1, q2⟩; rw [List.nil_append, Int.toNat_natCast] at q1; have Q4 := Aside0.mk q1; have F4 := Aside0.mk (FA.out.trans q2 (fun _ _ h => h) (fun _ _ h => h)); have H4 := Aside0.mk (q2.get HKX.out (fun h => h)); have hb4 := box3 H4.out; clear q1 q2) | (refine step_append w5 w1.heap.size rfl (.tmp 31) (.tmp 43) 22 22 5 (.int .u8 0) 1 1 (.slice 5) rfl Try.underlying22 Try.underlying22 (.inl ⟨_, rfl⟩) info5 rfl (.slice A5 (bldP d j 0).length c5) (bldP d j 0).length (nums .u8 (bldP d j 0)) (.slice A7 lx c7) lx (nums .u8 (uenc s ++ uenc nb)) rfl rfl (HW.out.1.below F5.out.no) (Src.of_rd (RdV.of_win Q5.out) (by rw [nums_length, HLX.out, Nat.mul_one]) (nums_one _ _)) (Nat.le_trans HW.out.2.size F5.out.size) HSB.out.1 HSB.out.2 ?_; intro v6 w6 g1 _ g3 _; have G1 := Aside0.mk g1; have G3 := Aside0.mk (own_step (HW.out.2.trans F5.out (fun _ _ h => h) (fun _ _ h => h)) (HW.out.1.below F5.out.no) g3); have hb6 := box3 (g3.get H5.out (win_not_at (HW.out.1.below F5.out.no) H5.out (by decide))); clear g1 g3))
        go_wp2_with fail
        go_roundw
        case rel => exact ⟨j + 1, by simp, by omega, ⟨by have q := G1.out; rw [← nums_append] at q; rw [HH.out]; exact Acc.of q, G3.out⟩⟩
        case measure => simp [intOf]; omega
      · obtain rfl : k = j := by omega
        have HB2 := Aside0.mk (show bldP d k 0 = bldP d k 0 from rfl)
        go_wp2_with fail
        go_loopw [5, 48] (fun v5 v48 wr => ∃ j : Nat, v48 = .int .i64 j ∧ j ≤ k ∧ Aside0 (Acc wr w1.heap.size v5 (bldP d k j) ∧ Fr No w1 wr)) (fun _ v48 _ => k - (intOf v48).toNat)
        case atStart => exact ⟨0, rfl, by omega, HW⟩
        case round =>
          obtain ⟨j, rfl, hj, HW⟩ := hrel
          by_cases hlt : j < k
          · obtain ⟨⟨u, f, t, b⟩, hp⟩ := get_some' (xs := C) (i := j) (by have := HK.out; omega)
            have hch := HC.out.ch.below HW.out.2.no
            have hG := HCG.out j _ hp
            obtain ⟨g, off, c2, e2, _⟩ := Win.shape1 (by have h := hch.hdr; rwa [HK.out] at h) (by omega)
            injection e2 with e2 _ e3
            subst e2
            subst e3
            obtain ⟨⟨k0, _⟩, ⟨k1, _⟩, k2, _⟩ := Chks.cells hch HK.out hp
            have HAcc := hch.part _ (List.mem_of_getElem? hp)
            obtain ⟨Au, cu, eu, hcu⟩ := Win.shape HAcc
            obtain rfl : u = .slice Au b.length cu := eu
            have hbs : b.length ≤ 300000 := HC.out.small _ (List.mem_of_getElem? hp)
            obtain ⟨nb, hnb⟩ : ∃ k, b.length = k := ⟨_, rfl⟩
            have HH := Aside0.mk (show bldP d k (j + 1) = bldP d k j ++ b from by rw [bldP_body hG])
            have HAC := Aside0.mk (show Win wr w.heap.size 5 1 (.slice Au nb cu) nb (nums .u8 b) from by rw [← hnb]; exact HAcc)
            have HNB := Aside0.mk hnb
            rw [hnb] at k2 hbs
            have HSB := Aside0.mk (small_bound (n := (bldP d k j).length + nb) (by have := HBL.out k j; omega))
            clear hch hG hnb hp hcu HAcc
            obtain ⟨A5, c5, e5, hc5⟩ := Win.shape HW.out.1
            subst e5
            have FA := Aside0.mk (show Fr No wr (wr.alloc (.cells #[.int .i64 f, .int .i64 t, .slice Au nb cu] 118)) from Fr.of_No (below_alloc (Below.refl _ _) _))
            go_wp2_with (first | ((with_reducible refine gate_builtin (b := .append) (xs := #[.tmp 52, .tmp 54]) rfl ?_); at_builtin; go_must (refine wpl_append (wr.alloc (.cells #[.int .i64 f, .int .i64 t, .slice Au nb cu] 118)) w1.heap.size rfl (.tmp 52) (.tmp 54) 22 22 5 (.int .u8 0) 1 1 (.slice 5) rfl Try.underlying22 Try.underlying22 (.inl ⟨_, rfl⟩) info5 rfl (.slice A5 (bldP d k j).length c5) (bldP d k j).length (nums .u8 (bldP d k j)) (.slice Au nb cu) nb (nums .u8 b) rfl rfl (HW.out.1.below FA.out.no) (Src.of_rd (RdV.of_win (HAC.out.below FA.out.no)) (by rw [nums_length, HNB.out, Nat.mul_one]) (nums_one _ _)) (Nat.le_trans HW.out.2.size FA.out.size) HSB.out.1 HSB.out.2 ?_; intro v6 w6 g1 _ g3 _; have G1 := Aside0.mk g1; have G3 := Aside0.mk (own_step (HW.out.2.trans FA.out (fun _ _ h => h) (fun _ _ h => h)) (HW.out.1.below FA.out.no) g3); clear g1 g3)))
            go_roundw
            case rel => exact ⟨j + 1, by simp, by omega, ⟨by have q := G1.out; rw [← nums_append] at q; rw [HH.out]; exact Acc.of q, G3.out⟩⟩
            case measure => simp [intOf]; omega
          · obtain rfl : k = j := by omega
            go_wp2_with fail
            go_ret
            refine ⟨.inl ⟨by trivial, _, rfl, ?_⟩, Q1.out.trans HW.out.2 (fun _ _ h => h) (fun _ _ h => h)⟩
            have h := HW.out.1
            rw [bldP_all d (by rw [HCL.out]; exact Nat.le_refl _)] at h
            exact Win.lower h Q1.out.size
end Go.Proofs.Ytchcimkmjoegdaa.C
namespace Go.Proofs.Ytchcimkmjoegdaa.C
open Go.RowKit Go.Proofs.YtchcimkmjoegdaaW.PrintWords Go.Proofs.YtchcimkmjoegdaaW.PrintMore Go.Proofs.Ytchcimkmjoegdaa.M
set_option linter.unusedVariables false
set_option linter.unusedSimpArgs false

theorem win_apart {W : World} {b1 b2 e1 e2 s1 s2 n1 n2 : Nat} {v1 v2 : Value} {x1 x2 : List Value} (h1 : Win W b1 e1 s1 v1 n1 x1) (h2 : Win W b2 e2 s2 v2 n2 x2) (he : e1 ≠ e2) {k : Nat} (hk : At v1 k) : ¬ At v2 k := fun hv => by
  obtain ⟨_, _, c1, q1⟩ := h1.at_ hk
  exact he (h2.ne_type hv q1).symm
theorem cutN_len (B : List (List Int)) : ∀ i, (cutN B i).length ≤ i
  | 0 => Nat.le_refl _
  | i + 1 => by
    rw [cutN]
    have ih := cutN_len B i
    cases hb : B[i]? with
    | none => simp only; omega
    | some b =>
      simp only
      generalize cutN B i = C at ih
      rcases hfull : fullC C with _ | _
      · obtain ⟨P, y, rfl, _⟩ := fullC_some hfull
        rw [cutStep_more hfull]
        simp only [List.length_append, List.length_cons, List.length_nil] at ih ⊢
        omega
      · rw [cutStep_full hfull, List.length_append]
        simp only [List.length_cons, List.length_nil]
        omega
theorem cutN_small {B : List (List Int)} (hB : ∀ b ∈ B, b.length ≤ 268170) : ∀ i, ∀ c ∈ cutN B i, c.b.length ≤ 300000
  | 0 => fun x hx => nomatch hx
  | i + 1 => fun x hx => by
    rw [cutN] at hx
    have ih := cutN_small hB i
    cases hb : B[i]? with
    | none => rw [hb] at hx; exact ih x hx
    | some b =>
      have hbl := hB b (List.mem_of_getElem? hb)
      rw [hb] at hx
      simp only at hx
      generalize cutN B i = C at hx ih
      rcases hfull : fullC C with _ | _
      · obtain ⟨P, y, rfl, hy⟩ := fullC_some hfull
        rw [cutStep_more hfull] at hx
        rcases List.mem_append.1 hx with hx | hx
        · exact ih x (List.mem_append_left _ hx)
        · simp only [List.mem_cons, List.mem_nil_iff, or_false] at hx
          subst hx
          show (y.b ++ b).length ≤ 300000
          rw [List.length_append]
          omega
      · rw [cutStep_full hfull] at hx
        rcases List.mem_append.1 hx with hx | hx
        · exact ih x hx
        · simp only [List.mem_cons, List.mem_nil_iff, or_false] at hx
          subst hx
          show b.length ≤ 300000
          omega
theorem docs_small {w : World} {A : Option Addr} {n c : Nat} {L : List (Value × List (Value × Ent))} (h : DocsR w A n c L) (ho : okDs (L.map docOf) = true) : ∀ b ∈ (L.map docOf).map docB, b.length ≤ 268170 := fun b hb => by
  obtain ⟨x, hx, rfl⟩ := List.mem_map.1 hb
  obtain ⟨p, hp, rfl⟩ := List.mem_map.1 hx
  obtain ⟨A', c', _, hd⟩ := h.part p hp
  unfold okDs at ho
  rw [Bool.and_eq_true] at ho
  exact docB_len hd (List.all_eq_true.1 ho.2 _ hx)
end Go.Proofs.Ytchcimkmjoegdaa.C
namespace Go.Proofs.Ytchcimkmjoegdaa.C
open Go.RowKit Go.Proofs.YtchcimkmjoegdaaW.PrintWords Go.Proofs.YtchcimkmjoegdaaW.PrintMore Go.Proofs.Ytchcimkmjoegdaa.M
set_option linter.unusedVariables false
set_option linter.unusedSimpArgs false

set_option maxHeartbeats 1000000 in
theorem KInts_true (w : World) (A B : Option Addr) (n c d : Nat) (xs : List Int) (hx : RdV w A (nums .i64 xs)) (hy : RdV w B (nums .i64 xs)) (hl : xs.length = n) (hn : n ≤ 9223372036854775807) (hc : n ≤ c) (hd : n ≤ d) :
    Calls Try.prog 92 #[.slice A n c, .slice B n d] w fun e w' => e = .returned (.bool true) ∧ ∃ m, w' = w.drewN m := by
  have HX := Aside0.mk hx
  have HY := Aside0.mk hy
  have HL := Aside0.mk hl
  clear hx hy hl
  go_enter Try.func92, Try.ntmps92
  go_wp2_with fail
  go_loopw [5] (fun v5 wr => ∃ i m : Nat, v5 = .int .i64 i ∧ i ≤ n ∧ wr = w.drewN m) (fun v5 _ => n - (intOf v5).toNat)
  case atStart => exact ⟨0, 0, rfl, by omega, rfl⟩
  case round =>
    obtain ⟨i, m, rfl, hi, rfl⟩ := hrel
    by_cases hlt : i < n
    · obtain ⟨x, hx⟩ := get_some (xs := xs) (i := i) (by have := HL.out; omega)
      obtain ⟨a1, e1, h1⟩ := rd_at HX.out hx
      obtain ⟨a2, e2, h2⟩ := rd_at HY.out hx
      clear hx
      subst e1; subst e2
      go_wp2_with fail
      go_quiet (fail)
      go_wp2_with fail
      go_roundw
      case rel => exact ⟨i + 1, m + nq, by simp, by omega, (by first | rfl | exact World.drewN_drewN ..)⟩
      case measure => simp [intOf]; omega
    · go_wp2_with fail
      go_ret
      exact ⟨rfl, m, rfl⟩
set_option maxHeartbeats 1000000 in
theorem KInts_len (w : World) (A B : Option Addr) (n n' c d : Nat) (h : n ≠ n') (hn : n ≤ 9223372036854775807) (hn' : n' ≤ 9223372036854775807) :
    Calls Try.prog 92 #[.slice A n c, .slice B n' d] w fun e w' => e = .returned (.bool false) ∧ w' = w := by
  have hb : ((n : Int) != (n' : Int)) = true := by simp; omega
  clear h
  go_enter Try.func92, Try.ntmps92
  go_wp2_with fail
  go_ret
  exact ⟨rfl, rfl⟩
set_option maxHeartbeats 1000000 in
theorem KInts_false (w : World) (A B : Option Addr) (n c d : Nat) (xs ys : List Int) (hx : RdV w A (nums .i64 xs)) (hy : RdV w B (nums .i64 ys)) (hl : xs.length = n) (hl' : ys.length = n) (hn : n ≤ 9223372036854775807) (hc : n ≤ c) (hd : n ≤ d) (hne : xs ≠ ys) :
    Calls Try.prog 92 #[.slice A n c, .slice B n d] w fun e w' => e = .returned (.bool false) ∧ ∃ m, w' = w.drewN m := by
  have HX := Aside0.mk hx
  have HY := Aside0.mk hy
  have HL := Aside0.mk hl
  have HL' := Aside0.mk hl'
  have HNE := Aside0.mk hne
  clear hx hy hl hl' hne
  go_enter Try.func92, Try.ntmps92
  go_wp2_with fail
  go_loopw [5] (fun v5 wr => ∃ i m : Nat, v5 = .int .i64 i ∧ i ≤ n ∧ wr = w.drewN m ∧ Aside0 (xs.take i = ys.take i)) (fun v5 _ => n - (intOf v5).toNat)
  case atStart => exact ⟨0, 0, rfl, by omega, rfl, ⟨rfl⟩⟩
  case round =>
    obtain ⟨i, m, rfl, hi, rfl, HT⟩ := hrel
    by_cases hlt : i < n
    · obtain ⟨x, hx⟩ := get_some (xs := xs) (i := i) (by have := HL.out; omega)
      obtain ⟨y, hy⟩ := get_some (xs := ys) (i := i) (by have := HL'.out; omega)
      obtain ⟨a1, e1, h1⟩ := rd_at HX.out hx
      obtain ⟨a2, e2, h2⟩ := rd_at HY.out hy
      have HXX := Aside0.mk hx
      have HYY := Aside0.mk hy
      clear hx hy
      subst e1; subst e2
      by_cases hxy : x = y
      · subst hxy
        go_wp2_with fail
        go_quiet (fail)
        go_wp2_with fail
        go_roundw
        case rel => exact ⟨i + 1, m + nq, by simp, by omega, (by first | rfl | exact World.drewN_drewN ..), ⟨by rw [take_succ_of HXX.out, take_succ_of HYY.out, HT.out]⟩⟩
        case measure => simp [intOf]; omega
      · have hb : (x != y) = true := by simp [hxy]
        clear hxy
        go_wp2_with fail
        go_quiet (fail)
        go_wp2_with fail
        go_ret
        exact ⟨rfl, m + nq, (by first | rfl | exact World.drewN_drewN ..)⟩
    · exact absurd (by have := HT.out; rwa [List.take_of_length_le (by have := HL.out; omega), List.take_of_length_le (by have := HL'.out; omega)] at this) HNE.out
/-- kit.Bytes. -/
theorem KInts_any (w : World) (A B : Option Addr) (n n' c d : Nat) (xs ys : List Int) (hx : RdV w A (nums .i64 xs)) (hy : RdV w B (nums .i64 ys)) (hl : xs.length = n) (hl' : ys.length = n') (hn : n ≤ 9223372036854775807) (hn' : n' ≤ 9223372036854775807) (hc : n ≤ c) (hd : n' ≤ d) :
    Calls Try.prog 92 #[.slice A n c, .slice B n' d] w fun e w' => e = .returned (.bool (decide (xs = ys))) ∧ ∃ m, w' = w.drewN m := by
  by_cases h : n = n'
  · subst h
    by_cases hxy : xs = ys
    · subst hxy
      rw [decide_eq_true rfl]
      exact KInts_true w A B n c d xs hx hy hl hn hc hd
    · rw [decide_eq_false hxy]
      exact KInts_false w A B n c d xs ys hx hy hl hl' hn hc hd hxy
  · rw [decide_eq_false (by intro h'; subst h'; omega)]
    exact (KInts_len w A B n n' c d h hn hn').mono fun e w' ⟨h1, h2⟩ => ⟨h1, 0, h2⟩
end Go.Proofs.Ytchcimkmjoegdaa.C
namespace Go.Proofs.Ytchcimkmjoegdaa.C
open Go.RowKit Go.Proofs.YtchcimkmjoegdaaW.PrintWords Go.Proofs.YtchcimkmjoegdaaW.PrintMore Go.Proofs.Ytchcimkmjoegdaa.M
set_option linter.unusedVariables false
set_option linter.unusedSimpArgs false

theorem mapd_succ {D : List (Value × Ent)} {i : Nat} {p : Value × Ent} (h : D[i]? = some p) : (D.take (i + 1)).map Prod.snd = (D.take i).map Prod.snd ++ [p.2] := by
  rw [List.take_add_one, h]
  simp
theorem mapd_get {La Lb : List (Value × Ent)} {i : Nat} {p q : Value × Ent} (hp : La[i]? = some p) (hq : Lb[i]? = some q) (h : p.2 ≠ q.2) : La.map Prod.snd ≠ Lb.map Prod.snd := fun e => by
  have h1 : (La.map Prod.snd)[i]? = (Lb.map Prod.snd)[i]? := by rw [e]
  rw [List.getElem?_map, List.getElem?_map, hp, hq] at h1
  exact h (Option.some.inj h1)
theorem str_ne {a b : ByteArray} (h : a ≠ b) : (a.toList == b.toList) = false := by
  rw [ByteArray.toList_eq, ByteArray.toList_eq, beq_eq_false_iff_ne]
  intro e
  refine h ?_
  obtain ⟨⟨x⟩⟩ := a
  obtain ⟨⟨y⟩⟩ := b
  have e' : x = y := e
  rw [e']
set_option maxRecDepth 100000 in
set_option maxHeartbeats 2000000 in
theorem Entries_any (w : World) (A B : Option Addr) (n n' c d : Nat) (La Lb : List (Value × Ent)) (ha : DocR w A n c La) (hb : DocR w B n' d Lb) :
    Calls Try.prog 42 #[.slice A n c, .slice B n' d] w fun e w' => (∃ r, e = .returned (.bool r) ∧ (r = true ↔ La.map Prod.snd = Lb.map Prod.snd)) ∧ ∃ m, w' = w.drewN m := by
  have hn := ha.max
  have hn' := hb.max
  have HA := Aside0.mk ha
  have HB := Aside0.mk hb
  by_cases hnn : n = n'
  · subst hnn
    clear ha hb
    go_enter Try.func42, Try.ntmps42
    go_wp2_with fail
    go_loopw [5] (fun v5 wr => ∃ i : Nat, v5 = .int .i64 i ∧ i ≤ n ∧ Aside0 ((∃ m, wr = w.drewN m) ∧ (La.take i).map Prod.snd = (Lb.take i).map Prod.snd)) (fun v5 _ => n - (intOf v5).toNat)
    case atStart => exact ⟨0, rfl, by omega, ⟨⟨0, rfl⟩, rfl⟩⟩
    case round =>
      obtain ⟨i, rfl, hi, HR⟩ := hrel
      have HW := Aside0.mk (show Below w.heap.size w wr from by obtain ⟨m, rfl⟩ := HR.out.1; exact pw_below_drewN (Below.refl _ _) m)
      by_cases hlt : i < n
      · obtain ⟨⟨pv, f, t, ns⟩, hp⟩ := get_some' (xs := La) (i := i) (by have := HA.out.len; omega)
        obtain ⟨⟨qv, f', t', ns'⟩, hq⟩ := get_some' (xs := Lb) (i := i) (by have := HB.out.len; omega)
        have da := HA.out.below HW.out
        have db := HB.out.below HW.out
        obtain ⟨a1, e1, h10, h11, h12⟩ := ent_at da.hdr hp
        obtain ⟨a2, e2, h20, h21, h22⟩ := ent_at db.hdr hq
        subst e1; subst e2
        obtain ⟨A1, c1, f1, f2, f3, _, f4, f5, f6⟩ := da.part _ (List.mem_of_getElem? hp)
        obtain ⟨A2, c2, k1, k2, k3, _, k4, k5, k6⟩ := db.part _ (List.mem_of_getElem? hq)
        obtain rfl : pv = .slice A1 ns.length c1 := f1
        obtain rfl : qv = .slice A2 ns'.length c2 := k1
        simp only at h10 h11 h12 h20 h21 h22
        have HC := Aside0.mk (fun m => KInts_any (wr.drewN m) A1 A2 ns.length ns'.length c1 c2 ns ns' (f3.below (pw_below_drewN (Below.refl _ _) m)) (k3.below (pw_below_drewN (Below.refl _ _) m)) rfl rfl (by have : ns.length ≤ 17592186043904 := f4; omega) (by have : ns'.length ≤ 17592186043904 := k4; omega) f2 k2)
        have HP := Aside0.mk hp
        have HQ := Aside0.mk hq
        clear hp hq f2 f3 f4 f5 f6 k2 k3 k4 k5 k6 da db
        generalize hr : decide (ns = ns') = r at HC
        have HRR := Aside0.mk hr
        clear hr
        generalize hl1 : ns.length = l1 at *
        generalize hl2 : ns'.length = l2 at *
        clear hl1 hl2
        by_cases hf : f = f'
        · subst hf
          by_cases ht : t = t'
          · subst ht
            cases r with
            | true =>
              have HE := Aside0.mk (of_decide_eq_true HRR.out)
              go_wp2_with fail
              go_quiet ((go_at_call 92; go_must (exact Calls.quiet_of (HC.out _))))
              go_wp2_with fail
              go_roundw
              case rel => exact ⟨i + 1, by simp, by omega, ⟨(by obtain ⟨m, hm⟩ := HR.out.1; exact ⟨m + nq, by rw [hm]; exact World.drewN_drewN ..⟩), by rw [mapd_succ HP.out, mapd_succ HQ.out, HR.out.2, HE.out]⟩⟩
              case measure => simp [intOf]; omega
            | false =>
              have HE := Aside0.mk (mapd_get HP.out HQ.out (fun e => of_decide_eq_false HRR.out (by injection e)))
              go_wp2_with fail
              go_quiet ((go_at_call 92; go_must (exact Calls.quiet_of (HC.out _))))
              go_wp2_with fail
              go_ret
              exact ⟨⟨false, rfl, by simpa using HE.out⟩, (by obtain ⟨m, hm⟩ := HR.out.1; exact ⟨m + nq, by rw [hm]; exact World.drewN_drewN ..⟩)⟩
          · have HE := Aside0.mk (mapd_get HP.out HQ.out (fun e => ht (by injection e)))
            have hb1 := str_ne ht
            go_wp2_with fail
            go_quiet (fail)
            go_wp2_with fail
            go_ret
            exact ⟨⟨false, rfl, by simpa using HE.out⟩, (by obtain ⟨m, hm⟩ := HR.out.1; exact ⟨m + nq, by rw [hm]; exact World.drewN_drewN ..⟩)⟩
        · have HE := Aside0.mk (mapd_get HP.out HQ.out (fun e => hf (by injection e)))
          have hb1 := str_ne hf
          go_wp2_with fail
          go_quiet (fail)
          go_wp2_with fail
          go_ret
          exact ⟨⟨false, rfl, by simpa using HE.out⟩, (by obtain ⟨m, hm⟩ := HR.out.1; exact ⟨m + nq, by rw [hm]; exact World.drewN_drewN ..⟩)⟩
      · have HE := Aside0.mk (show La.map Prod.snd = Lb.map Prod.snd from by have h := HR.out.2; rwa [List.take_of_length_le (by have := HA.out.len; omega), List.take_of_length_le (by have := HB.out.len; omega)] at h)
        go_wp2_with fail
        go_ret
        exact ⟨⟨true, rfl, ⟨fun _ => HE.out, fun _ => rfl⟩⟩, HR.out.1⟩
  · have hbn : ((n : Int) != (n' : Int)) = true := by simp; omega
    have HE := Aside0.mk (show ¬ La.map Prod.snd = Lb.map Prod.snd from (fun e => by have := congrArg List.length e; rw [List.length_map, List.length_map, ha.len, hb.len] at this; exact hnn this))
    clear hnn ha hb
    go_enter Try.func42, Try.ntmps42
    go_wp2_with fail
    go_ret
    exact ⟨⟨false, rfl, by simpa using HE.out⟩, 0, rfl⟩
end Go.Proofs.Ytchcimkmjoegdaa.C
namespace Go.Proofs.Ytchcimkmjoegdaa.C
open Go.RowKit Go.Proofs.YtchcimkmjoegdaaW.PrintWords Go.Proofs.YtchcimkmjoegdaaW.PrintMore Go.Proofs.Ytchcimkmjoegdaa.M
set_option linter.unusedVariables false
set_option linter.unusedSimpArgs false

/-- A store is read: its chunks, its number of documents; no word on the chunks' bytes. -/
structure StoR (w : World) (g : Nat) (A : Option Addr) (k c n : Nat) (C : List (Value × Chk)) : Prop where
  at_ : w.heap[g]? = some (.cells #[.slice A k c, .int .i64 n] 121 (0, 0))
  hdr : RdV w A (C.flatMap chkCells)
  len : C.length = k
  cap : k ≤ c
  max : k ≤ 9223372036854775807
theorem StoR.below {w w' : World} {g k c n : Nat} {A : Option Addr} {C : List (Value × Chk)} (h : StoR w g A k c n C) (hb : Below w.heap.size w w') : StoR w' g A k c n C :=
  ⟨(hb.block g (blk_lt h.at_)).trans h.at_, h.hdr.below hb, h.len, h.cap, h.max⟩
theorem StoR.cells {w : World} {g k c n : Nat} {A : Option Addr} {C : List (Value × Chk)} (h : StoR w g A k c n C) : w.cell? ⟨g, 0, none⟩ = some (.slice A k c) ∧ w.cell? ⟨g, 1, none⟩ = some (.int .i64 n) := by
  have := h.at_
  simp [World.cell?, this]
theorem SLen_nil (w : World) : Calls Try.prog 37 #[.pointer none] w fun e w' => e = .returned (.int .i64 0) ∧ w' = w := by
  go_enter Try.func37, Try.ntmps37
  go_wp2_with fail
  go_ret
  exact ⟨rfl, rfl⟩
theorem SLen_any (w : World) (g k c n : Nat) (A : Option Addr) (C : List (Value × Chk)) (h : StoR w g A k c n C) : Calls Try.prog 37 #[.pointer (some ⟨g, 0, none⟩)] w fun e w' => e = .returned (.int .i64 n) ∧ w' = w := by
  obtain ⟨h0, h1⟩ := h.cells
  clear h
  go_enter Try.func37, Try.ntmps37
  go_wp2_with fail
  go_ret
  exact ⟨rfl, rfl⟩
theorem SChunks_nil (w : World) : Calls Try.prog 39 #[.pointer none] w fun e w' => e = .returned (.int .i64 0) ∧ w' = w := by
  go_enter Try.func39, Try.ntmps39
  go_wp2_with fail
  go_ret
  exact ⟨rfl, rfl⟩
theorem SChunks_any (w : World) (g k c n : Nat) (A : Option Addr) (C : List (Value × Chk)) (h : StoR w g A k c n C) : Calls Try.prog 39 #[.pointer (some ⟨g, 0, none⟩)] w fun e w' => e = .returned (.int .i64 k) ∧ w' = w := by
  obtain ⟨h0, h1⟩ := h.cells
  clear h
  go_enter Try.func39, Try.ntmps39
  go_wp2_with fail
  go_ret
  exact ⟨rfl, rfl⟩
theorem SChunk_neg (w : World) (p : Value) (i : Int) (hi : i < 0) : Calls Try.prog 36 #[p, .int .i64 i] w fun e w' => e = .returned (.tuple #[.int .i64 0, .int .i64 0]) ∧ w' = w := by
  go_enter Try.func36, Try.ntmps36
  go_wp2_with fail
  go_ret2
  exact ⟨rfl, rfl⟩
theorem SChunk_nil (w : World) (i : Int) : Calls Try.prog 36 #[.pointer none, .int .i64 i] w fun e w' => e = .returned (.tuple #[.int .i64 0, .int .i64 0]) ∧ w' = w := by
  by_cases hi : i < 0
  · exact SChunk_neg w _ i hi
  go_enter Try.func36, Try.ntmps36
  go_wp2_with (go_at_call 39; go_must (refine (SChunks_nil _).mono ?_; rintro e' _ ⟨rfl, rfl⟩))
  go_ret2
  exact ⟨rfl, rfl⟩
theorem SChunk_out (w : World) (g k c n : Nat) (A : Option Addr) (C : List (Value × Chk)) (h : StoR w g A k c n C) (i : Int) (hi : (k : Int) ≤ i) : Calls Try.prog 36 #[.pointer (some ⟨g, 0, none⟩), .int .i64 i] w fun e w' => e = .returned (.tuple #[.int .i64 0, .int .i64 0]) ∧ w' = w := by
  have H := Aside0.mk h
  have h0 : ¬ i < 0 := by omega
  clear h
  go_enter Try.func36, Try.ntmps36
  go_wp2_with (go_at_call 39; go_must (refine (SChunks_any _ g k c n A C H.out).mono ?_; rintro e' _ ⟨rfl, rfl⟩))
  go_ret2
  exact ⟨rfl, rfl⟩
theorem chk_at {w : World} {A : Option Addr} {C : List (Value × Chk)} {j : Nat} {u : Value} {f t : Nat} {b : List Int} (h : RdV w A (C.flatMap chkCells)) (hp : C[j]? = some (u, Chk.mk f t b)) : ∃ ad, A = some ad ∧ w.cell? (ad.add (j * 3)) = some (.int .i64 f) ∧ w.cell? ⟨(ad.add (j * 3)).block, (ad.add (j * 3)).off + 1, none⟩ = some (.int .i64 t) ∧ w.cell? ⟨(ad.add (j * 3)).block, (ad.add (j * 3)).off + 2, none⟩ = some u := by
  have h0 := flat3_get (k := 0) chk3 hp (by decide)
  have h1 := flat3_get (k := 1) chk3 hp (by decide)
  have h2 := flat3_get (k := 2) chk3 hp (by decide)
  obtain ⟨ad, e, hc⟩ := h (by intro h0'; rw [h0'] at h0; simp [chkCells] at h0)
  refine ⟨ad, e, hc _ _ h0, ?_, ?_⟩
  · rw [← add_off _ _ _ (by decide)]
    exact hc _ _ h1
  · rw [← add_off _ _ _ (by decide)]
    exact hc _ _ h2
theorem SChunk_in (w : World) (g k c n : Nat) (A : Option Addr) (C : List (Value × Chk)) (h : StoR w g A k c n C) (i : Nat) (u : Value) (f t : Nat) (b : List Int) (hp : C[i]? = some (u, Chk.mk f t b)) : Calls Try.prog 36 #[.pointer (some ⟨g, 0, none⟩), .int .i64 i] w fun e w' => e = .returned (.tuple #[.int .i64 f, .int .i64 t]) ∧ ∃ m, w' = w.drewN m := by
  have H := Aside0.mk h
  obtain ⟨ad, eA, c0, c1, _⟩ := chk_at h.hdr hp
  subst eA
  obtain ⟨h0, h1⟩ := h.cells
  have hik : i < k := by have := (List.getElem?_eq_some_iff.1 hp).1; rw [← h.len]; exact this
  have hc := h.cap
  clear h hp
  go_enter Try.func36, Try.ntmps36
  go_wp2_with (go_at_call 39; go_must (refine (SChunks_any _ g k c n _ C H.out).mono ?_; rintro e' _ ⟨rfl, rfl⟩))
  go_quiet (fail)
  go_wp2_with fail
  go_ret2
  exact ⟨rfl, nq, rfl⟩
end Go.Proofs.Ytchcimkmjoegdaa.C
namespace Go.Proofs.Ytchcimkmjoegdaa.C
open Go.RowKit Go.Proofs.YtchcimkmjoegdaaW.PrintWords Go.Proofs.YtchcimkmjoegdaaW.PrintMore Go.Proofs.Ytchcimkmjoegdaa.M
set_option linter.unusedVariables false
set_option linter.unusedSimpArgs false

/-- What good panics with. -/
def corruptP : PanicEntry := { v := .iface 129 (.agg #[]), recovered := false }
theorem good_ok (w : World) (base g i : Nat) (xs : List Int) (h : Rdr w base g xs i 0) : Calls Try.prog 86 #[.pointer (some ⟨g, 0, none⟩), .bool true] w fun e w' => e = .returned (.tuple #[]) ∧ w' = w := by
  have H := Aside0.mk h
  clear h
  go_enter Try.func86, Try.ntmps86
  go_wp2_with (go_at_call 22; go_must (refine (Err_any _ base g i xs 0 H.out).mono ?_; rintro e' _ ⟨rfl, rfl⟩))
  go_end0
  exact ⟨rfl, rfl⟩
theorem good_err (w : World) (base g i : Nat) (xs : List Int) (e : Int) (he : e ≠ 0) (b : Bool) (h : Rdr w base g xs i e) : Calls Try.prog 86 #[.pointer (some ⟨g, 0, none⟩), .bool b] w fun e w' => e = .panicked [corruptP] ∧ w' = w := by
  have H := Aside0.mk h
  have hb : (e != 0) = true := by simp [he]
  clear h he
  go_enter Try.func86, Try.ntmps86
  go_wp2_with (go_at_call 22; go_must (refine (Err_any _ base g i xs e H.out).mono ?_; rintro e' _ ⟨rfl, rfl⟩))
  exact ⟨rfl, rfl, rfl⟩
theorem good_not (w : World) (base g i : Nat) (xs : List Int) (h : Rdr w base g xs i 0) : Calls Try.prog 86 #[.pointer (some ⟨g, 0, none⟩), .bool false] w fun e w' => e = .panicked [corruptP] ∧ w' = w := by
  have H := Aside0.mk h
  clear h
  go_enter Try.func86, Try.ntmps86
  go_wp2_with (go_at_call 22; go_must (refine (Err_any _ base g i xs 0 H.out).mono ?_; rintro e' _ ⟨rfl, rfl⟩))
  exact ⟨rfl, rfl, rfl⟩
/-- good: goes on just if there is no error and the fact holds. -/
theorem good_any (w : World) (base g i : Nat) (xs : List Int) (e : Int) (b : Bool) (h : Rdr w base g xs i e) : Calls Try.prog 86 #[.pointer (some ⟨g, 0, none⟩), .bool b] w fun e' w' => e' = (if e = 0 ∧ b = true then .returned (.tuple #[]) else .panicked [corruptP]) ∧ w' = w := by
  by_cases he : e = 0
  · subst he
    cases b with
    | true => rw [if_pos ⟨rfl, rfl⟩]; exact good_ok w base g i xs h
    | false => rw [if_neg (by simp)]; exact good_not w base g i xs h
  · rw [if_neg (fun hh => he hh.1)]
    exact good_err w base g i xs e he b h
end Go.Proofs.Ytchcimkmjoegdaa.C
namespace Go.Proofs.Ytchcimkmjoegdaa.C
open Go.RowKit Go.Proofs.YtchcimkmjoegdaaW.PrintWords Go.Proofs.YtchcimkmjoegdaaW.PrintMore Go.Proofs.Ytchcimkmjoegdaa.M
set_option linter.unusedVariables false
set_option linter.unusedSimpArgs false

theorem docs_any (w : World) (f t : Int) (v : Value) : Calls Try.prog 84 #[.agg #[.int .i64 f, .int .i64 t, v]] w fun e w' => e = .returned (.func (.func 112) #[] #[.pointer (some ⟨w.heap.size, 0, none⟩)]) ∧ w' = w.alloc (.cells #[.int .i64 f, .int .i64 t, v] 118) := by
  go_enter Try.func84, Try.ntmps84
  go_wp2_with fail
  go_ret
  exact ⟨rfl, rfl⟩
end Go.Proofs.Ytchcimkmjoegdaa.C
namespace Go.Proofs.Ytchcimkmjoegdaa.C
open Go.RowKit Go.Proofs.YtchcimkmjoegdaaW.PrintWords Go.Proofs.YtchcimkmjoegdaaW.PrintMore Go.Proofs.Ytchcimkmjoegdaa.M
set_option linter.unusedVariables false
set_option linter.unusedSimpArgs false

/-- n numbers read at p = (place, error). -/
def numsR (xs : List Int) : Nat → Nat × Int → List Int × Nat × Int
  | 0, p => ([], p)
  | n + 1, p => let r := rU xs p.1 p.2; let s := numsR xs n r.2; (unzig r.1 :: s.1, s.2)
/-- An entry read. -/
def entR (xs : List Int) (p : Nat × Int) : Ent × Nat × Int :=
  let a := rT xs p.1 p.2 24; let b := rT xs a.2.1 a.2.2 4096; let c := rS xs b.2.1 b.2.2 4; let d := numsR xs c.1 c.2; (⟨strOfNums a.1, strOfNums b.1, d.1⟩, d.2)
/-- n entries read, none at the first error. -/
def entsO (xs : List Int) : Nat → Nat → Option (List Ent × Nat)
  | 0, i => some ([], i)
  | n + 1, i => let r := entR xs (i, 0); if r.2.2 = 0 then (entsO xs n r.2.1).map fun q => (r.1 :: q.1, q.2) else none
def docO (xs : List Int) (i : Nat) : Option (List Ent × Nat) := let r := rS xs i 0 64; if r.2.2 = 0 then entsO xs r.1 r.2.1 else none
def docsO (xs : List Int) : Nat → Nat → Option (List (List Ent) × Nat)
  | 0, i => some ([], i)
  | n + 1, i => (docO xs i).bind fun r => (docsO xs n r.2).map fun q => (r.1 :: q.1, q.2)
theorem numsR_full (ns : List Int) (h : I64 ns) : ∀ (pre post : List Int), numsR (pre ++ numB ns ++ post) ns.length (pre.length, 0) = (ns, pre.length + (numB ns).length, 0) := by
  induction ns with
  | nil => intro pre post; simp [numsR, numB]
  | cons q ns ih =>
    intro pre post
    have hq := h q (by simp)
    have e : pre ++ numB (q :: ns) ++ post = pre ++ uenc (Lib.zigzag q) ++ (numB ns ++ post) := by simp [numB]
    have h1 := rU_full pre (numB ns ++ post) (Lib.zigzag q) (zig_64 q hq.1 hq.2)
    have h2 := ih (fun x hx => h x (List.mem_cons_of_mem _ hx)) (pre ++ uenc (Lib.zigzag q)) post
    rw [List.length_cons, numsR, e, h1]
    have e2 : pre ++ uenc (Lib.zigzag q) ++ (numB ns ++ post) = pre ++ uenc (Lib.zigzag q) ++ numB ns ++ post := by simp only [List.append_assoc]
    rw [List.length_append] at h2
    simp only
    rw [e2, h2, unzig_zig]
    simp [numB, Nat.add_assoc]
theorem entR_full (e : Ent) (ho : okE e = true) (h : I64 e.ns) (pre post : List Int) : entR (pre ++ entB e ++ post) (pre.length, 0) = (e, pre.length + (entB e).length, 0) := by
  obtain ⟨f, t, ns⟩ := e
  obtain ⟨h1, h2, h3⟩ := okE_iff.1 ho
  replace h1 : f.size ≤ 24 := h1
  replace h2 : t.size ≤ 4096 := h2
  replace h3 : ns.length ≤ 4 := h3
  have e1 : pre ++ entB ⟨f, t, ns⟩ ++ post = pre ++ (uenc f.size ++ bytesOf f) ++ (txtB t ++ uenc ns.length ++ numB ns ++ post) := by simp [entB, txtB]
  have e2 : pre ++ entB ⟨f, t, ns⟩ ++ post = (pre ++ (uenc f.size ++ bytesOf f)) ++ (uenc t.size ++ bytesOf t) ++ (uenc ns.length ++ numB ns ++ post) := by simp [entB, txtB]
  have e3 : pre ++ entB ⟨f, t, ns⟩ ++ post = (pre ++ (uenc f.size ++ bytesOf f) ++ (uenc t.size ++ bytesOf t)) ++ uenc ns.length ++ (numB ns ++ post) := by simp [entB, txtB]
  have e4 : pre ++ entB ⟨f, t, ns⟩ ++ post = (pre ++ (uenc f.size ++ bytesOf f) ++ (uenc t.size ++ bytesOf t) ++ uenc ns.length) ++ numB ns ++ post := by simp [entB, txtB]
  have r1 := rT_full pre (txtB t ++ uenc ns.length ++ numB ns ++ post) f 24 (by rw [M64_eq]; omega) (by omega)
  have r2 := rT_full (pre ++ (uenc f.size ++ bytesOf f)) (uenc ns.length ++ numB ns ++ post) t 4096 (by rw [M64_eq]; omega) (by omega)
  have r3 := rS_full (pre ++ (uenc f.size ++ bytesOf f) ++ (uenc t.size ++ bytesOf t)) (numB ns ++ post) ns.length 4 (by rw [M64_eq]; omega) (by omega)
  have r4 := numsR_full ns h (pre ++ (uenc f.size ++ bytesOf f) ++ (uenc t.size ++ bytesOf t) ++ uenc ns.length) post
  rw [← e1] at r1
  rw [← e2] at r2
  rw [← e3] at r3
  rw [← e4] at r4
  generalize pre ++ entB ⟨f, t, ns⟩ ++ post = xs at r1 r2 r3 r4 ⊢
  simp only [List.length_append, Nat.add_assoc] at r1 r2 r3 r4
  unfold entR
  simp only [r1, r2, r3, r4, str_back]
  simp [entB, txtB, Nat.add_assoc]
theorem entsO_full : ∀ (d : List Ent), (∀ e ∈ d, okE e = true ∧ I64 e.ns) → ∀ (pre post : List Int), entsO (pre ++ d.flatMap entB ++ post) d.length pre.length = some (d, pre.length + (d.flatMap entB).length)
  | [], _, pre, post => by simp [entsO]
  | e :: d, h, pre, post => by
    have h1 := entR_full e (h e (by simp)).1 (h e (by simp)).2 pre (d.flatMap entB ++ post)
    have h2 := entsO_full d (fun x hx => h x (List.mem_cons_of_mem _ hx)) (pre ++ entB e) post
    have e1 : pre ++ (e :: d).flatMap entB ++ post = pre ++ entB e ++ (d.flatMap entB ++ post) := by simp
    have e2 : pre ++ (e :: d).flatMap entB ++ post = pre ++ entB e ++ d.flatMap entB ++ post := by simp
    rw [← e1] at h1
    rw [← e2, List.length_append] at h2
    rw [List.length_cons, entsO, h1]
    simp only [if_true]
    rw [h2]
    simp [Nat.add_assoc]
theorem docO_full (d : List Ent) (ho : okD d = true) (h : ∀ e ∈ d, I64 e.ns) (pre post : List Int) : docO (pre ++ docB d ++ post) pre.length = some (d, pre.length + (docB d).length) := by
  unfold okD at ho
  rw [Bool.and_eq_true, decide_eq_true_eq, List.all_eq_true] at ho
  have h1 := rS_full pre (d.flatMap entB ++ post) d.length 64 (by rw [M64_eq]; omega) (by omega)
  have h2 := entsO_full d (fun e he => ⟨ho.2 e he, h e he⟩) (pre ++ uenc d.length) post
  have e1 : pre ++ docB d ++ post = pre ++ uenc d.length ++ (d.flatMap entB ++ post) := by simp [docB]
  have e2 : pre ++ docB d ++ post = pre ++ uenc d.length ++ d.flatMap entB ++ post := by simp [docB]
  rw [← e1] at h1
  rw [← e2, List.length_append] at h2
  generalize pre ++ docB d ++ post = xs at h1 h2 ⊢
  unfold docO
  simp only [h1, if_true]
  rw [h2]
  simp [docB, Nat.add_assoc]
theorem docsO_full : ∀ (D : List (List Ent)), (∀ d ∈ D, okD d = true ∧ ∀ e ∈ d, I64 e.ns) → ∀ (pre post : List Int), docsO (pre ++ D.flatMap docB ++ post) D.length pre.length = some (D, pre.length + (D.flatMap docB).length)
  | [], _, pre, post => by simp [docsO]
  | d :: D, h, pre, post => by
    have h1 := docO_full d (h d (by simp)).1 (h d (by simp)).2 pre (D.flatMap docB ++ post)
    have h2 := docsO_full D (fun x hx => h x (List.mem_cons_of_mem _ hx)) (pre ++ docB d) post
    have e1 : pre ++ (d :: D).flatMap docB ++ post = pre ++ docB d ++ (D.flatMap docB ++ post) := by simp
    have e2 : pre ++ (d :: D).flatMap docB ++ post = pre ++ docB d ++ D.flatMap docB ++ post := by simp
    rw [← e1] at h1
    rw [← e2, List.length_append] at h2
    rw [List.length_cons, docsO, h1]
    simp only [Option.bind_some]
    rw [h2]
    simp [Nat.add_assoc]
end Go.Proofs.Ytchcimkmjoegdaa.C
namespace Go.Proofs.Ytchcimkmjoegdaa.C
open Go.RowKit Go.Proofs.YtchcimkmjoegdaaW.PrintWords Go.Proofs.YtchcimkmjoegdaaW.PrintMore Go.Proofs.Ytchcimkmjoegdaa.M
set_option linter.unusedVariables false
set_option linter.unusedSimpArgs false

/-- From a to b, one chunk behind the other, none empty. -/
def Lk (a : Nat) : List Chk → Nat → Prop
  | [], b => a = b
  | c :: C, b => c.f = a ∧ c.f < c.t ∧ Lk c.t C b
theorem lk_snoc {x : Chk} : ∀ {P : List Chk} {a b : Nat}, Lk a (P ++ [x]) b ↔ Lk a P x.f ∧ x.f < x.t ∧ x.t = b
  | [], a, b => by
    show (x.f = a ∧ x.f < x.t ∧ x.t = b) ↔ (a = x.f ∧ x.f < x.t ∧ x.t = b)
    exact ⟨fun ⟨h1, h2⟩ => ⟨h1.symm, h2⟩, fun ⟨h1, h2⟩ => ⟨h1.symm, h2⟩⟩
  | c :: P, a, b => by
    show (c.f = a ∧ c.f < c.t ∧ Lk c.t (P ++ [x]) b) ↔ ((c.f = a ∧ c.f < c.t ∧ Lk c.t P x.f) ∧ x.f < x.t ∧ x.t = b)
    rw [lk_snoc]
    exact ⟨fun ⟨h1, h2, h3, h4⟩ => ⟨⟨h1, h2, h3⟩, h4⟩, fun ⟨⟨h1, h2, h3⟩, h4⟩ => ⟨h1, h2, h3, h4⟩⟩
/-- A chunk's bytes are the forms of its documents. -/
def Cut1 (B : List (List Int)) (c : Chk) : Prop := c.b = ((B.take c.t).drop c.f).flatten
theorem cutN_row (B : List (List Int)) : ∀ i, i ≤ B.length → Lk 0 (cutN B i) i ∧ ∀ c ∈ cutN B i, Cut1 B c
  | 0, _ => ⟨rfl, fun c hc => nomatch hc⟩
  | i + 1, hi => by
    obtain ⟨h1, h2⟩ := cutN_row B i (by omega)
    obtain ⟨b, hb⟩ := get_some' (xs := B) (i := i) (by omega)
    rw [cutN_succ hb]
    have ht : B.take (i + 1) = B.take i ++ [b] := by rw [List.take_add_one, hb]; rfl
    generalize cutN B i = C at h1 h2
    rcases hfull : fullC C with _ | _
    · obtain ⟨P, y, rfl, _⟩ := fullC_some hfull
      rw [cutStep_more hfull]
      obtain ⟨k1, k2, k3⟩ := lk_snoc.1 h1
      refine ⟨lk_snoc.2 ⟨k1, by show y.f < i + 1; omega, rfl⟩, fun c hc => ?_⟩
      rcases List.mem_append.1 hc with hc | hc
      · exact h2 c (List.mem_append_left _ hc)
      · simp only [List.mem_cons, List.mem_nil_iff, or_false] at hc
        subst hc
        have hy : y.b = ((B.take y.t).drop y.f).flatten := h2 y (by simp)
        show y.b ++ b = ((B.take (i + 1)).drop y.f).flatten
        rw [hy, k3, ht, List.drop_append_of_le_length (by rw [List.length_take]; omega), List.flatten_append]
        simp
    · rw [cutStep_full hfull]
      refine ⟨lk_snoc.2 ⟨h1, by show i < i + 1; omega, rfl⟩, fun c hc => ?_⟩
      rcases List.mem_append.1 hc with hc | hc
      · exact h2 c hc
      · simp only [List.mem_cons, List.mem_nil_iff, or_false] at hc
        subst hc
        show b = ((B.take (i + 1)).drop i).flatten
        rw [ht, List.drop_append_of_le_length (by rw [List.length_take]; omega)]
        have : (B.take i).drop i = [] := List.drop_eq_nil_of_le (by rw [List.length_take]; omega)
        rw [this]
        simp
theorem cutsF_row (d : List (List Ent)) : Lk 0 (cutsF d) d.length ∧ ∀ c ∈ cutsF d, c.b = ((d.take c.t).drop c.f).flatMap docB := by
  obtain ⟨h1, h2⟩ := cutN_row (d.map docB) d.length (by rw [List.length_map]; exact Nat.le_refl _)
  refine ⟨h1, fun c hc => ?_⟩
  have h := h2 c hc
  unfold Cut1 at h
  rw [h, ← List.map_take, ← List.map_drop, List.flatMap_def]
/-- A chunk is read again: its documents, and nothing behind them. -/
theorem chunk_back {d : List (List Ent)} (ho : okDs d = true) (h : ∀ x ∈ d, ∀ e ∈ x, I64 e.ns) {c : Chk} (hc : c ∈ cutsF d) : docsO c.b (c.t - c.f) 0 = some ((d.take c.t).drop c.f, c.b.length) := by
  have hft := cutsF_ft hc
  have hb := (cutsF_row d).2 c hc
  unfold okDs at ho
  rw [Bool.and_eq_true, List.all_eq_true] at ho
  have h1 := docsO_full ((d.take c.t).drop c.f) (fun x hx => by
    have hx' : x ∈ d := List.mem_of_mem_take (List.mem_of_mem_drop hx)
    exact ⟨ho.2 x hx', h x hx'⟩) [] []
  rw [List.nil_append, List.append_nil, ← hb, List.length_drop, List.length_take, Nat.min_eq_left hft.2] at h1
  simpa using h1
end Go.Proofs.Ytchcimkmjoegdaa.C
namespace Go.Proofs.Ytchcimkmjoegdaa.C
open Go.RowKit Go.Proofs.YtchcimkmjoegdaaW.PrintWords Go.Proofs.YtchcimkmjoegdaaW.PrintMore Go.Proofs.Ytchcimkmjoegdaa.M
set_option linter.unusedVariables false
set_option linter.unusedSimpArgs false

/-- k heads to go, from document a on, read at place i: each head's first document, the one behind its last, its size. -/
def headsO (xs : List Int) (n : Nat) : Nat → Nat → Nat → Option (List (Nat × Nat × Nat) × Nat × Nat)
  | 0, a, i => some ([], a, i)
  | k + 1, a, i => let r := rS xs i 0 16384; let s := rS xs r.2.1 r.2.2 xs.length; if s.2.2 = 0 ∧ a < a + r.1 ∧ a + r.1 ≤ n then (headsO xs n k (a + r.1) s.2.1).map fun q => ((a, a + r.1, s.1) :: q.1, q.2) else none
/-- A whole chunk's documents. -/
def chunkO (b : List Int) (n : Nat) : Option (List (List Ent)) := (docsO b n 0).bind fun q => if q.2 = b.length then some q.1 else none
def bodiesO (xs : List Int) : List (Nat × Nat × Nat) → Nat → Option (List Chk × List (List Ent) × Nat)
  | [], i => some ([], [], i)
  | h :: H, i => let r := rB xs i 0 (h.2.2 : Nat); if r.2.2 = 0 then (chunkO r.1 (h.2.1 - h.1)).bind fun D => (bodiesO xs H r.2.1).map fun q => (⟨h.1, h.2.1, r.1⟩ :: q.1, D ++ q.2.1, q.2.2) else none
/-- What Open makes of bytes. -/
def storeF (xs : List Int) : Option (List Chk × List (List Ent)) :=
  let n := rS xs 0 0 16384; let m := rS xs n.2.1 n.2.2 (n.1 : Nat)
  if m.2.2 = 0 then (headsO xs n.1 m.1 0 m.2.1).bind fun q => if q.2.1 = n.1 then (bodiesO xs q.1 q.2.2).bind fun r => if r.2.2 = xs.length ∧ okDs r.2.1 = true ∧ buildB r.2.1 = xs then some (r.1, r.2.1) else none else none else none
def Fine (d : List (List Ent)) : Prop := okDs d = true ∧ ∀ x ∈ d, ∀ e ∈ x, I64 e.ns
def hdC (c : Chk) : Nat × Nat × Nat := (c.f, c.t, c.b.length)
theorem headsO_full (xs : List Int) (n : Nat) (hn : n ≤ 16384) : ∀ (C : List Chk) (a b : Nat) (pre post : List Int), xs = pre ++ C.flatMap chkH ++ post → Lk a C b → b ≤ n → (∀ c ∈ C, c.b.length ≤ xs.length ∧ c.b.length < M64) →
    headsO xs n C.length a pre.length = some (C.map hdC, b, pre.length + (C.flatMap chkH).length)
  | [], a, b, pre, post, _, h, _, _ => by
    have h' : a = b := h
    subst h'
    rfl
  | c :: C, a, b, pre, post, hx, h, hb, hs => by
    obtain ⟨h1, h2, h3⟩ := h
    have hle : ∀ {C : List Chk} {a b : Nat}, Lk a C b → a ≤ b := by
      intro C
      induction C with
      | nil => intro a b h; exact Nat.le_of_eq h
      | cons x C ih => intro a b h; obtain ⟨k1, k2, k3⟩ := h; have := ih k3; omega
    have hct := hle h3
    obtain ⟨s, hs'⟩ : ∃ s, c.t = a + s := ⟨c.t - a, by omega⟩
    have hu : c.t - c.f = s := by omega
    have r1 := rS_full pre (uenc c.b.length ++ (C.flatMap chkH ++ post)) s 16384 (by rw [M64_eq]; omega) (by omega)
    have r2 := rS_full (pre ++ uenc s) (C.flatMap chkH ++ post) c.b.length (xs.length : Nat) (hs c (by simp)).2 (by have := (hs c (by simp)).1; omega)
    have e1 : xs = pre ++ uenc s ++ (uenc c.b.length ++ (C.flatMap chkH ++ post)) := by rw [hx, List.flatMap_cons]; unfold chkH; rw [hu]; simp only [List.append_assoc]
    have e2 : xs = pre ++ uenc s ++ uenc c.b.length ++ (C.flatMap chkH ++ post) := by rw [e1]; simp only [List.append_assoc]
    have e3 : xs = (pre ++ uenc s ++ uenc c.b.length) ++ C.flatMap chkH ++ post := by rw [e1]; simp only [List.append_assoc]
    have ih := headsO_full xs n hn C c.t b _ post e3 h3 hb (fun x hx => hs x (List.mem_cons_of_mem _ hx))
    rw [← e1] at r1
    rw [← e2] at r2
    simp only [List.length_append] at r2 ih
    rw [List.length_cons, headsO]
    simp only [r1, r2]
    rw [if_pos ⟨trivial, by omega, by omega⟩, ← hs', ih, List.flatMap_cons]
    unfold chkH
    rw [hu]
    simp [hdC, h1, Nat.add_assoc]
theorem bodiesO_full (xs : List Int) (dd : Chk → List (List Ent)) : ∀ (C : List Chk) (pre post : List Int), xs = pre ++ C.flatMap Chk.b ++ post → (∀ c ∈ C, chunkO c.b (c.t - c.f) = some (dd c)) →
    bodiesO xs (C.map hdC) pre.length = some (C, C.flatMap dd, pre.length + (C.flatMap Chk.b).length)
  | [], pre, post, _, _ => rfl
  | c :: C, pre, post, hx, h => by
    have e1 : xs = pre ++ c.b ++ (C.flatMap Chk.b ++ post) := by rw [hx, List.flatMap_cons]; simp only [List.append_assoc]
    have e2 : xs = (pre ++ c.b) ++ C.flatMap Chk.b ++ post := by rw [e1]; simp only [List.append_assoc]
    have r1 := rB_full pre (C.flatMap Chk.b ++ post) c.b
    have ih := bodiesO_full xs dd C _ post e2 (fun x hx => h x (List.mem_cons_of_mem _ hx))
    rw [← e1] at r1
    rw [List.length_append] at ih
    rw [List.map_cons, bodiesO]
    show (let r := rB xs pre.length 0 (c.b.length : Nat); _) = _
    simp only [r1, if_true, hdC, h c (by simp), Option.bind_some]
    rw [ih]
    simp [Nat.add_assoc]
theorem row_flat {d : List (List Ent)} : ∀ {C : List Chk} {a b : Nat}, Lk a C b → b ≤ d.length → C.flatMap (fun c => (d.take c.t).drop c.f) = (d.take b).drop a ∧ a ≤ b
  | [], a, b, h, hb => by
    have h' : a = b := h
    subst h'
    exact ⟨(List.drop_eq_nil_of_le (by rw [List.length_take]; omega)).symm, Nat.le_refl _⟩
  | c :: C, a, b, h, hb => by
    obtain ⟨h1, h2, h3⟩ := h
    obtain ⟨h4, h5⟩ := row_flat h3 hb
    refine ⟨?_, by omega⟩
    rw [List.flatMap_cons, h4, h1]
    have e : d.take c.t = (d.take b).take c.t := by rw [List.take_take, Nat.min_eq_left h5]
    rw [e]
    generalize d.take b = l
    have hac : a ≤ c.t := by omega
    have e2 : l.drop a = ((l.take c.t) ++ l.drop c.t).drop a := by rw [List.take_append_drop]
    rw [e2]
    rcases Nat.lt_or_ge a (l.take c.t).length with hlt | hge
    · rw [List.drop_append_of_le_length (by omega)]
    · rw [List.drop_eq_nil_of_le hge, List.drop_append]
      rw [List.drop_eq_nil_of_le hge, List.nil_append, List.nil_append]
      rw [List.length_take] at hge ⊢
      rcases Nat.lt_or_ge c.t l.length with h6 | h6
      · rw [Nat.min_eq_left (by omega)] at hge ⊢
        have : a - c.t = 0 := by omega
        rw [this]
        rfl
      · rw [List.drop_eq_nil_of_le h6]
        simp
theorem lk_len : ∀ {C : List Chk} {a b : Nat}, Lk a C b → C.length + a ≤ b
  | [], a, b, h => by have h' : a = b := h; simp [h']
  | c :: C, a, b, h => by
    obtain ⟨h1, h2, h3⟩ := h
    have := lk_len h3
    rw [List.length_cons]
    omega
/-- A store's own form is read again. -/
theorem storeF_build {d : List (List Ent)} (h : Fine d) (hs : ∀ c ∈ cutsF d, c.b.length ≤ 300000) : storeF (buildB d) = some (cutsF d, d) := by
  have hn : d.length ≤ 16384 := by
    have h := h.1
    unfold okDs at h
    rw [Bool.and_eq_true, decide_eq_true_eq] at h
    exact h.1
  have hrow := (cutsF_row d).1
  have hlen := lk_len hrow
  have hpart : ∀ c ∈ cutsF d, c.b.length ≤ (buildB d).length := fun c hc => by
    have h1 : c.b.length ≤ ((cutsF d).flatMap Chk.b).length := by
      have := mem_len_le (S := (cutsF d).map Chk.b) (s := c.b) (List.mem_map.2 ⟨c, hc, rfl⟩)
      rwa [← List.flatMap_def] at this
    unfold buildB
    simp only [List.length_append]
    omega
  have hch := fun c hc => chunk_back h.1 h.2 (c := c) hc
  obtain ⟨xs, hxs⟩ : ∃ xs, buildB d = xs := ⟨_, rfl⟩
  have e0 : xs = uenc d.length ++ uenc (cutsF d).length ++ (cutsF d).flatMap chkH ++ (cutsF d).flatMap Chk.b := hxs.symm
  have e1 : xs = [] ++ uenc d.length ++ (uenc (cutsF d).length ++ (cutsF d).flatMap chkH ++ (cutsF d).flatMap Chk.b) := by rw [e0]; simp only [List.append_assoc, List.nil_append]
  have e2 : xs = uenc d.length ++ uenc (cutsF d).length ++ ((cutsF d).flatMap chkH ++ (cutsF d).flatMap Chk.b) := by rw [e0]; simp only [List.append_assoc]
  have e3 : xs = (uenc d.length ++ uenc (cutsF d).length ++ (cutsF d).flatMap chkH) ++ (cutsF d).flatMap Chk.b ++ [] := by rw [e0, List.append_nil]
  have r1 := rS_full [] (uenc (cutsF d).length ++ (cutsF d).flatMap chkH ++ (cutsF d).flatMap Chk.b) d.length 16384 (by rw [M64_eq]; omega) (by omega)
  have r2 := rS_full (uenc d.length) ((cutsF d).flatMap chkH ++ (cutsF d).flatMap Chk.b) (cutsF d).length (d.length : Nat) (by rw [M64_eq]; omega) (by omega)
  have r3 := headsO_full xs d.length hn (cutsF d) 0 d.length _ _ e0 hrow (Nat.le_refl _) (fun c hc => ⟨by rw [← hxs]; exact hpart c hc, by have := hs c hc; rw [M64_eq]; omega⟩)
  have r4 := bodiesO_full xs (fun c => (d.take c.t).drop c.f) (cutsF d) _ _ e3 (fun c hc => by
    unfold chunkO
    rw [hch c hc]
    simp)
  rw [← e1] at r1
  rw [← e2] at r2
  simp only [List.length_nil, Nat.zero_add] at r1
  simp only [List.length_append] at r3 r4
  have hl : xs.length = (uenc d.length).length + (uenc (cutsF d).length).length + ((cutsF d).flatMap chkH).length + ((cutsF d).flatMap Chk.b).length := by rw [e0]; simp only [List.length_append]
  have hf : (cutsF d).flatMap (fun c => (d.take c.t).drop c.f) = d := by rw [(row_flat hrow (Nat.le_refl _)).1, List.take_length, List.drop_zero]
  rw [hxs]
  unfold storeF
  simp only [r1, r2, if_true, r3, Option.bind_some, r4, hf]
  rw [if_pos ⟨hl.symm, h.1, hxs⟩]
theorem numsR_len (xs : List Int) : ∀ (n : Nat) (p : Nat × Int), (numsR xs n p).1.length = n
  | 0, p => rfl
  | n + 1, p => by
    rw [numsR]
    simp only [List.length_cons]
    rw [numsR_len xs n]
theorem numsR_64 (xs : List Int) : ∀ (n : Nat) (p : Nat × Int), I64 (numsR xs n p).1
  | 0, p => fun q hq => nomatch hq
  | n + 1, p => fun q hq => by
    rw [numsR] at hq
    rcases List.mem_cons.1 hq with rfl | hq
    · exact unzig_range _ (rU_64 xs p.1 p.2)
    · exact numsR_64 xs n _ q hq
end Go.Proofs.Ytchcimkmjoegdaa.C
