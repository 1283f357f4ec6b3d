/- stored.cut (93). Conditions: as the theorem states. | stored.Build (44). Conditions: as the theorem states. | The reference's form (108). Conditions: as the theorem states. | The reference's May (69). Conditions: as the theorem states. (Several texts of mine laid into one by prune.py.) -/
import Derived.Test.YtchcimkmjoegdaaStB4
namespace Go.Proofs.Ytchcimkmjoegdaa.C
open Go.RowKit Go.Proofs.YtchcimkmjoegdaaW.PrintWords Go.Proofs.YtchcimkmjoegdaaW.PrintMore Go.Proofs.Ytchcimkmjoegdaa.M
set_option linter.unusedVariables false
set_option linter.unusedSimpArgs false

def docOf (p : Value × List (Value × Ent)) : List Ent := p.2.map Prod.snd
/-- Documents are read. -/
structure DocsR (w : World) (A : Option Addr) (n c : Nat) (L : List (Value × List (Value × Ent))) : Prop where
  hdr : RdV w A (L.map Prod.fst)
  len : L.length = n
  cap : n ≤ c
  max : n ≤ 9223372036854775807
  part : ∀ p ∈ L, ∃ A' c', p.1 = .slice A' p.2.length c' ∧ DocR w A' p.2.length c' p.2
theorem DocsR.below {w w' : World} {A : Option Addr} {n c : Nat} {L : List (Value × List (Value × Ent))} (h : DocsR w A n c L) (hb : Below w.heap.size w w') : DocsR w' A n c L :=
  ⟨h.hdr.below hb, h.len, h.cap, h.max, fun p hp => by obtain ⟨a, b, h1, h2⟩ := h.part p hp; exact ⟨a, b, h1, h2.below hb⟩⟩
/-- The documents may be stored. -/
def okDs (d : List (List Ent)) : Bool := decide (d.length ≤ 16384) && d.all okD
theorem docB_len {w : World} {A : Option Addr} {n c : Nat} {D : List (Value × Ent)} (h : DocR w A n c D) (ho : okD (D.map Prod.snd) = true) : (docB (D.map Prod.snd)).length ≤ 268170 := by
  unfold okD at ho
  rw [Bool.and_eq_true, decide_eq_true_eq, List.all_eq_true] at ho
  obtain ⟨h1, h2⟩ := ho
  unfold docB
  rw [List.length_append]
  have a := uenc_10 (D.map Prod.snd).length (by omega)
  have b := flat_len entB 4190 (D.map Prod.snd) (fun e he => by
    obtain ⟨p, hp, rfl⟩ := List.mem_map.1 he
    obtain ⟨_, _, _, _, _, h64, _⟩ := h.part p hp
    exact entB_len (h2 _ he) h64)
  omega
theorem info118 : (Try.prog.info? 118).map (fun i => (i.zero, i.size, i.bytes)) = some (some (.agg #[.int .i64 0, .int .i64 0, .slice none 0 0]), 3, 40) := by kernel_rfl
theorem chunk_bound {n : Nat} (h : n ≤ 16384) : n + 1 ≤ maxLen ∧ (n + 1 + (n + 1) / 4 + 700) * 40 ≤ 281474976710656 := by
  constructor
  · simp only [maxLen]; omega
  · omega
theorem cutN_ft (B : List (List Int)) : ∀ (i : Nat), ∀ x ∈ cutN B i, x.f ≤ x.t ∧ x.t ≤ i
  | 0 => fun x hx => nomatch hx
  | i + 1 => fun x hx => by
    rw [cutN] at hx
    have ih := cutN_ft B i
    cases hb : B[i]? with
    | none => rw [hb] at hx; have := ih x hx; omega
    | some b =>
      rw [hb] at hx
      simp only at hx
      generalize cutN B i = C at hx ih
      rcases hfull : fullC C with _ | _
      · obtain ⟨P, y, rfl, _⟩ := fullC_some hfull
        rw [cutStep_more hfull] at hx
        rcases List.mem_append.1 hx with hx | hx
        · have := ih x (List.mem_append_left _ hx); omega
        · simp only [List.mem_cons, List.mem_nil_iff, or_false] at hx
          subst hx
          have := ih y (by simp)
          show y.f ≤ i + 1 ∧ i + 1 ≤ i + 1
          omega
      · rw [cutStep_full hfull] at hx
        rcases List.mem_append.1 hx with hx | hx
        · have := ih x hx; omega
        · simp only [List.mem_cons, List.mem_nil_iff, or_false] at hx
          subst hx
          show i ≤ i + 1 ∧ i + 1 ≤ i + 1
          omega
/-- cut's loop behind i documents. -/
structure CutS (w : World) (d : List (List Ent)) (i : Nat) (W : World) (v : Value) (C : List (Value × Chk)) : Prop where
  ch : Chks W w.heap.size v C
  eq : C.map Prod.snd = cutN (d.map docB) i
  bel : Below w.heap.size w W
  ok : ∀ x ∈ d.take i, okD x = true
  small : ∀ p ∈ C, p.2.b.length ≤ 300000
  len : C.length ≤ i
theorem CutS.no {w W W' : World} {d : List (List Ent)} {i : Nat} {v : Value} {C : List (Value × Chk)} (h : CutS w d i W v C) (hf : Fr No W W') : CutS w d i W' v C :=
  ⟨h.ch.below hf.no, h.eq, accNo h.bel (Nat.le_refl _) hf, h.ok, h.small, h.len⟩
theorem cut_full {w W : World} {d : List (List Ent)} {i : Nat} {x : List Ent} {v v1 u : Value} {C : List (Value × Chk)} (h0 : fullC (C.map Prod.snd) = true) (hx : d[i]? = some x) (ho : okD x = true) (hl : (docB x).length ≤ 268170) {W0 : World} (h : CutS w d i W0 v C)
    (hc : Chks W w.heap.size v1 (C ++ [(u, Chk.mk i (i + 1) (docB x))])) (hb : Below w.heap.size w W) : CutS w d (i + 1) W v1 (C ++ [(u, Chk.mk i (i + 1) (docB x))]) := by
  refine ⟨hc, ?_, hb, fun y hy => ?_, fun p hp => ?_, by rw [List.length_append]; have := h.len; simp; omega⟩
  · rw [cutN_succ (b := docB x) (by rw [List.getElem?_map, hx]; rfl), ← h.eq, cutStep_full h0, List.map_append]
    rfl
  · rw [List.take_add_one, hx] at hy
    rcases List.mem_append.1 hy with hy | hy
    · exact h.ok y hy
    · have : y = x := by simpa using hy
      rw [this]
      exact ho
  · rcases List.mem_append.1 hp with hp | hp
    · exact h.small p hp
    · simp only [List.mem_cons, List.mem_nil_iff, or_false] at hp
      subst hp
      show (docB x).length ≤ 300000
      omega
theorem cut_more {w W : World} {d : List (List Ent)} {i f t : Nat} {x : List Ent} {v v1 u u1 : Value} {b : List Int} {P : List (Value × Chk)} (h0 : b.length < 256) (hx : d[i]? = some x) (ho : okD x = true) (hl : (docB x).length ≤ 268170) {W0 : World} (h : CutS w d i W0 v (P ++ [(u, Chk.mk f t b)]))
    (hc : Chks W w.heap.size v1 (P ++ [(u1, Chk.mk f (i + 1) (b ++ docB x))])) (hb : Below w.heap.size w W) : CutS w d (i + 1) W v1 (P ++ [(u1, Chk.mk f (i + 1) (b ++ docB x))]) := by
  have hlen := h.len
  rw [List.length_append] at hlen
  refine ⟨hc, ?_, hb, fun y hy => ?_, fun p hp => ?_, by rw [List.length_append]; simp at hlen ⊢; omega⟩
  · have he := h.eq
    rw [List.map_append] at he
    rw [cutN_succ (b := docB x) (by rw [List.getElem?_map, hx]; rfl), ← he, List.map_append]
    show _ = cutStep (P.map Prod.snd ++ [Chk.mk f t b]) i (docB x)
    rw [cutStep_more (by rw [fullC_last]; exact decide_eq_false (by show ¬ 256 ≤ b.length; omega))]
    rfl
  · rw [List.take_add_one, hx] at hy
    rcases List.mem_append.1 hy with hy | hy
    · exact h.ok y hy
    · have : y = x := by simpa using hy
      rw [this]
      exact ho
  · rcases List.mem_append.1 hp with hp | hp
    · exact h.small p (List.mem_append_left _ hp)
    · simp only [List.mem_cons, List.mem_nil_iff, or_false] at hp
      subst hp
      show (b ++ docB x).length ≤ 300000
      rw [List.length_append]
      omega
set_option maxRecDepth 100000 in
set_option maxHeartbeats 4000000 in
theorem cut_any (w : World) (A : Option Addr) (n c : Nat) (L : List (Value × List (Value × Ent))) (h : DocsR w A n c L) :
    Calls Try.prog 93 #[.slice A n c] w fun e W' => ((okDs (L.map docOf) = true ∧ ∃ v C, e = .returned (.tuple #[v, .bool true]) ∧ CutS w (L.map docOf) (L.map docOf).length W' v C) ∨ (okDs (L.map docOf) = false ∧ e = .returned (.tuple #[.slice none 0 0, .bool false]))) ∧ Fr No w W' := by
  obtain ⟨d, hd⟩ : ∃ d, L.map docOf = d := ⟨_, rfl⟩
  rw [hd]
  have HD := Aside0.mk h
  have hc := h.cap
  have hn := h.max
  have HDL := Aside0.mk (show d.length = n from by rw [← hd, List.length_map]; exact h.len)
  have HM := Aside0.mk (show ∀ (i : Nat) (p : Value × List (Value × Ent)), L[i]? = some p → d[i]? = some (docOf p) from fun i p h => by rw [← hd, List.getElem?_map, h]; rfl)
  have HBE := Aside0.mk (show ∀ (i : Nat) (x : List Ent), d[i]? = some x → okD x = false → okDs d = false from fun i e he hf => by
    unfold okDs
    rw [Bool.and_eq_false_iff]
    refine .inr (Bool.eq_false_iff.2 fun ha => ?_)
    rw [List.all_eq_true.1 ha e (List.mem_of_getElem? he)] at hf
    exact absurd hf (by decide))
  by_cases hbig : 16384 < n
  · have HR := Aside0.mk (show okDs d = false from by
      unfold okDs
      rw [decide_eq_false (by have := HDL.out; omega)]
      rfl)
    clear h hd
    go_enter Try.func93, Try.ntmps93
    go_wp2_with fail
    go_ret2
    exact ⟨.inr ⟨HR.out, rfl⟩, Fr.refl _ _⟩
  have hn2 : n ≤ 16384 := by omega
  clear h hd hbig hn
  go_enter Try.func93, Try.ntmps93
  go_wp2_with fail
  go_loopw [4, 5, 16] (fun v4 v5 v16 wr => ∃ (i : Nat) (C : List (Value × Chk)), v16 = .int .i64 i ∧ v5 = .bool (fullC (C.map Prod.snd)) ∧ i ≤ n ∧ Aside0 (CutS w d i wr v4 C)) (fun _ _ v16 _ => n - (intOf v16).toNat)
  case atStart => exact ⟨0, [], rfl, rfl, by omega, ⟨Chks.nil _ _, rfl, Below.refl _ _, by simp, fun p hp => (nomatch hp), Nat.le_refl _⟩⟩
  case round =>
    obtain ⟨i, C, rfl, rfl, hi, HC⟩ := hrel
    by_cases hlt : i < n
    · obtain ⟨p, hp⟩ := get_some' (xs := L) (i := i) (by have := HD.out.len; omega)
      have hr := HD.out.below HC.out.bel
      obtain ⟨ad, eA, hcell⟩ := rdv_at (f := Prod.fst) hr.hdr hp
      obtain ⟨Ai, ci, he, hdoc⟩ := hr.part p (List.mem_of_getElem? hp)
      rw [he] at hcell
      have HP := Aside0.mk (HM.out i p hp)
      subst eA
      obtain ⟨ni, hni⟩ : ∃ k, p.2.length = k := ⟨_, rfl⟩
      rw [hni] at hcell hdoc
      have hcap := hdoc.cap
      have hmax := hdoc.max
      have HF := Aside0.mk (form_any wr Ai ni ci p.2 hdoc)
      have HLN := Aside0.mk (docB_len hdoc)
      obtain ⟨x, hx⟩ : ∃ x, docOf p = x := ⟨_, rfl⟩
      rw [show p.2.map Prod.snd = x from hx] at HF HLN
      rw [hx] at HP
      clear hr hp he hdoc hni hx
      by_cases hok : okD x = true
      · have HOK := Aside0.mk hok
        have HF2 := Aside0.mk (show Calls Try.prog 115 #[.slice Ai ni ci] wr fun e W' => ∃ v, e = .returned (.tuple #[v, .bool true]) ∧ Acc W' wr.heap.size v (docB x) ∧ Fr No wr W' from HF.out.mono (by
          rintro e W' ⟨⟨_, v, h1, h2⟩ | ⟨h0, _⟩, h3⟩
          · exact ⟨v, h1, h2, h3⟩
          · rw [hok] at h0; exact absurd h0 (by decide)))
        have HLX := Aside0.mk (HLN.out hok)
        clear hok HF HLN
        cases hfull : fullC (C.map Prod.snd) with
        | true =>
          have HFU := Aside0.mk hfull
          obtain ⟨A4, c4, e4, hc4⟩ := Win.shape HC.out.ch.hdr
          subst e4
          obtain ⟨k, hk⟩ : ∃ k, C.length = k := ⟨_, rfl⟩
          have hk2 : k ≤ 16384 := by have := HC.out.len; omega
          have HK := Aside0.mk hk
          rw [hk] at hc4
          have HB := Aside0.mk (chunk_bound hk2)
          have HCk := Aside0.mk (show CutS w d i wr (.slice A4 k c4) C from by have h := HC.out; rwa [hk] at h)
          rw [hk]
          clear hfull hk
          go_wp2_with (first | ((with_reducible refine gate_builtin (b := .append) (xs := #[.tmp 44, .tmp 45]) rfl ?_); at_builtin; go_must (refine wpl_append w2 w.heap.size rfl (.tmp 44) (.tmp 45) 22 22 5 (.int .u8 0) 1 1 (.slice 5) rfl Try.underlying22 Try.underlying22 (.inl ⟨_, rfl⟩) info5 rfl (.slice none 0 0) 0 [] (.slice A1 (docB x).length c1) (docB x).length (nums .u8 (docB x)) rfl rfl (Win.nil _ _ _ _) (Src.of_rd (RdV.of_win G3.out) (by rw [nums_length, Nat.mul_one]) (nums_one _ _)) GS.out.size (small_bound (n := 0 + (docB x).length) (by have := HLX.out; omega)).1 (small_bound (n := 0 + (docB x).length) (by have := HLX.out; omega)).2 ?_; intro v3 w3 g1 _ g3 g4; obtain ⟨⟨j0, j0f⟩, ⟨j1, j1f⟩, j2, j2f⟩ := Chks.cells1 G2.out (by rw [HK.out]) HK.out g3; obtain ⟨A3, c3, e3, l3⟩ := Win.shape g1; subst e3; have G4 := Aside0.mk g1; have G5 := Aside0.mk g3; have G6 := Aside0.mk g4; clear g1 g3 g4)) | ((with_reducible refine gate_builtin (b := .append) (xs := #[.tmp 29, .tmp 32]) rfl ?_); at_builtin; go_must (refine wpl_append1 w1 w.heap.size rfl (.tmp 29) (.tmp 32) 119 118 (.agg #[.int .i64 0, .int .i64 0, .slice none 0 0]) 3 40 rfl Try.underlying119 info118 rfl (.slice A4 k c4) k (C.flatMap chkCells) [.int .i64 i, .int .i64 0, .slice none 0 0] rfl rfl (by have h := HC1.out.ch.hdr; rwa [HK.out] at h) rfl (by simp [Value.oneCell']) HC1.out.bel.size HB.out.1 HB.out.2 ?_; intro v2 w2 g1 _ g3 _; obtain ⟨g, off, c2, e2, l2⟩ := Win.shape1 g1 (Nat.succ_pos _); subst e2; have G3 := Aside0.mk (Win.fr Q1.out g3 (fun k hk hv => acc_not_hdr HC1.out.ch.hdr Q1.out hk hv) : Acc w2 wr.heap.size _ _); have GS := Aside0.mk (acc HC1.out.bel (Nat.le_refl _) g3 (fun k hk => (Win.at_ HC1.out.ch.hdr hk).1)); have G2 := Aside0.mk (Chks.push HC1.out.ch (by rw [HK.out]; exact g1) g3); obtain ⟨⟨k0, k0f⟩, ⟨k1, k1f⟩, k2, k2f⟩ := Chks.cells (j := k) (u := .slice none 0 0) (f := i) (t := 0) (b := []) G2.out (by rw [List.length_append, HK.out]; rfl) (by rw [← HK.out]; simp); clear g1 g3)) | (go_at_call 115; go_must (refine HF2.out.mono ?_; rintro e' w1 ⟨v1, rfl, q1, q2⟩; obtain ⟨A1, c1, e1, l1⟩ := Win.shape q1; subst e1; have Q1 := Aside0.mk q1; have HC1 := Aside0.mk (HCk.out.no q2); have Q2 := Aside0.mk q2; clear q1 q2)))
          go_roundw
          case rel =>
            obtain ⟨g1, g2⟩ := Chks.grow (t1 := i + 1) (b1 := docB x) G2.out (by rw [HK.out]) (by have h := G4.out; rw [List.nil_append] at h; exact Acc.of h) G5.out G6.out
            rw [HK.out, Nat.zero_add] at g1
            rw [HK.out, Nat.zero_add] at g2
            refine ⟨i + 1, C ++ [(_, Chk.mk i (i + 1) (docB x))], by simp, ?_, by omega, ⟨cut_full HFU.out HP.out HOK.out HLX.out HC.out g1 (acc (acc GS.out (Nat.le_refl _) G5.out (fun k hk => hk.none.elim)) (Nat.le_refl _) g2 (fun k hk => by obtain rfl := At.eq hk; exact (Win.at_ G2.out.hdr (rb_slice _ _ _ (by omega))).1))⟩⟩
            rw [List.map_append]
            show _ = Value.bool (fullC (C.map Prod.snd ++ [Chk.mk i (i + 1) (docB x)]))
            rw [fullC_last]
            simp
            omega
          case measure => simp [intOf]; omega
        | false =>
          obtain ⟨P, q, rfl⟩ : ∃ P q, C = P ++ [q] := by
            rcases List.eq_nil_or_concat C with rfl | ⟨P, q, rfl⟩
            · exact absurd hfull (by decide)
            · exact ⟨P, q, List.concat_eq_append⟩
          obtain ⟨u, f, t, b⟩ := q
          have hb256 : b.length < 256 := by
            rw [List.map_append] at hfull
            have := (fullC_last (P.map Prod.snd) (Chk.mk f t b)).symm.trans hfull
            have := of_decide_eq_false this
            exact Nat.lt_of_not_le this
          obtain ⟨Au, cu, eu, hcu⟩ := Win.shape (HC.out.ch.part (u, Chk.mk f t b) (by simp))
          obtain rfl : u = .slice Au b.length cu := eu
          replace hcu : b.length ≤ cu := hcu
          obtain ⟨k, hk⟩ : ∃ k, P.length = k := ⟨_, rfl⟩
          have hkl : (P ++ [(Value.slice Au b.length cu, Chk.mk f t b)]).length = k + 1 := by rw [List.length_append, hk]; rfl
          have hk2 : k ≤ 16384 := by have := HC.out.len; omega
          obtain ⟨g, off, c4, e4, hc4⟩ := Win.shape1 HC.out.ch.hdr (by omega)
          subst e4
          rw [hkl] at hc4
          have HK := Aside0.mk hk
          have HCk := Aside0.mk (show CutS w d i wr (.slice (some ⟨g, off, none⟩) (k + 1) c4) (P ++ [(Value.slice Au b.length cu, Chk.mk f t b)]) from by have h := HC.out; rwa [hkl] at h)
          rw [hkl]
          obtain ⟨nb, hnb⟩ : ∃ k, b.length = k := ⟨_, rfl⟩
          have HNB := Aside0.mk hnb
          have HSB := Aside0.mk (small_bound (n := nb + (docB x).length) (by have := HLX.out; omega))
          rw [hnb] at hb256 hcu
          rw [hnb] at HCk
          clear hfull hk hkl hnb HC
          go_wp2_with (first | ((with_reducible refine gate_builtin (b := .append) (xs := #[.tmp 44, .tmp 45]) rfl ?_); at_builtin; go_must (refine wpl_append w1 w.heap.size rfl (.tmp 44) (.tmp 45) 22 22 5 (.int .u8 0) 1 1 (.slice 5) rfl Try.underlying22 Try.underlying22 (.inl ⟨_, rfl⟩) info5 rfl (.slice Au nb cu) nb (nums .u8 b) (.slice A1 (docB x).length c1) (docB x).length (nums .u8 (docB x)) rfl rfl (by have h := HC1.out.ch.part (Value.slice Au nb cu, Chk.mk f t b) (by simp); unfold Acc at h; rwa [HNB.out] at h) (Src.of_rd (RdV.of_win Q1.out) (by rw [nums_length, Nat.mul_one]) (nums_one _ _)) HC1.out.bel.size HSB.out.1 HSB.out.2 ?_; intro v3 w3 g1 _ g3 g4; obtain ⟨⟨j0, j0f⟩, ⟨j1, j1f⟩, j2, j2f⟩ := Chks.cells1 HC1.out.ch (by rw [HK.out]) HK.out g3; obtain ⟨A3, c3, e3, l3⟩ := Win.shape g1; subst e3; have G4 := Aside0.mk g1; have G5 := Aside0.mk g3; have G6 := Aside0.mk g4; clear g1 g3 g4)) | (go_at_call 115; go_must (refine HF2.out.mono ?_; rintro e' w1 ⟨v1, rfl, q1, q2⟩; obtain ⟨A1, c1, e1, l1⟩ := Win.shape q1; subst e1; have Q1 := Aside0.mk q1; have hc1 := HCk.out.no q2; obtain ⟨⟨k0, k0f⟩, ⟨k1, k1f⟩, k2, k2f⟩ := Chks.cells1 hc1.ch (by rw [HK.out]) HK.out (Fr.refl _ _); have HC1 := Aside0.mk hc1; have Q2 := Aside0.mk q2; clear q1 q2 hc1)))
          go_roundw
          case rel =>
            obtain ⟨g1, g2⟩ := Chks.grow (t1 := i + 1) (b1 := b ++ docB x) HC1.out.ch (by rw [HK.out]) (by have h := G4.out; rw [← nums_append] at h; exact Acc.of h) G5.out G6.out
            rw [HK.out] at g1
            rw [HK.out] at g2
            refine ⟨i + 1, P ++ [(_, Chk.mk f (i + 1) (b ++ docB x))], by simp, ?_, by omega, ⟨cut_more (by rw [HNB.out]; exact hb256) HP.out HOK.out HLX.out HC1.out g1 (acc (acc HC1.out.bel (Nat.le_refl _) G5.out (fun k hk => (Win.at_ (HC1.out.ch.part (Value.slice Au nb cu, Chk.mk f t b) (by simp)) hk).1)) (Nat.le_refl _) g2 (fun k hk => by obtain rfl := At.eq hk; exact (Win.at_ HC1.out.ch.hdr (rb_slice _ _ _ (by omega))).1))⟩⟩
            rw [List.map_append]
            show _ = Value.bool (fullC (P.map Prod.snd ++ [Chk.mk f (i + 1) (b ++ docB x)]))
            rw [fullC_last]
            have := HNB.out
            simp
            omega
          case measure => simp [intOf]; omega
      · have HFB := Aside0.mk (show Calls Try.prog 115 #[.slice Ai ni ci] wr fun e W' => e = .returned (.tuple #[.slice none 0 0, .bool false]) ∧ Fr No wr W' from HF.out.mono (by
          rintro e W' ⟨⟨h0, _⟩ | ⟨_, h1⟩, h3⟩
          · exact absurd h0 hok
          · exact ⟨h1, h3⟩))
        have HR := Aside0.mk (HBE.out i x HP.out (by simpa using hok))
        clear hok HF HLN
        go_wp2_with (first | (go_at_call 115; go_must (refine HFB.out.mono ?_; rintro e' w1 ⟨rfl, q2⟩; have Q2 := Aside0.mk q2; clear q2)))
        go_ret2
        exact ⟨.inr ⟨HR.out, rfl⟩, Fr.of_No (accNo HC.out.bel (Nat.le_refl _) Q2.out)⟩
    · obtain rfl : n = i := by omega
      have HE := Aside0.mk (show okDs d = true from by
        unfold okDs
        rw [Bool.and_eq_true, decide_eq_true_eq, List.all_eq_true]
        have h := HC.out.ok
        exact ⟨by rw [HDL.out]; omega, fun e he => h e (by rw [List.take_of_length_le (by have := HDL.out; omega)]; exact he)⟩)
      go_wp2_with fail
      go_ret2
      exact ⟨.inl ⟨HE.out, _, C, rfl, by rw [HDL.out]; exact HC.out⟩, Fr.of_No HC.out.bel⟩
end Go.Proofs.Ytchcimkmjoegdaa.C
namespace Go.Proofs.Ytchcimkmjoegdaa.C
open Go.RowKit Go.Proofs.YtchcimkmjoegdaaW.PrintWords Go.Proofs.YtchcimkmjoegdaaW.PrintMore Go.Proofs.Ytchcimkmjoegdaa.M
set_option linter.unusedVariables false
set_option linter.unusedSimpArgs false

/-- A chunk's head. -/
def chkH (c : Chk) : List Int := uenc (c.t - c.f) ++ uenc c.b.length
def cutsF (d : List (List Ent)) : List Chk := cutN (d.map docB) d.length
/-- The bytes behind j heads and i bodies. -/
def bldP (d : List (List Ent)) (j i : Nat) : List Int := uenc d.length ++ uenc (cutsF d).length ++ ((cutsF d).take j).flatMap chkH ++ ((cutsF d).take i).flatMap Chk.b
def buildB (d : List (List Ent)) : List Int := uenc d.length ++ uenc (cutsF d).length ++ (cutsF d).flatMap chkH ++ (cutsF d).flatMap Chk.b
theorem bldP_all (d : List (List Ent)) {j : Nat} (h : (cutsF d).length ≤ j) : bldP d j j = buildB d := by
  unfold bldP buildB
  rw [List.take_of_length_le h]
theorem bldP_head {d : List (List Ent)} {j : Nat} {c : Chk} (h : (cutsF d)[j]? = some c) : bldP d (j + 1) 0 = bldP d j 0 ++ chkH c := by
  unfold bldP
  rw [List.take_add_one, h]
  simp
theorem bldP_body {d : List (List Ent)} {j i : Nat} {c : Chk} (h : (cutsF d)[i]? = some c) : bldP d j (i + 1) = bldP d j i ++ c.b := by
  unfold bldP
  rw [List.take_add_one, h]
  simp
theorem cutsF_ft {d : List (List Ent)} {c : Chk} (h : c ∈ cutsF d) : c.f ≤ c.t ∧ c.t ≤ d.length := cutN_ft _ _ c h
theorem bldP_len {d : List (List Ent)} (hd : d.length ≤ 16384) (hc : (cutsF d).length ≤ 16384) (hs : ∀ c ∈ cutsF d, c.b.length ≤ 300000) (j i : Nat) : (bldP d j i).length ≤ 4915600020 := by
  have a := uenc_10 d.length (by omega)
  have b := uenc_10 (cutsF d).length (by omega)
  have c := flat_len chkH 20 ((cutsF d).take j) (fun c h => by
    have h1 := cutsF_ft (List.mem_of_mem_take h)
    have h2 := hs c (List.mem_of_mem_take h)
    unfold chkH
    rw [List.length_append]
    have := uenc_10 (c.t - c.f) (by omega)
    have := uenc_10 c.b.length (by omega)
    omega)
  have e := flat_len Chk.b 300000 ((cutsF d).take i) (fun c h => hs c (List.mem_of_mem_take h))
  rw [List.length_take] at c e
  unfold bldP
  simp only [List.length_append]
  omega
theorem box3 {W : World} {k t : Nat} {a b c : Value} (h : W.heap[k]? = some (Obj.cells #[a, b, c] t (0, 0))) : W.cell? ⟨k, 0, none⟩ = some a ∧ W.cell? ⟨k, 1, none⟩ = some b ∧ W.cell? ⟨k, 2, none⟩ = some c := by
  simp [World.cell?, h]
set_option maxRecDepth 100000 in
set_option maxHeartbeats 4000000 in
theorem build_any (w : World) (A : Option Addr) (n c : Nat) (L : List (Value × List (Value × Ent))) (h : DocsR w A n c L) :
    Calls Try.prog 44 #[.slice A n c] w fun e W' => ((okDs (L.map docOf) = true ∧ ∃ v, e = .returned v ∧ Acc W' w.heap.size v (buildB (L.map docOf))) ∨ (okDs (L.map docOf) = false ∧ e = .returned (.slice none 0 0))) ∧ Fr No w W' := by
  obtain ⟨d, hd⟩ : ∃ d, L.map docOf = d := ⟨_, rfl⟩
  have HCUT := Aside0.mk (cut_any w A n c L h)
  rw [hd] at HCUT ⊢
  have hc := h.cap
  have hn := h.max
  have HDL := Aside0.mk (show d.length = n from by rw [← hd, List.length_map]; exact h.len)
  clear h hd
  cases hok : okDs d with
  | false =>
    have HF := Aside0.mk (show Calls Try.prog 93 #[.slice A n c] w fun e W' => e = .returned (.tuple #[.slice none 0 0, .bool false]) ∧ Fr No w W' from HCUT.out.mono (by
      rintro e W' ⟨⟨h0, _⟩ | ⟨_, h1⟩, h3⟩
      · rw [hok] at h0; exact absurd h0 (by decide)
      · exact ⟨h1, h3⟩))
    clear HCUT hok
    go_enter Try.func44, Try.ntmps44
    go_wp2_with (first | (go_at_call 93; go_must (refine HF.out.mono ?_; rintro e' w1 ⟨rfl, q1⟩; have Q1 := Aside0.mk q1; clear q1)))
    go_ret
    exact ⟨.inr ⟨by trivial, rfl⟩, Q1.out⟩
  | true =>
    have HF := Aside0.mk (show Calls Try.prog 93 #[.slice A n c] w fun e W' => ∃ v C, e = .returned (.tuple #[v, .bool true]) ∧ CutS w d d.length W' v C ∧ Fr No w W' from HCUT.out.mono (by
      rintro e W' ⟨⟨_, v, C, h1, h2⟩ | ⟨h0, _⟩, h3⟩
      · exact ⟨v, C, h1, h2, h3⟩
      · rw [hok] at h0; exact absurd h0 (by decide)))
    have hn2 : n ≤ 16384 := by
      unfold okDs at hok
      rw [Bool.and_eq_true, decide_eq_true_eq] at hok
      rw [← HDL.out]
      exact hok.1
    clear HCUT hok hn
    go_enter Try.func44, Try.ntmps44
    go_wp2_with (first | (go_at_call_of 25 v2; go_must (refine (put_step_u w2 w1.heap.size v2 _ (k : Int) Q2.out F2.out.size (by omega) (by have := uenc_10 n (by omega); omega)).mono ?_; rintro e' w3 ⟨v3, rfl, q1, q2⟩; rw [Int.toNat_natCast] at q1; have Q3 := Aside0.mk q1; have F3 := Aside0.mk (F2.out.trans q2 (fun _ _ h => h) (fun _ _ h => h)); clear q1 q2)) | (go_at_call 25; go_must (refine (put_step_u w1 w1.heap.size (.slice none 0 0) [] (n : Int) (Win.nil _ _ _ _) (Nat.le_refl _) (by omega) (by simp)).mono ?_; rintro e' w2 ⟨v2, rfl, q1, q2⟩; rw [List.nil_append, Int.toNat_natCast] at q1; have Q2 := Aside0.mk q1; have F2 := Aside0.mk q2; clear q1 q2)) | (go_at_call 93; go_must (refine HF.out.mono ?_; rintro e' w1 ⟨v1, C, rfl, q1, q2⟩; obtain ⟨A1, c1, e1, l1⟩ := Win.shape q1.ch.hdr; subst e1; obtain ⟨k, hk⟩ : ∃ k, C.length = k := ⟨_, rfl⟩; have hk2 : k ≤ 16384 := (by have := q1.len; have := HDL.out; omega); rw [hk] at q1 l1 ⊢; have HK := Aside0.mk hk; have HC := Aside0.mk q1; have Q1 := Aside0.mk q2; clear q1 q2 hk)))
    have HCF := Aside0.mk (show C.map Prod.snd = cutsF d from HC.out.eq)
    have HCL := Aside0.mk (show (cutsF d).length = k from by rw [← HCF.out, List.length_map, HK.out])
    have HCG := Aside0.mk (show ∀ (j : Nat) (p : Value × Chk), C[j]? = some p → (cutsF d)[j]? = some p.2 from fun j p h => by rw [← HCF.out, List.getElem?_map, h]; rfl)
    have HBL := Aside0.mk (show ∀ j i, (bldP d j i).length ≤ 4915600020 from bldP_len (by rw [HDL.out]; omega) (by rw [HCL.out]; omega) (fun x hx => by
      rw [← HCF.out] at hx
      obtain ⟨p, hp, rfl⟩ := List.mem_map.1 hx
      exact HC.out.small p hp))
    go_loopw [5, 27] (fun v5 v27 wr => ∃ j : Nat, v27 = .int .i64 j ∧ j ≤ k ∧ Aside0 (Acc wr w1.heap.size v5 (bldP d j 0) ∧ Fr No w1 wr)) (fun _ v27 _ => k - (intOf v27).toNat)
    case atStart => exact ⟨0, rfl, by omega, ⟨by have q := Q3.out; unfold bldP; rw [HDL.out, HCL.out]; simpa using q, F3.out⟩⟩
    case round =>
      obtain ⟨j, rfl, hj, HW⟩ := hrel
      by_cases hlt : j < k
      · obtain ⟨⟨u, f, t, b⟩, hp⟩ := get_some' (xs := C) (i := j) (by have := HK.out; omega)
        have hch := HC.out.ch.below HW.out.2.no
        have hG := HCG.out j _ hp
        obtain ⟨g, off, c2, e2, _⟩ := Win.shape1 (by have h := hch.hdr; rwa [HK.out] at h) (by omega)
        injection e2 with e2 _ e3
        subst e2
        subst e3
        obtain ⟨⟨k0, _⟩, ⟨k1, _⟩, k2, _⟩ := Chks.cells hch HK.out hp
        obtain ⟨Au, cu, eu, hcu⟩ := Win.shape (hch.part _ (List.mem_of_getElem? hp))
        obtain rfl : u = .slice Au b.length cu := eu
        replace hcu : b.length ≤ cu := hcu
        have hft := cutsF_ft (List.mem_of_getElem? hG)
        have hbs : b.length ≤ 300000 := HC.out.small _ (List.mem_of_getElem? hp)
        obtain ⟨s, hs⟩ : ∃ s, t = f + s := ⟨t - f, by have : f ≤ t := hft.1; omega⟩
        have hfn : f + s ≤ n := by have : t ≤ d.length := hft.2; have := HDL.out; omega
        subst hs
        obtain ⟨nb, hnb⟩ : ∃ k, b.length = k := ⟨_, rfl⟩
        have HH := Aside0.mk (show bldP d (j + 1) 0 = bldP d j 0 ++ (uenc s ++ uenc nb) from by rw [bldP_head hG]; unfold chkH; simp only [hnb, Nat.add_sub_cancel_left])
        have HX := Aside0.mk (show (uenc s ++ uenc nb).length ≤ 20 from by have := uenc_10 s (by omega); have := uenc_10 nb (by omega); rw [List.length_append]; omega)
        rw [hnb] at k2 hcu hbs
        clear hch hG hft hnb hp
        obtain ⟨A5, c5, e5, hc5⟩ := Win.shape HW.out.1
        subst e5
        obtain ⟨lx, hlx⟩ : ∃ k, (uenc s ++ uenc nb).length = k := ⟨_, rfl⟩
        have HLX := Aside0.mk hlx
        clear hlx
        have HKX := Aside0.mk (show ((wr.alloc (.cells #[.int .i64 f, .int .i64 ((f : Int) + s), .slice Au nb cu] 118)).drew).heap[wr.heap.size]? = some (.cells #[.int .i64 f, .int .i64 ((f : Int) + s), .slice Au nb cu] 118 (0, 0)) from heap_alloc_new wr (.cells #[.int .i64 f, .int .i64 ((f : Int) + s), .slice Au nb cu] 118))
        have HWR := Aside0.mk (show IntKind.u64.wrap (IntKind.i64.wrap ((f : Int) + s - f)) = (s : Int) from by rw [IntKind.wrap_i64, IntKind.wrap_u64]; omega)
        have HWN := Aside0.mk (show IntKind.u64.wrap (nb : Int) = (nb : Int) from by rw [IntKind.wrap_u64]; omega)
        have HSB := Aside0.mk (small_bound (n := (bldP d j 0).length + lx) (by have := HBL.out j 0; have := HX.out; have := HLX.out; omega))
        have FA := Aside0.mk (show Fr No wr ((wr.alloc (.cells #[.int .i64 f, .int .i64 ((f : Int) + s), .slice Au nb cu] 118)).drew) from Fr.of_No (below_drew (below_alloc (Below.refl _ _) _)))
        go_wp2_with fail
        go_region_held3 (fun w' => w'.cell? ⟨wr.heap.size, 0, none⟩ = some (.int .i64 f) ∧ w'.cell? ⟨wr.heap.size, 1, none⟩ = some (.int .i64 ((f : Int) + s)) ∧ w'.cell? ⟨wr.heap.size, 2, none⟩ = some (.slice Au nb cu)) (first | exact box3 HKX.out | assumption) (first | (go_at_call_of 25 v4; rw [HWN.out]; refine (put_step_u w4 0 v4 _ (nb : Int) Q4.out (Nat.zero_le _) (by omega) (by have := uenc_10 s (by omega); omega)).mono ?_; rintro e' w5 ⟨v5, rfl, q1, q2⟩; rw [Int.toNat_natCast] at q1; obtain ⟨A7, c7, e7, l7⟩ := Win.shape q1; rw [HLX.out] at e7; subst e7; have Q5 := Aside0.mk q1; have F5 := Aside0.mk (F4.out.trans q2 (fun _ _ h => h) (fun _ _ h => h)); have H5 := Aside0.mk (q2.get H4.out (fun h => h)); have hb5 := box3 H5.out; clear q1 q2 l7) | (go_at_call 25; rw [HWR.out]; refine (put_step_u _ 0 (.slice none 0 0) [] (s : Int) (Win.nil _ _ _ _) (Nat.zero_le _) (by omega) (by simp)).mono ?_; rintro e' w4 ⟨v4, rfl, q1, q2⟩; rw [List.nil_append, Int.toNat_natCast] at q1; have Q4 := Aside0.mk q1; have F4 := Aside0.mk (FA.out.trans q2 (fun _ _ h => h) (fun _ _ h => h)); have H4 := Aside0.mk (q2.get HKX.out (fun h => h)); have hb4 := box3 H4.out; clear q1 q2) | (refine step_append w5 w1.heap.size rfl (.tmp 31) (.tmp 43) 22 22 5 (.int .u8 0) 1 1 (.slice 5) rfl Try.underlying22 Try.underlying22 (.inl ⟨_, rfl⟩) info5 rfl (.slice A5 (bldP d j 0).length c5) (bldP d j 0).length (nums .u8 (bldP d j 0)) (.slice A7 lx c7) lx (nums .u8 (uenc s ++ uenc nb)) rfl rfl (HW.out.1.below F5.out.no) (Src.of_rd (RdV.of_win Q5.out) (by rw [nums_length, HLX.out, Nat.mul_one]) (nums_one _ _)) (Nat.le_trans HW.out.2.size F5.out.size) HSB.out.1 HSB.out.2 ?_; intro v6 w6 g1 _ g3 _; have G1 := Aside0.mk g1; have G3 := Aside0.mk (own_step (HW.out.2.trans F5.out (fun _ _ h => h) (fun _ _ h => h)) (HW.out.1.below F5.out.no) g3); have hb6 := box3 (g3.get H5.out (win_not_at (HW.out.1.below F5.out.no) H5.out (by decide))); clear g1 g3))
        go_wp2_with fail
        go_roundw
        case rel => exact ⟨j + 1, by simp, by omega, ⟨by have q := G1.out; rw [← nums_append] at q; rw [HH.out]; exact Acc.of q, G3.out⟩⟩
        case measure => simp [intOf]; omega
      · obtain rfl : k = j := by omega
        have HB2 := Aside0.mk (show bldP d k 0 = bldP d k 0 from rfl)
        go_wp2_with fail
        go_loopw [5, 48] (fun v5 v48 wr => ∃ j : Nat, v48 = .int .i64 j ∧ j ≤ k ∧ Aside0 (Acc wr w1.heap.size v5 (bldP d k j) ∧ Fr No w1 wr)) (fun _ v48 _ => k - (intOf v48).toNat)
        case atStart => exact ⟨0, rfl, by omega, HW⟩
        case round =>
          obtain ⟨j, rfl, hj, HW⟩ := hrel
          by_cases hlt : j < k
          · obtain ⟨⟨u, f, t, b⟩, hp⟩ := get_some' (xs := C) (i := j) (by have := HK.out; omega)
            have hch := HC.out.ch.below HW.out.2.no
            have hG := HCG.out j _ hp
            obtain ⟨g, off, c2, e2, _⟩ := Win.shape1 (by have h := hch.hdr; rwa [HK.out] at h) (by omega)
            injection e2 with e2 _ e3
            subst e2
            subst e3
            obtain ⟨⟨k0, _⟩, ⟨k1, _⟩, k2, _⟩ := Chks.cells hch HK.out hp
            have HAcc := hch.part _ (List.mem_of_getElem? hp)
            obtain ⟨Au, cu, eu, hcu⟩ := Win.shape HAcc
            obtain rfl : u = .slice Au b.length cu := eu
            have hbs : b.length ≤ 300000 := HC.out.small _ (List.mem_of_getElem? hp)
            obtain ⟨nb, hnb⟩ : ∃ k, b.length = k := ⟨_, rfl⟩
            have HH := Aside0.mk (show bldP d k (j + 1) = bldP d k j ++ b from by rw [bldP_body hG])
            have HAC := Aside0.mk (show Win wr w.heap.size 5 1 (.slice Au nb cu) nb (nums .u8 b) from by rw [← hnb]; exact HAcc)
            have HNB := Aside0.mk hnb
            rw [hnb] at k2 hbs
            have HSB := Aside0.mk (small_bound (n := (bldP d k j).length + nb) (by have := HBL.out k j; omega))
            clear hch hG hnb hp hcu HAcc
            obtain ⟨A5, c5, e5, hc5⟩ := Win.shape HW.out.1
            subst e5
            have FA := Aside0.mk (show Fr No wr (wr.alloc (.cells #[.int .i64 f, .int .i64 t, .slice Au nb cu] 118)) from Fr.of_No (below_alloc (Below.refl _ _) _))
            go_wp2_with (first | ((with_reducible refine gate_builtin (b := .append) (xs := #[.tmp 52, .tmp 54]) rfl ?_); at_builtin; go_must (refine wpl_append (wr.alloc (.cells #[.int .i64 f, .int .i64 t, .slice Au nb cu] 118)) w1.heap.size rfl (.tmp 52) (.tmp 54) 22 22 5 (.int .u8 0) 1 1 (.slice 5) rfl Try.underlying22 Try.underlying22 (.inl ⟨_, rfl⟩) info5 rfl (.slice A5 (bldP d k j).length c5) (bldP d k j).length (nums .u8 (bldP d k j)) (.slice Au nb cu) nb (nums .u8 b) rfl rfl (HW.out.1.below FA.out.no) (Src.of_rd (RdV.of_win (HAC.out.below FA.out.no)) (by rw [nums_length, HNB.out, Nat.mul_one]) (nums_one _ _)) (Nat.le_trans HW.out.2.size FA.out.size) HSB.out.1 HSB.out.2 ?_; intro v6 w6 g1 _ g3 _; have G1 := Aside0.mk g1; have G3 := Aside0.mk (own_step (HW.out.2.trans FA.out (fun _ _ h => h) (fun _ _ h => h)) (HW.out.1.below FA.out.no) g3); clear g1 g3)))
            go_roundw
            case rel => exact ⟨j + 1, by simp, by omega, ⟨by have q := G1.out; rw [← nums_append] at q; rw [HH.out]; exact Acc.of q, G3.out⟩⟩
            case measure => simp [intOf]; omega
          · obtain rfl : k = j := by omega
            go_wp2_with fail
            go_ret
            refine ⟨.inl ⟨by trivial, _, rfl, ?_⟩, Q1.out.trans HW.out.2 (fun _ _ h => h) (fun _ _ h => h)⟩
            have h := HW.out.1
            rw [bldP_all d (by rw [HCL.out]; exact Nat.le_refl _)] at h
            exact Win.lower h Q1.out.size
end Go.Proofs.Ytchcimkmjoegdaa.C
namespace Go.Proofs.Ytchcimkmjoegdaa.C
open Go.RowKit Go.Proofs.YtchcimkmjoegdaaW.PrintWords Go.Proofs.YtchcimkmjoegdaaW.PrintMore Go.Proofs.Ytchcimkmjoegdaa.M
set_option linter.unusedVariables false
set_option linter.unusedSimpArgs false

theorem ent_some {w : World} {ad : Addr} {D : List (Value × Ent)} {j : Nat} {p : Value × Ent} (h : RdV w (some ad) (D.flatMap entCells)) (hp : D[j]? = some p) : w.cell? (ad.add (j * 3)) = some (.string p.2.f) ∧ w.cell? ⟨(ad.add (j * 3)).block, (ad.add (j * 3)).off + 1, none⟩ = some (.string p.2.t) ∧ w.cell? ⟨(ad.add (j * 3)).block, (ad.add (j * 3)).off + 2, none⟩ = some p.1 := by
  obtain ⟨ad', e, h1⟩ := ent_at h hp
  injection e with e
  subst e
  exact h1
theorem okD_get {d : List Ent} {i : Nat} {e : Ent} (h : okD d = true) (he : d[i]? = some e) : okE e = true := by
  unfold okD at h
  rw [Bool.and_eq_true] at h
  exact List.all_eq_true.1 h.2 e (List.mem_of_getElem? he)
theorem pfx_len {w : World} {A : Option Addr} {n c : Nat} {D : List (Value × Ent)} (h : DocR w A n c D) (ho : okD (D.map Prod.snd) = true) (i : Nat) : (pfx (D.map Prod.snd) i).length ≤ 268170 := by
  unfold okD at ho
  rw [Bool.and_eq_true, decide_eq_true_eq, List.all_eq_true] at ho
  obtain ⟨h1, h2⟩ := ho
  unfold pfx
  rw [List.length_append]
  have a := uenc_10 (D.map Prod.snd).length (by omega)
  have b := flat_len entB 4190 ((D.map Prod.snd).take i) (fun e he => by
    have he := List.mem_of_mem_take he
    obtain ⟨p, hp, rfl⟩ := List.mem_map.1 he
    obtain ⟨_, _, _, _, _, h64, _⟩ := h.part p hp
    exact entB_len (h2 _ he) h64)
  rw [List.length_take] at b
  omega
set_option maxRecDepth 100000 in
set_option maxHeartbeats 4000000 in
theorem rform_any (w : World) (A : Option Addr) (n c : Nat) (D : List (Value × Ent)) (h : DocR w A n c D) (ho : okD (D.map Prod.snd) = true) :
    Calls Try.prog 108 #[.slice A n c] w fun e W' => ∃ v, e = .returned v ∧ Acc W' w.heap.size v (docB (D.map Prod.snd)) ∧ Fr No w W' := by
  have HPL := Aside0.mk (pfx_len h ho)
  obtain ⟨d, hd⟩ : ∃ d, D.map Prod.snd = d := ⟨_, rfl⟩
  rw [hd] at ho HPL ⊢
  have HD := Aside0.mk h
  have hc := h.cap
  have HDL := Aside0.mk (show d.length = n from by rw [← hd, List.length_map]; exact h.len)
  have HM := Aside0.mk (show ∀ (i : Nat) (p : Value × Ent), D[i]? = some p → d[i]? = some p.2 from fun i p h => by rw [← hd, List.getElem?_map, h]; rfl)
  have HOK := Aside0.mk ho
  have hn : n ≤ 64 := by
    unfold okD at ho
    rw [Bool.and_eq_true, decide_eq_true_eq] at ho
    rw [← HDL.out]
    exact ho.1
  clear h hd ho
  go_enter Try.func108, Try.ntmps108
  go_wp2_with (first | (go_at_call 29; go_must (refine (refUint_any w n (by rw [M64_eq]; omega)).mono ?_; rintro e' w1 ⟨v1, rfl, q1, q2⟩; have Q1 := Aside0.mk (show Acc w1 w.heap.size v1 (uenc n) from q1); have Q2 := Aside0.mk q2; clear q1 q2)))
  go_loopw [3, 4] (fun v3 v4 wr => ∃ i : Nat, v4 = .int .i64 i ∧ i ≤ n ∧ Aside0 (Acc wr w.heap.size v3 (pfx d i) ∧ Fr No w wr)) (fun _ v4 _ => n - (intOf v4).toNat)
  case atStart => exact ⟨0, rfl, by omega, ⟨by have q := Q1.out; unfold pfx; rw [HDL.out]; simpa using q, Q2.out⟩⟩
  case round =>
    obtain ⟨i, rfl, hi, HF⟩ := hrel
    by_cases hlt : i < n
    · obtain ⟨p, hp⟩ := get_some' (xs := D) (i := i) (by have := HD.out.len; omega)
      have HP0 := Aside0.mk hp
      obtain ⟨ad, eA, hc0, hc1, hc2⟩ := ent_at (HD.out.below HF.out.2.no).hdr hp
      obtain ⟨Ai, ci, he, hci, hri, h64, hnm, hfm, htm⟩ := HD.out.part p (List.mem_of_getElem? hp)
      have HP := Aside0.mk (HM.out i p hp)
      have hoe := okD_get HOK.out HP.out
      subst eA
      obtain ⟨pv, pe⟩ := p
      obtain ⟨f, t, ns⟩ := pe
      obtain rfl : pv = .slice Ai ns.length ci := he
      replace hci : ns.length ≤ ci := hci
      obtain ⟨ho1, ho2, ho3⟩ := okE_iff.1 hoe
      replace ho1 : f.size ≤ 24 := ho1
      replace ho2 : t.size ≤ 4096 := ho2
      replace ho3 : ns.length ≤ 4 := ho3
      simp only at hc0 hc1 hc2
      have HI := Aside0.mk (show I64 ns from h64)
      have HA := Aside0.mk (show RdV w Ai (nums .i64 ns) from hri)
      obtain ⟨nn, hnn⟩ : ∃ k, ns.length = k := ⟨_, rfl⟩
      rw [hnn] at hci hc2 ho3
      have HNN := Aside0.mk hnn
      have HC := Aside0.mk (show ∀ W : World, Fr No w W → W.cell? ⟨(ad.add (i * 3)).block, (ad.add (i * 3)).off + 1, none⟩ = some (.string t) ∧ W.cell? ⟨(ad.add (i * 3)).block, (ad.add (i * 3)).off + 2, none⟩ = some (.slice Ai nn ci) from fun W hW => by
        obtain ⟨_, h1, h2⟩ := ent_some (HD.out.below hW.no).hdr HP0.out
        rw [hnn] at h2
        exact ⟨h1, h2⟩)
      obtain ⟨lf, hlf⟩ : ∃ k, (uenc f.size).length + f.size = k := ⟨_, rfl⟩
      obtain ⟨lt, hlt'⟩ : ∃ k, (uenc t.size).length + t.size = k := ⟨_, rfl⟩
      obtain ⟨lc, hlc⟩ : ∃ k, (uenc nn).length = k := ⟨_, rfl⟩
      have hlf2 : lf ≤ 34 := by have := uenc_10 f.size (by omega); omega
      have hlt2 : lt ≤ 4106 := by have := uenc_10 t.size (by omega); omega
      have hlc2 : lc ≤ 10 := by have := uenc_10 nn (by omega); omega
      have HLF := Aside0.mk hlf
      have HLT := Aside0.mk hlt'
      have HLC := Aside0.mk hlc
      have HB1 := Aside0.mk (small_bound (n := (pfx d i).length + lf) (by have := HPL.out i; omega))
      have HB2 := Aside0.mk (small_bound (n := (pfx d i).length + lf + lt) (by have := HPL.out i; omega))
      have HB3 := Aside0.mk (small_bound (n := (pfx d i).length + lf + lt + lc) (by have := HPL.out i; omega))
      clear hp hri h64 hnm hfm htm hoe hnn hlf hlt' hlc
      go_wp2_with (first | ((with_reducible refine gate_builtin (b := .append) (xs := #[.tmp 32, .tmp 40]) rfl ?_); at_builtin; go_must (refine wpl_append w5 w.heap.size rfl (.tmp 32) (.tmp 40) 22 22 5 (.int .u8 0) 1 1 (.slice 5) rfl Try.underlying22 Try.underlying22 (.inl ⟨_, rfl⟩) info5 rfl v4 ((pfx d i).length + lf + lt) (nums .u8 (pfx d i ++ txtB f ++ txtB t)) (.slice A5 lc c5) lc (nums .u8 (uenc nn)) rfl rfl (G4.out.below F5.out.no) (Src.of_rd (RdV.of_win Q5.out) (by rw [nums_length, HLC.out, Nat.mul_one]) (nums_one _ _)) (Nat.le_trans F4.out.size F5.out.size) HB3.out.1 HB3.out.2 ?_; intro v6 w6 g1 _ g3 _; have G6 := Aside0.mk g1; have F6 := Aside0.mk (own_step (frt F4.out F5.out) (G4.out.below F5.out.no) g3); clear g1 g3)) | (go_at_call 29; go_must (refine (refUint_any w4 nn (by rw [M64_eq]; omega)).mono ?_; rintro e' w5 ⟨v5, rfl, q1, q2⟩; rw [HLC.out] at q1; obtain ⟨A5, c5, e5, l5⟩ := Win.shape q1; subst e5; have Q5 := Aside0.mk q1; have F5 := Aside0.mk q2; clear q1 q2 l5)) | ((with_reducible refine gate_builtin (b := .append) (xs := #[.tmp 24, .tmp 30]) rfl ?_); at_builtin; go_must (refine wpl_append w3 w.heap.size rfl (.tmp 24) (.tmp 30) 22 22 5 (.int .u8 0) 1 1 (.slice 5) rfl Try.underlying22 Try.underlying22 (.inl ⟨_, rfl⟩) info5 rfl v2 ((pfx d i).length + lf) (nums .u8 (pfx d i ++ txtB f)) (.slice A3 lt c3) lt (nums .u8 (uenc t.size ++ bytesOf t)) rfl rfl (G2.out.below F3.out.no) (Src.of_rd (RdV.of_win Q3.out) (by rw [nums_length, List.length_append, bytesOf_len, HLT.out, Nat.mul_one]) (nums_one _ _)) (Nat.le_trans F2.out.size F3.out.size) HB2.out.1 HB2.out.2 ?_; intro v4 w4 g1 _ g3 _; have G4 := Aside0.mk (show Win w4 w.heap.size 5 1 v4 ((pfx d i).length + lf + lt) (nums .u8 (pfx d i ++ txtB f ++ txtB t)) from by rw [← nums_append] at g1; exact g1); have f4 := own_step (frt F2.out F3.out) (G2.out.below F3.out.no) g3; have F4 := Aside0.mk f4; obtain ⟨_, kc4⟩ := HC.out w4 f4; clear g1 g3 f4)) | (go_at_call_of 31 t; go_must (refine (refText_any w2 t (by omega)).mono ?_; rintro e' w3 ⟨v3, rfl, q1, q2⟩; rw [HLT.out] at q1; obtain ⟨A3, c3, e3, l3⟩ := Win.shape q1; subst e3; have Q3 := Aside0.mk q1; have F3 := Aside0.mk q2; clear q1 q2 l3)) | ((with_reducible refine gate_builtin (b := .append) (xs := #[.tmp 16, .tmp 22]) rfl ?_); at_builtin; go_must (refine wpl_append w1 w.heap.size rfl (.tmp 16) (.tmp 22) 22 22 5 (.int .u8 0) 1 1 (.slice 5) rfl Try.underlying22 Try.underlying22 (.inl ⟨_, rfl⟩) info5 rfl u3 (pfx d i).length (nums .u8 (pfx d i)) (.slice A1 lf c1) lf (nums .u8 (uenc f.size ++ bytesOf f)) rfl rfl (HF.out.1.below F1.out.no) (Src.of_rd (RdV.of_win Q1.out) (by rw [nums_length, List.length_append, bytesOf_len, HLF.out, Nat.mul_one]) (nums_one _ _)) (Nat.le_trans HF.out.2.size F1.out.size) HB1.out.1 HB1.out.2 ?_; intro v2 w2 g1 _ g3 _; have G2 := Aside0.mk (show Win w2 w.heap.size 5 1 v2 ((pfx d i).length + lf) (nums .u8 (pfx d i ++ txtB f)) from by rw [← nums_append] at g1; exact g1); have f2 := own_step (frt HF.out.2 F1.out) (HF.out.1.below F1.out.no) g3; have F2 := Aside0.mk f2; obtain ⟨kc1, _⟩ := HC.out w2 f2; clear g1 g3 f2)) | (go_at_call_of 31 f; go_must (refine (refText_any wr f (by omega)).mono ?_; rintro e' w1 ⟨v1, rfl, q1, q2⟩; rw [HLF.out] at q1; obtain ⟨A1, c1, e1, l1⟩ := Win.shape q1; subst e1; have Q1 := Aside0.mk q1; have F1 := Aside0.mk q2; clear q1 q2 l1)))
      go_loopw [3, 5] (fun v3 v5 wr => ∃ j : Nat, v5 = .int .i64 j ∧ j ≤ nn ∧ Aside0 (Acc wr w.heap.size v3 (pfx d i ++ txtB f ++ txtB t ++ uenc nn ++ numB (ns.take j)) ∧ Fr No w wr)) (fun _ v5 _ => nn - (intOf v5).toNat)
      case atStart => exact ⟨0, rfl, by omega, ⟨by have q := G6.out; rw [← nums_append] at q; have q := Acc.of q; simpa [numB] using q, F6.out⟩⟩
      case round =>
        obtain ⟨j, rfl, hj, HS⟩ := hrel
        obtain ⟨_, kc⟩ := HC.out wr HS.out.2
        by_cases hlt2 : j < nn
        · obtain ⟨x, hx⟩ := get_some' (xs := ns) (i := j) (by have := HNN.out; omega)
          obtain ⟨ad2, e2, hh⟩ := rdv_at (f := Value.int .i64) (show RdV wr Ai (ns.map (Value.int .i64)) from HA.out.below HS.out.2.no) hx
          subst e2
          have hx2 := HI.out x (List.mem_of_getElem? hx)
          have HX := Aside0.mk hx
          obtain ⟨z, hz⟩ : ∃ z, Lib.zigzag x = z := ⟨_, rfl⟩
          have hz2 : z < M64 := by rw [← hz]; exact zig_64 x hx2.1 hx2.2
          have HT := Aside0.mk (refTurned_any · x hx2.1 hx2.2)
          rw [hz] at HT
          obtain ⟨lz, hlz⟩ : ∃ k, (uenc z).length = k := ⟨_, rfl⟩
          have hlz2 : lz ≤ 10 := by have := uenc_10 z (by rwa [M64_eq] at hz2); omega
          have HLZ := Aside0.mk hlz
          have HZ := Aside0.mk hz
          obtain ⟨ly, hly⟩ : ∃ k, (pfx d i ++ txtB f ++ txtB t ++ uenc nn ++ numB (ns.take j)).length = k := ⟨_, rfl⟩
          have hly2 : ly ≤ 1000000 := by
            have h1 := HPL.out i
            have h2 := HLF.out
            have h3 := HLT.out
            have h4 := HLC.out
            have h5 := numB_len (ns := ns.take j) (fun q hq => HI.out q (List.mem_of_mem_take hq))
            rw [List.length_take] at h5
            rw [← hly]
            unfold txtB
            simp only [List.length_append, bytesOf_len]
            omega
          have HLY := Aside0.mk hly
          have HBZ := Aside0.mk (small_bound (n := ly + lz) (by omega))
          have HZM := Aside0.mk hz2
          clear hx hx2 hz hlz hly hz2
          go_wp2_with (first | ((with_reducible refine gate_builtin (b := .append) (xs := #[.tmp 52, .tmp 62]) rfl ?_); at_builtin; go_must (refine wpl_append w8 w.heap.size rfl (.tmp 52) (.tmp 62) 22 22 5 (.int .u8 0) 1 1 (.slice 5) rfl Try.underlying22 Try.underlying22 (.inl ⟨_, rfl⟩) info5 rfl u3 ly (nums .u8 (pfx d i ++ txtB f ++ txtB t ++ uenc nn ++ numB (ns.take j))) (.slice A8 lz c8) lz (nums .u8 (uenc z)) rfl rfl (by have h := HS.out.1.below F8.out.no; unfold Acc at h; rwa [HLY.out] at h) (Src.of_rd (RdV.of_win Q8.out) (by rw [nums_length, HLZ.out, Nat.mul_one]) (nums_one _ _)) (Nat.le_trans HS.out.2.size F8.out.size) HBZ.out.1 HBZ.out.2 ?_; intro v9 w9 g1 _ g3 _; have G9 := Aside0.mk g1; have F9 := Aside0.mk (own_step (frt HS.out.2 F8.out) (HS.out.1.below F8.out.no) g3); clear g1 g3)) | (go_at_call 29; go_must (refine (refUint_any _ z HZM.out).mono ?_; rintro e' w8 ⟨v8, rfl, q1, q2⟩; rw [HLZ.out] at q1; obtain ⟨A8, c8, e8, l8⟩ := Win.shape q1; subst e8; have Q8 := Aside0.mk q1; have F8 := Aside0.mk q2; clear q1 q2 l8)) | (go_at_call 30; go_must (refine (HT.out wr).mono ?_; rintro e' w7 ⟨rfl, rfl⟩)))
          go_roundw
          case rel => exact ⟨j + 1, by simp, by omega, ⟨by
            have q := G9.out
            rw [← nums_append] at q
            have q := Acc.of q
            rw [show numB (ns.take (j + 1)) = numB (ns.take j) ++ uenc (Lib.zigzag x) from flat_take _ HX.out, HZ.out]
            simpa only [List.append_assoc] using q, F9.out⟩⟩
          case measure => simp [intOf]; omega
        · obtain rfl : nn = j := by omega
          have HFIN := Aside0.mk (show pfx d i ++ txtB f ++ txtB t ++ uenc nn ++ numB (ns.take nn) = pfx d (i + 1) from by
            rw [pfx_succ HP.out, List.take_of_length_le (by have := HNN.out; omega)]
            unfold entB
            simp only [List.append_assoc, HNN.out])
          go_wp2_with fail
          go_roundw
          case rel => exact ⟨i + 1, by simp, by omega, ⟨by have q := HS.out.1; rwa [HFIN.out] at q, HS.out.2⟩⟩
          case measure => simp [intOf]; omega
    · obtain rfl : n = i := by omega
      go_wp2_with fail
      go_ret
      exact ⟨_, rfl, by have h := HF.out.1; rwa [pfx_all (by have := HDL.out; omega)] at h, HF.out.2⟩
end Go.Proofs.Ytchcimkmjoegdaa.C
namespace Go.Proofs.Ytchcimkmjoegdaa.C
open Go.RowKit Go.Proofs.YtchcimkmjoegdaaW.PrintWords Go.Proofs.YtchcimkmjoegdaaW.PrintMore Go.Proofs.Ytchcimkmjoegdaa.M
set_option linter.unusedVariables false
set_option linter.unusedSimpArgs false

theorem docs_some {w : World} {ad : Addr} {n c i : Nat} {L : List (Value × List (Value × Ent))} {p : Value × List (Value × Ent)} (h : DocsR w (some ad) n c L) (hp : L[i]? = some p) : ∃ A' c', w.cell? (ad.add i) = some (.slice A' p.2.length c') ∧ DocR w A' p.2.length c' p.2 := by
  obtain ⟨A', c', e, hd⟩ := h.part p (List.mem_of_getElem? hp)
  have := rdv_some (f := Prod.fst) h.hdr hp
  rw [e] at this
  exact ⟨A', c', this, hd⟩
theorem docs_ad {w : World} {A : Option Addr} {n c i : Nat} {L : List (Value × List (Value × Ent))} {p : Value × List (Value × Ent)} (h : DocsR w A n c L) (hp : L[i]? = some p) : ∃ ad, A = some ad := by
  obtain ⟨ad, e, _⟩ := rdv_at (f := Prod.fst) h.hdr hp
  exact ⟨ad, e⟩
theorem okD_bad {d : List Ent} {e : Ent} (he : e ∈ d) (hf : okE e = false) : okD d = false := by
  unfold okD
  rw [Bool.and_eq_false_iff]
  refine .inr (Bool.eq_false_iff.2 fun ha => ?_)
  rw [List.all_eq_true.1 ha e he] at hf
  exact absurd hf (by decide)
theorem okDs_bad {d : List (List Ent)} {x : List Ent} (he : x ∈ d) (hf : okD x = false) : okDs d = false := by
  unfold okDs
  rw [Bool.and_eq_false_iff]
  refine .inr (Bool.eq_false_iff.2 fun ha => ?_)
  rw [List.all_eq_true.1 ha x he] at hf
  exact absurd hf (by decide)
set_option maxRecDepth 100000 in
set_option maxHeartbeats 4000000 in
theorem may_any (w : World) (A : Option Addr) (n c : Nat) (L : List (Value × List (Value × Ent))) (h : DocsR w A n c L) :
    Calls Try.prog 69 #[.slice A n c] w fun e W' => e = .returned (.bool (okDs (L.map docOf))) ∧ Fr No w W' := by
  obtain ⟨d, hd⟩ : ∃ d, L.map docOf = d := ⟨_, rfl⟩
  rw [hd]
  have HD := Aside0.mk h
  have hc := h.cap
  have hn := h.max
  have HDL := Aside0.mk (show d.length = n from by rw [← hd, List.length_map]; exact h.len)
  have HM := Aside0.mk (show ∀ (i : Nat) (p : Value × List (Value × Ent)), L[i]? = some p → d[i]? = some (docOf p) from fun i p h => by rw [← hd, List.getElem?_map, h]; rfl)
  by_cases hbig : 16384 < n
  · have HR := Aside0.mk (show okDs d = false from by
      unfold okDs
      rw [decide_eq_false (by have := HDL.out; omega)]
      rfl)
    clear h hd
    go_enter Try.func69, Try.ntmps69
    go_wp2_with fail
    go_ret
    exact ⟨by rw [HR.out]; rfl, Fr.refl _ _⟩
  have hn2 : n ≤ 16384 := by omega
  clear h hd hbig hn
  go_enter Try.func69, Try.ntmps69
  go_wp2_with fail
  go_loopw [3] (fun v3 wr => ∃ i : Nat, v3 = .int .i64 i ∧ i ≤ n ∧ Aside0 ((∀ x ∈ d.take i, okD x = true) ∧ Fr No w wr)) (fun v3 _ => n - (intOf v3).toNat)
  case atStart => exact ⟨0, rfl, by omega, ⟨by simp, Fr.refl _ _⟩⟩
  case round =>
    obtain ⟨i, rfl, hi, HF⟩ := hrel
    by_cases hlt : i < n
    · obtain ⟨p, hp⟩ := get_some' (xs := L) (i := i) (by have := HD.out.len; omega)
      obtain ⟨ad, eA⟩ := docs_ad HD.out hp
      subst eA
      obtain ⟨Ai, ci, he, hdoc⟩ := HD.out.part p (List.mem_of_getElem? hp)
      obtain ⟨m, hm⟩ : ∃ k, p.2.length = k := ⟨_, rfl⟩
      rw [hm] at he hdoc
      have HCE := Aside0.mk (show ∀ W : World, Fr No w W → W.cell? (ad.add i) = some (.slice Ai m ci) from fun W hW => by
        have := rdv_some (f := Prod.fst) (HD.out.below hW.no).hdr hp
        rwa [he] at this)
      have HDC := Aside0.mk (show ∀ W : World, Fr No w W → DocR W Ai m ci p.2 from fun W hW => hdoc.below hW.no)
      have hcell := HCE.out wr HF.out.2
      have HX := Aside0.mk (HM.out i p hp)
      have HP := Aside0.mk hp
      have hcap := hdoc.cap
      have hmax := hdoc.max
      have HXL := Aside0.mk (show (docOf p).length = m from by unfold docOf; rw [List.length_map]; exact hm)
      have HMM := Aside0.mk hm
      clear hp hdoc hm he
      by_cases hb : 64 < m
      · have HR := Aside0.mk (okDs_bad (List.mem_of_getElem? HX.out) (show okD (docOf p) = false from by unfold okD; rw [decide_eq_false (by have := HXL.out; omega)]; rfl))
        go_wp2_with fail
        go_ret
        exact ⟨by rw [HR.out]; rfl, HF.out.2⟩
      have hm64 : m ≤ 64 := by omega
      clear hb
      go_wp2_with fail
      go_loopw [4] (fun v4 wr => ∃ j : Nat, v4 = .int .i64 j ∧ j ≤ m ∧ Aside0 ((∀ e ∈ (docOf p).take j, okE e = true) ∧ Fr No w wr)) (fun v4 _ => m - (intOf v4).toNat)
      case atStart => exact ⟨0, rfl, by omega, ⟨by simp, HF.out.2⟩⟩
      case round =>
        obtain ⟨j, rfl, hj, HS⟩ := hrel
        have hcell := HCE.out wr HS.out.2
        by_cases hlt2 : j < m
        · obtain ⟨⟨pv, f, t, ns⟩, hq⟩ := get_some' (xs := p.2) (i := j) (by have := HMM.out; omega)
          have hdoc := HDC.out wr HS.out.2
          obtain ⟨a2, e2, hc0, hc1, hc2⟩ := ent_at hdoc.hdr hq
          subst e2
          obtain ⟨Aj, cj, ej, hcj, _, _, hnm, hfm, htm⟩ := hdoc.part _ (List.mem_of_getElem? hq)
          obtain rfl : pv = .slice Aj ns.length cj := ej
          simp only at hc0 hc1 hc2 hcj hnm hfm htm
          obtain ⟨nn, hnn⟩ : ∃ k, ns.length = k := ⟨_, rfl⟩
          rw [hnn] at hcj hnm hc2
          have HE := Aside0.mk (show (docOf p)[j]? = some (Ent.mk f t ns) from by unfold docOf; rw [List.getElem?_map, hq]; rfl)
          have HBAD := Aside0.mk (show okE (Ent.mk f t ns) = false → okDs d = false from fun h => okDs_bad (List.mem_of_getElem? HX.out) (okD_bad (List.mem_of_getElem? HE.out) h))
          clear hq hdoc
          by_cases hbf : 24 < f.size
          · have HR := Aside0.mk (HBAD.out (Bool.eq_false_iff.2 fun h => by have h1 : f.size ≤ 24 := (okE_iff.1 h).1; omega))
            go_wp2_with fail
            go_ret
            exact ⟨by rw [HR.out]; rfl, HS.out.2.trans (Fr.alloc wr _) (fun _ _ h => h) (fun _ _ h => h)⟩
          by_cases hbt : 4096 < t.size
          · have HR := Aside0.mk (HBAD.out (Bool.eq_false_iff.2 fun h => by have h1 : t.size ≤ 4096 := (okE_iff.1 h).2.1; omega))
            go_wp2_with fail
            go_ret
            exact ⟨by rw [HR.out]; rfl, HS.out.2.trans (Fr.alloc wr _) (fun _ _ h => h) (fun _ _ h => h)⟩
          by_cases hbn : 4 < nn
          · have HR := Aside0.mk (HBAD.out (Bool.eq_false_iff.2 fun h => by have h1 : ns.length ≤ 4 := (okE_iff.1 h).2.2; omega))
            go_wp2_with fail
            go_ret
            exact ⟨by rw [HR.out]; rfl, HS.out.2.trans (Fr.alloc wr _) (fun _ _ h => h) (fun _ _ h => h)⟩
          have HOK := Aside0.mk (show okE ⟨f, t, ns⟩ = true from okE_iff.2 ⟨by show f.size ≤ 24; omega, by show t.size ≤ 4096; omega, by show ns.length ≤ 4; omega⟩)
          go_wp2_with fail
          go_roundw
          case rel => exact ⟨j + 1, by simp, by omega, ⟨fun e he => by
            rw [List.take_add_one, HE.out] at he
            rcases List.mem_append.1 he with he | he
            · exact HS.out.1 e he
            · have : e = ⟨f, t, ns⟩ := by simpa using he
              rw [this]
              exact HOK.out, HS.out.2.trans (Fr.alloc wr _) (fun _ _ h => h) (fun _ _ h => h)⟩⟩
          case measure => simp [intOf]; omega
        · obtain rfl : m = j := by omega
          have HOK := Aside0.mk (show okD (docOf p) = true from by
            unfold okD
            rw [Bool.and_eq_true, decide_eq_true_eq, List.all_eq_true]
            have h := HS.out.1
            exact ⟨by rw [HXL.out]; omega, fun e he => h e (by rw [List.take_of_length_le (by have := HXL.out; omega)]; exact he)⟩)
          go_wp2_with fail
          go_roundw
          case rel => exact ⟨i + 1, by simp, by omega, ⟨fun e he => by
            rw [List.take_add_one, HX.out] at he
            rcases List.mem_append.1 he with he | he
            · exact HF.out.1 e he
            · have : e = docOf p := by simpa using he
              rw [this]
              exact HOK.out, HS.out.2⟩⟩
          case measure => simp [intOf]; omega
    · obtain rfl : n = i := by omega
      have HE := Aside0.mk (show okDs d = true from by
        unfold okDs
        rw [Bool.and_eq_true, decide_eq_true_eq, List.all_eq_true]
        have h := HF.out.1
        exact ⟨by rw [HDL.out]; omega, fun e he => h e (by rw [List.take_of_length_le (by have := HDL.out; omega)]; exact he)⟩)
      go_wp2_with fail
      go_ret
      exact ⟨by rw [HE.out]; rfl, HF.out.2⟩
end Go.Proofs.Ytchcimkmjoegdaa.C
