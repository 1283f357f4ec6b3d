/- The iterator over a chunk's documents (112). Conditions: as the theorem states. | The law of a range over a chunk's documents. Conditions: as the theorem states. | Open's deferred closure (85): it takes back corrupt, and nothing else. Conditions: as each theorem states. | Open's state: what is read (pure), what lies in memory, how Open is left. Conditions: as each theorem states. (Several texts of mine laid into one by prune.py.) -/
import Derived.Test.YtchcimkmjoegdaaStB7
namespace Go.Proofs.Ytchcimkmjoegdaa.C
open Go.RowKit Go.Proofs.YtchcimkmjoegdaaW.PrintWords Go.Proofs.YtchcimkmjoegdaaW.PrintMore Go.Proofs.Ytchcimkmjoegdaa.M
set_option linter.unusedVariables false
set_option linter.unusedSimpArgs false
attribute [local go_sem] Oper.semAt_some

set_option maxRecDepth 100000 in
set_option maxHeartbeats 4000000 in
theorem iter_any (n l gb : Nat) (w : World) (f t nb c : Nat) (A : Option Addr) (b : List Int) (J Jx : List (Value × List (Value × Ent)) → World → Prop)
    (hbox : w.heap[gb]? = some (.cells #[.int .i64 (f : Int), .int .i64 (t : Int), .slice A nb c] 118 (0, 0)))
    (hr : RdV w A (nums .u8 b)) (hl : b.length = nb) (hb : Byt b) (h0 : A = none → c = 0) (hc : nb ≤ c) (hn : nb ≤ 140737488355328) (hft : f ≤ t) (ht : t ≤ 16384)
    (hJ : ∀ pre, Abd w.heap.size (J pre))
    (hY : ∀ (pre : List (Value × List (Value × Ent))) (x : Value × List (Value × Ent)) (W : World), pre.length < t - f → w.heap.size ≤ W.heap.size → J pre W → DocW W w.heap.size x.1 x.2 → okD (docOf x) = true → (∀ e ∈ docOf x, I64 e.ns) →
      YieldAt Fence.wide n Try.prog l #[.int .i64 ((f : Int) + (pre.length : Int)), x.1] W fun e W' => (e = .returned (.bool true) ∧ J (pre ++ [x]) W' ∧ Kp W W') ∨ (e = .returned (.bool false) ∧ Jx (pre ++ [x]) W'))
    (hj : J [] w) :
    CallsIn Fence.wide n Try.prog 112 #[.func (.yield l) #[] #[], .pointer (some ⟨gb, 0, none⟩)] w fun e W' =>
      (e = .returned (.tuple #[]) ∧ ∃ D, chunkO b (t - f) = some (D.map docOf) ∧ J D W') ∨
      (e = .returned (.tuple #[]) ∧ ∃ pre j, docsO b pre.length 0 = some (pre.map docOf, j) ∧ Jx pre W') ∨
      (e = .panicked [corruptP] ∧ chunkO b (t - f) = none ∧ ∃ pre, J pre W') := by
  refine callsIn_wide.2 ?_
  have hc2 : w.cell? ⟨gb, 2, none⟩ = some (.slice A nb c) := by simp [World.cell?, hbox]
  have hc1 : w.cell? ⟨gb, 1, none⟩ = some (.int .i64 (t : Int)) := by simp [World.cell?, hbox]
  have hc0 : w.cell? ⟨gb, 0, none⟩ = some (.int .i64 (f : Int)) := by simp [World.cell?, hbox]
  have HBX := Aside0.mk hbox
  have HNR := Aside0.mk (NewReader_any w A nb c b hr hl h0 hc hn)
  have HY := Aside0.mk hY
  have HJ := Aside0.mk hJ
  have HJ0 := Aside0.mk hj
  have HB := Aside0.mk hb
  clear hbox hr hl h0 hc hn hY hJ hj hb
  go_enter Try.func112, Try.ntmps112
  go_wp2_with (first | (go_at_call 18; go_must (refine HNR.out.mono ?_; rintro e' w1 ⟨g, rfl, q1, q2⟩; have Q1 := Aside0.mk q1; have F1 := Aside0.mk q2; have k0 := pw_cell_below q2.no hc0; have k1 := pw_cell_below q2.no hc1; clear q1 q2)))
  go_loopw [4] (fun v4 wr => ∃ (pre : List (Value × List (Value × Ent))) (i : Nat), v4 = .int .i64 ((f : Int) + pre.length) ∧ pre.length ≤ t - f ∧ Aside0 (DocS w wr g b (t - f) J pre i ∧ wr.heap[gb]? = some (.cells #[.int .i64 (f : Int), .int .i64 (t : Int), .slice A nb c] 118 (0, 0)))) (fun v4 _ => t - (intOf v4).toNat)
  case atStart => exact ⟨[], 0, by simp, by simp, ⟨⟨(HJ.out []).no HJ0.out (Nat.le_refl _) F1.out, Q1.out, rfl, by simp, F1.out.size⟩, F1.out.get HBX.out (fun h => h)⟩⟩
  case round =>
    obtain ⟨pre, i, rfl, hp, HD⟩ := hrel
    have kr : wr.cell? ⟨gb, 1, none⟩ = some (.int .i64 (t : Int)) := by simp [World.cell?, HD.out.2]
    by_cases hlt : pre.length < t - f
    · have hlt2 : (f : Int) + pre.length < t := by omega
      have HSZ := Aside0.mk (Size_any wr w.heap.size g i b 0 64 HD.out.1.rd HB.out (by decide))
      obtain ⟨N, i1, e1, hS⟩ : ∃ N i1 e1, rS b i 0 64 = (N, i1, e1) := ⟨_, _, _, rfl⟩
      have HS := Aside0.mk hS
      have hN : N ≤ 64 := by have := rS_max (ys := b) (i := i) (e := 0) (m := 64) (by decide); rw [hS] at this; omega
      rw [hS] at HSZ
      by_cases he1 : e1 = 0
      · subst he1
        clear hS
        go_wp2_with (first | (go_at_call 53; go_must (refine HSZ.out.mono ?_; rintro e' w2 ⟨rfl, q1, q2⟩; have Q2 := Aside0.mk q1; have F2 := Aside0.mk q2; clear q1 q2)))
        obtain ⟨wo, rfl⟩ : ∃ wo : World, wo = wr := ⟨_, rfl⟩
        go_loopw [5, 6] (fun v5 v6 wr => ∃ (m : Nat) (D : List (Value × Ent)) (ii : Nat), v6 = .int .i64 m ∧ m ≤ 64 ∧ Aside0 (EntS wo wr w.heap.size g b N i1 m v5 D ii)) (fun _ v6 _ => (intOf v6).toNat)
        case atStart => exact ⟨N, [], i1, rfl, hN, ⟨F2.out, Q2.out, DocW.nil _ _, by simp, by simp⟩⟩
        case round =>
          obtain ⟨m, D, ii, rfl, hm, HE⟩ := hrel
          cases m with
          | zero => 
            have HO := Aside0.mk (docO_of HS.out HE.out)
            have HFI := Aside0.mk (docO_fine HO.out)
            have HJW := Aside0.mk ((HJ.out pre).rd HD.out.1.j HD.out.1.rd (Nat.le_refl _) HE.out.fr)
            obtain ⟨fn, tmps, assign, body, hy, hR⟩ := HY.out pre (u5, D) wr hlt (Nat.le_trans HD.out.1.size HE.out.fr.size) HJW.out (HE.out.doc.lower HD.out.1.size) HFI.out.1 HFI.out.2
            have HR := Aside0.mk hR
            clear hR
            go_wp2_with fail
            go_at_call 86
            refine (good_ok wr w.heap.size g ii b HE.out.rd).mono ?_
            rintro e' wz ⟨rfl, rfl⟩
            dsimp only
            iterate 4 go_step
            refine (wpIn_wide (n := n + 1)).1 ?_
            gi_wp2
            refine HR.out.mono ?_
            rintro e W3 (⟨rfl, hJ3, hk3⟩ | ⟨rfl, hJx3⟩)
            · have J3 := Aside0.mk hJ3
              have K3 := Aside0.mk hk3
              clear hJ3 hk3
              gi_wp2
              go_wp2_with fail
              go_roundw
              case rel => exact ⟨pre ++ [(u5, D)], ii, by rw [List.length_append]; simp; omega, by rw [List.length_append]; simp; omega, ⟨HD.out.1.next hlt HO.out J3.out (HE.out.rd.kp K3.out) (Nat.le_trans HD.out.1.size (Nat.le_trans HE.out.fr.size K3.out.1)), K3.out.2 _ _ _ _ (.inr (.inr rfl)) (box_kept HD.out.2 HD.out.1.rd HE.out.fr)⟩⟩
              case measure => simp [intOf]; omega
            · have J3 := Aside0.mk hJx3
              clear hJx3
              gi_wp2
              go_wp2_with fail
              refine bodyPost_ret (results_none rfl _ _ _) rfl ?_
              exact .inr (.inl ⟨rfl, pre ++ [(u5, D)], ii, HD.out.1.stop HO.out, J3.out⟩)
          | succ m =>
            obtain ⟨Ad, cd, ed, hcd⟩ := HE.out.doc.hdr.shape
            subst ed
            obtain ⟨nd, hnd⟩ : ∃ nd, D.length = nd := ⟨_, rfl⟩
            have HND := Aside0.mk hnd
            have HDB := Aside0.mk (doc_bound (n := nd) (by have := HE.out.len; omega))
            rw [hnd] at hcd
            have HE1 := Aside0.mk (show EntS wo wr w.heap.size g b N i1 (m + 1) (.slice Ad nd cd) D ii from by have h := HE.out; rwa [hnd] at h)
            rw [hnd]
            clear HE hnd
            have HT1 := Aside0.mk (Text_any wr w.heap.size g ii b 0 24 HE1.out.rd HB.out (by decide))
            generalize hT1 : rT b ii 0 24 = T1 at HT1
            obtain ⟨s1, i2, e2⟩ := T1
            have HT2 := Aside0.mk (fun (W : World) (h : Rdr W w.heap.size g b i2 e2) => Text_any W w.heap.size g i2 b e2 4096 h HB.out (by decide))
            generalize hT2 : rT b i2 e2 4096 = T2 at HT2
            obtain ⟨s2, i3, e3⟩ := T2
            have HT3 := Aside0.mk (fun (W : World) (h : Rdr W w.heap.size g b i3 e3) => Size_any W w.heap.size g i3 b e3 4 h HB.out (by decide))
            have hK4 := rS_max (ys := b) (i := i3) (e := e3) (m := 4) (by decide)
            generalize hT3 : rS b i3 e3 4 = T3 at HT3 hK4
            obtain ⟨K, i4, e4⟩ := T3
            have hK : K ≤ 4 := by simp only at hK4; omega
            have HT := Aside0.mk (And.intro hT1 (And.intro hT2 hT3))
            clear hT1 hT2 hT3 hK4
            go_wp2_with (first | (go_at_call 53; go_must (refine (HT3.out _ (R4.out.below (below_alloc (Below.refl _ _) _))).mono ?_; rintro e' w5 ⟨rfl, q1, q2⟩; have R5 := Aside0.mk q1; have F5 := Aside0.mk q2; clear q1 q2)) | (go_at_call_of 34 (4096 : Int); go_must (refine (HT2.out _ R3.out).mono ?_; rintro e' w4 ⟨rfl, q1, q2⟩; have R4 := Aside0.mk q1; have F4 := Aside0.mk q2; clear q1 q2)) | (go_at_call 34; go_must (refine HT1.out.mono ?_; rintro e' w3 ⟨rfl, q1, q2⟩; have R3 := Aside0.mk q1; have F3 := Aside0.mk q2; clear q1 q2)))
            obtain ⟨bx, hbx⟩ : ∃ bx, bx = w4.heap.size := ⟨_, rfl⟩
            have HN0 := Aside0.mk (EntS.start (K := K) HE1.out (F3.out.trans F4.out (fun _ _ h => h) (fun _ _ h => h)) hbx F5.out R5.out)
            rw [← hbx]
            clear hbx
            obtain ⟨wq, rfl⟩ : ∃ wq : World, wq = wr := ⟨_, rfl⟩
            go_loopw [8] (fun v8 wr => ∃ (k : Nat) (u : Value) (ns : List Int) (j : Nat) (e : Int), v8 = .int .i64 k ∧ k ≤ 4 ∧ Aside0 (NumS wq wr w.heap.size g b K (i4, e4) bx (strOfNums s1) (strOfNums s2) k u ns j e)) (fun v8 _ => (intOf v8).toNat)
            case atStart => exact ⟨K, .slice none 0 0, [], i4, e4, rfl, hK, HN0⟩
            case round =>
              obtain ⟨k, u, ns, j, e, rfl, hk, HN⟩ := hrel
              obtain ⟨Au, cu, eu, hcu⟩ := HN.out.row.shape
              subst eu
              obtain ⟨nn, hnn⟩ : ∃ nn, ns.length = nn := ⟨_, rfl⟩
              have HNN := Aside0.mk hnn
              rw [hnn] at hcu
              have HN1 := Aside0.mk (show NumS wq wr w.heap.size g b K (i4, e4) bx (strOfNums s1) (strOfNums s2) k (.slice Au nn cu) ns j e from by have h := HN.out; rwa [hnn] at h)
              clear HN hnn
              cases k with
              | zero =>
                by_cases he : e = 0
                · subst he
                  obtain ⟨b0, b1, b2, _⟩ := HN1.out.cells
                  have HNB := Aside0.mk (Nat.le_trans HE1.out.fr.size HN1.out.fr.size)
                  go_wp2_with (first | ((with_reducible refine gate_builtin (b := .append) (xs := #[.tmp 46, .tmp 48]) rfl ?_); at_builtin; go_must (refine wpl_append1 wr wo.heap.size rfl (.tmp 46) (.tmp 48) 52 134 (.agg #[.string ByteArray.empty, .string ByteArray.empty, .slice none 0 0]) 3 56 rfl Try.underlying52 info134 rfl (.slice Ad nd cd) nd (D.flatMap entCells) [.string (strOfNums s1), .string (strOfNums s2), .slice Au nn cu] rfl rfl (by have h := (EntS.at_ HE1.out HN1.out).hdr; rwa [HND.out] at h) rfl (by simp [Value.oneCell']) HNB.out HDB.out.1 HDB.out.2 ?_; intro v2 w2 g1 _ g3 _; have G1 := Aside0.mk g1; have G3 := Aside0.mk g3; clear g1 g3)) | (go_at_call 86; go_must (refine (good_ok wr w.heap.size g j b HN1.out.rd).mono ?_; rintro e' wz ⟨rfl, hz⟩; have hz' := hz.symm; subst hz')))
                  go_roundw
                  case rel => exact ⟨m, D ++ [(.slice Au nn cu, ⟨strOfNums s1, strOfNums s2, ns⟩)], j, by simp, by omega, ⟨EntS.step HE1.out HN1.out (entR_eq HT.out.1 HT.out.2.1 HT.out.2.2 HN1.out.last) (by rw [HND.out]; exact G1.out) G3.out⟩⟩
                  case measure => simp [intOf]
                · go_wp2_with (first | (go_at_call 86; go_must (refine (good_err wr w.heap.size g j b e he true HN1.out.rd).mono ?_; rintro e' wz ⟨rfl, hz⟩; have hz' := hz.symm; subst hz')))
                  exact ⟨rfl, .inr (.inr ⟨rfl, HD.out.1.bad hlt (docO_none2 HS.out (HE1.out.bad (entR_eq HT.out.1 HT.out.2.1 HT.out.2.2 HN1.out.last) he)), pre, (HJ.out pre).rd HD.out.1.j HD.out.1.rd (Nat.le_refl _) (HE1.out.fr.trans HN1.out.fr (fun _ _ h => h) (fun _ _ h => h))⟩)⟩
              | succ k =>
                have HN2 := Aside0.mk (HN1.out.no (W1 := wr.drew) (Fr.of_No (below_drew (Below.refl _ _))))
                have HIB := Aside0.mk (nums_bound (n := nn) (by have := HN1.out.len; have := HNN.out; omega))
                obtain ⟨b2, b2f⟩ := boxc HN1.out.box
                go_wp2_with fail
                go_region_law (first | (refine step_append (w6.alloc (.cells #[.int .i64 (unzig (rU b j e).1)] 2)) wq.heap.size rfl (.tmp 38) (.tmp 41) 45 45 2 (.int .i64 0) 1 8 (.slice 2) rfl Try.underlying45 Try.underlying45 (.inl ⟨_, rfl⟩) info2 rfl (.slice Au nn cu) nn (nums .i64 ns) (.slice (some ⟨w6.heap.size, 0, none⟩) 1 1) 1 [.int .i64 (unzig (rU b j e).1)] rfl rfl HW6.out (src_one w6 2 _ rfl) HZ6.out HIB.out.1 HIB.out.2 ?_; intro v7 w7 g1 _ g3 _; obtain ⟨A7, c7, e7, _⟩ := Win.shape g1; subst e7; have h7 := boxc (HN2.out.box2 F6.out ((Fr.alloc (S := At (.slice Au nn cu)) w6 _).trans g3 (fun _ _ h => h) (fun _ _ h => h))); obtain ⟨k7, k7f⟩ := h7; have NS := Aside0.mk (NumS.step HN2.out F6.out R6.out (u1 := .slice A7 (nn + 1) c7) (by rw [HNN.out]; exact g1) ((Fr.alloc (S := At (.slice Au nn cu)) w6 _).trans g3 (fun _ _ h => h) (fun _ _ h => h))); clear g1 g3) | (go_simp; go_at_call 21; refine (Int_any wr.drew w.heap.size g j b e HN2.out.rd HB.out).mono ?_; rintro e' w6 ⟨rfl, q1, q2⟩; have R6 := Aside0.mk q1; have F6 := Aside0.mk q2; obtain ⟨h6, h6f⟩ := boxc (HN2.out.box1 q2); obtain ⟨h6a, h6b⟩ := boxc ((Fr.alloc (S := No) w6 (.cells #[.int .i64 (unzig (rU b j e).1)] 2)).get (HN2.out.box1 q2) (fun h => h)); have HW6 := Aside0.mk (show Win (w6.alloc (.cells #[.int .i64 (unzig (rU b j e).1)] 2)) wq.heap.size 2 1 (.slice Au nn cu) nn (nums .i64 ns) from by have h := (HN2.out.row1 q2).below (below_alloc (Below.refl _ _) (.cells #[.int .i64 (unzig (rU b j e).1)] 2)); rwa [HNN.out] at h); have HZ6 := Aside0.mk (show wq.heap.size ≤ (w6.alloc (.cells #[.int .i64 (unzig (rU b j e).1)] 2)).heap.size from by have h1 := HN2.out.fr.size; have h2 := q2.size; simp; omega); clear q1 q2))
                all_goals
                  go_wp2_with fail
                  go_roundw
                  case rel => exact ⟨k, _, _, _, _, by simp, by omega, NS⟩
                  case measure => simp [intOf]
      · have HN := Aside0.mk (HD.out.1.bad hlt (docO_none hS he1))
        have hN0 : N = 0 := by
          unfold rS at hS
          simp only [if_true] at hS
          split at hS
          · injection hS with h1 _; exact h1.symm
          · split at hS
            · injection hS with _ h2; injection h2 with _ h2; exact absurd h2.symm he1
            · injection hS with h1 _; exact h1.symm
        subst hN0
        clear hS
        go_wp2_with (first | (go_at_call 53; go_must (refine HSZ.out.mono ?_; rintro e' w2 ⟨rfl, q1, q2⟩; have Q2 := Aside0.mk q1; have F2 := Aside0.mk q2; clear q1 q2)))
        refine wp_loop_once ?_
        go_wp2_with (first | (go_at_call 86; go_must (refine (good_err w2 w.heap.size g i1 b e1 he1 true Q2.out).mono ?_; rintro e' wz ⟨rfl, hz⟩; have hz' := hz.symm; subst hz')))
        exact ⟨rfl, .inr (.inr ⟨rfl, HN.out, pre, (HJ.out pre).rd HD.out.1.j HD.out.1.rd (Nat.le_refl _) F2.out⟩)⟩
    · have hpe : pre.length = t - f := by omega
      have hlt2 : ¬ ((f : Int) + pre.length < t) := by omega
      have HDN := Aside0.mk (HD.out.1.done hpe)
      by_cases hi : i = b.length
      · have hz : ((b.length : Int) - i == 0) = true := by rw [hi]; simp
        have HC := Aside0.mk (show chunkO b (t - f) = some (pre.map docOf) from by rw [HDN.out, if_pos hi])
        clear HDN hi
        go_wp2_with (first | (go_at_call 86; go_must (refine (good_ok _ w.heap.size g i b (HD.out.1.rd.drewN nm)).mono ?_; rintro e' wz ⟨rfl, hz⟩; have hz' := hz.symm; subst hz')) | (go_at_call 20; go_must (refine (Left_any wr w.heap.size g i b 0 HD.out.1.rd).mono ?_; rintro e' _ ⟨rfl, nm, rfl⟩)))
        go_end0
        exact .inl ⟨rfl, pre, HC.out, (HJ.out pre).rd HD.out.1.j HD.out.1.rd (Nat.le_refl _) (Fr.drewN wr nm)⟩
      · have hz : ((b.length : Int) - i == 0) = false := by simp; omega
        have HC := Aside0.mk (show chunkO b (t - f) = none from by rw [HDN.out, if_neg hi])
        clear HDN hi
        go_wp2_with (first | (go_at_call 86; go_must (refine (good_not _ w.heap.size g i b (HD.out.1.rd.drewN nm)).mono ?_; rintro e' wz ⟨rfl, hz⟩; have hz' := hz.symm; subst hz')) | (go_at_call 20; go_must (refine (Left_any wr w.heap.size g i b 0 HD.out.1.rd).mono ?_; rintro e' _ ⟨rfl, nm, rfl⟩)))
        exact ⟨rfl, .inr (.inr ⟨rfl, HC.out, pre, (HJ.out pre).rd HD.out.1.j HD.out.1.rd (Nat.le_refl _) (Fr.drewN wr nm)⟩)⟩
end Go.Proofs.Ytchcimkmjoegdaa.C
namespace Go.Proofs.Ytchcimkmjoegdaa.C
open Go.RowKit Go.Proofs.YtchcimkmjoegdaaW.PrintWords Go.Proofs.YtchcimkmjoegdaaW.PrintMore Go.Proofs.Ytchcimkmjoegdaa.M
set_option linter.unusedVariables false
set_option linter.unusedSimpArgs false

/-- The mark of a loop on the activation's deferred calls. -/
abbrev mkD (D : Nat) : Deferred := { target := .collected D, args := #[] }
/-- How a round's body may be left. -/
def rPost (I Ix : World → Prop) (W : World) : Exit → Act → World → Prop
  | .normal, _, W' => KeepsOthers W W' ∧ Kp W W' ∧ I W'
  | .ret, _, W' => KeepsOthers W W' ∧ Ix W'
  | .exit _, _, _ => False
  | .goto _, _, _ => False
  | .panic _, _, _ => False
  | .outgrown, _, _ => False
theorem DocW.put {W : World} {B l : Nat} {v : Value} {D : List (Value × Ent)} {o : Obj} (o' : Obj) (h : DocW W B v D) (hl : W.heap[l]? = some o) (ho : o.isCells = false) : DocW (W.putObj l o') B v D := by
  have hmv : ∀ {e size n : Nat} {x : Value} {xs : List Value}, Win W B e size x n xs → Win (W.putObj l o') B e size x n xs := fun hx => hx.move fun k hk _ => by
    obtain ⟨_, _, cur, hc⟩ := hx.at_ hk
    refine World.putObj_heap_other (fun e => ?_)
    subst e
    rw [hl] at hc
    cases hc
    cases ho
  exact ⟨hmv h.hdr, fun p hp => hmv (h.part p hp), h.sep⟩
theorem DocW.drop {W : World} {B l : Nat} {v : Value} {D : List (Value × Ent)} (h : DocW W B v D) {B' : Nat} (hb : B' ≤ B) : DocW W B' v D := h.lower hb

/-- 'for i, d := range c.docs() { .. }': the rounds hand on 'I'; a round may leave by 'return' ('Ix'); or the iterator panics. -/
theorem wp_rangeDocs {g : Operand} {p0 p1 : Tmp} {assign body : Code} {Q : Exit → Act → World → Prop} {a : Act} {w : World} {gb f t nb c : Nat} {A : Option Addr} {b : List Int}
    (hg : a.eval g = .func (.func 112) #[] #[.pointer (some ⟨gb, 0, none⟩)])
    (hbox : w.heap[gb]? = some (.cells #[.int .i64 (f : Int), .int .i64 (t : Int), .slice A nb c] 118 (0, 0)))
    (hr : RdV w A (nums .u8 b)) (hl : b.length = nb) (hb : Byt b) (h0 : A = none → c = 0) (hc : nb ≤ c) (hn : nb ≤ 140737488355328) (hft : f ≤ t) (ht : t ≤ 16384)
    (I Ix : List (Value × List (Value × Ent)) → World → Prop) (hI : ∀ pre, Abd w.heap.size (I pre)) (hIx : ∀ pre, Abd w.heap.size (Ix pre)) (hi : I [] w) (a1 : Value → Value → Act)
    (hassign : ∀ (l : Nat) (x y : Value) (W : World) (K : Act → World → Prop), K (a1 x y) W →
      assign.wpIn (Fence.wide.inRound l) 0 Try.prog (Exit.then K (fun _ _ _ => False)) { tmps := (a.tmps.setIfInBounds p0 x).setIfInBounds p1 y, defers := [] } W)
    (hbody : ∀ (l : Nat) (pre : List (Value × List (Value × Ent))) (x : Value × List (Value × Ent)) (W : World), pre.length < t - f → w.heap.size ≤ W.heap.size → I pre W → DocW W w.heap.size x.1 x.2 → okD (docOf x) = true → (∀ e ∈ docOf x, I64 e.ns) →
      body.wpIn (Fence.wide.inRound l) 0 Try.prog (rPost (I (pre ++ [x])) (Ix (pre ++ [x])) W) (a1 (.int .i64 ((f : Int) + (pre.length : Int))) x.1) W)
    (hdone : ∀ (D : Nat) (dl : List (Value × List (Value × Ent))) (W : World), w.heap.size ≤ D → W.heap[D]? = some (.deferred (some [])) → chunkO b (t - f) = some (dl.map docOf) → I dl W → Q .normal { a with defers := mkD D :: a.defers } W)
    (hstop : ∀ (D : Nat) (pre : List (Value × List (Value × Ent))) (j : Nat) (W : World), w.heap.size ≤ D → W.heap[D]? = some (.deferred (some [])) → docsO b pre.length 0 = some (pre.map docOf, j) → Ix pre W → Q .ret { a with defers := mkD D :: a.defers } W)
    (hpanic : ∀ (D : Nat) (pre : List (Value × List (Value × Ent))) (W : World), w.heap.size ≤ D → W.heap[D]? = some (.deferred (some [])) → chunkO b (t - f) = none → I pre W → Q (.panic [corruptP]) { a with defers := mkD D :: a.defers } W) :
    (Code.rangeFunc g #[p0, p1] assign body).wp Try.prog Q a w := by
  refine (wpIn_wide (n := 0)).1 (wpIn_rangeFunc ?_)
  intro fn hfn
  obtain ⟨rec, hrec⟩ : ∃ rec : LoopState → Option Code → Loop, rec = fun st pe => { state := st, pending := pe, fn, tmps := a.tmps, params := #[p0, p1], assign, body, defers := w.heap.size } := ⟨_, rfl⟩
  obtain ⟨W1, hW1⟩ : ∃ W1, (w.alloc (.deferred (some []))).alloc (.loop (rec .ready none)) = W1 := ⟨_, rfl⟩
  have hsz : W1.heap.size = w.heap.size + 2 := by rw [← hW1]; simp
  have hf1 : Fr No w W1 := by rw [← hW1]; exact Fr.of_No (accAlloc (accAlloc (Below.refl _ _) (Nat.le_refl _) _) (Nat.le_refl _) _)
  have hL1 : W1.heap[w.heap.size + 1]? = some (.loop (rec .ready none)) := by
    rw [← hW1]; have := World.alloc_heap_new (w.alloc (.deferred (some []))) (.loop (rec .ready none)); rwa [World.size_alloc] at this
  have hK1 : W1.heap[w.heap.size]? = some (.deferred (some [])) := by
    rw [← hW1]; exact (Below.heap_alloc _ _ _ (by simp)).trans (World.alloc_heap_new w _)
  have hI1 : I [] W1 := (hI []).no hi (Nat.le_refl _) hf1
  refine ⟨w.heap.size + 1, [{ target := .collected w.heap.size, args := #[] }], W1, { target := .fn (.func 112) #[.pointer (some ⟨gb, 0, none⟩)], args := #[.func (.yield (w.heap.size + 1)) #[] #[]] }, W1, 112,
    #[.func (.yield (w.heap.size + 1)) #[] #[]] ++ #[.pointer (some ⟨gb, 0, none⟩)], W1, ?_, ?_, ?_, ?_, fun h => by simp [Fence.wide] at h, ?_⟩
  · rw [← hW1, hrec]; exact run_enterLoop_outer _ _ _ _ _
  · simp only [resolve, hg]
    simp [go_sem]
  · intro f' hf'; trivial
  · have eg := enters_of Try.func112 (by kernel_rfl) rfl
    simp [invoke, go_sem, eg]
  · refine (iter_any 0 (w.heap.size + 1) gb W1 f t nb c A b
      (fun pre W => I pre W ∧ W.heap[w.heap.size + 1]? = some (.loop (rec .ready none)) ∧ W.heap[w.heap.size]? = some (.deferred (some [])))
      (fun pre W => Ix pre W ∧ W.heap[w.heap.size + 1]? = some (.loop (rec .done (some .ret))) ∧ W.heap[w.heap.size]? = some (.deferred (some [])))
      (hf1.get hbox (fun h => h)) (hr.below hf1.no) hl hb h0 hc hn hft ht
      (fun pre X Y x hs hB hx hf => ⟨hI pre X Y x hs.1 (by omega) hx hf, hf.get hs.2.1 (fun e => by have e' : w.heap.size + 1 = x := e; omega), hf.get hs.2.2 (fun e => by have e' : w.heap.size = x := e; omega)⟩)
      ?_ ⟨hI1, hL1, hK1⟩).mono ?_
    · rintro pre x W hlen hsW ⟨hi, hl, hk⟩ hx hok h64
      have hlt : w.heap.size + 1 < W.heap.size := (Array.getElem?_eq_some_iff.1 hl).1
      have hy := run_yield (P := Try.prog) (args := #[.int .i64 ((f : Int) + (pre.length : Int)), x.1]) hl (by rw [hrec]; rfl)
      rw [hrec] at hy
      refine ⟨fn, (a.tmps.setIfInBounds p0 (.int .i64 ((f : Int) + (pre.length : Int)))).setIfInBounds p1 x.1, assign, body, by simpa using hy, roundIn_of_wpIn hfn ?_⟩
      clear hy
      refine hassign (w.heap.size + 1) (.int .i64 ((f : Int) + (pre.length : Int))) x.1 W _ ?_
      refine ⟨_, run_beginRound hl (by rw [hrec]), ?_⟩
      have hl2 : (W.putObj (w.heap.size + 1) (.loop { rec .ready none with state := .busy })).heap[w.heap.size + 1]? = some (.loop { rec .ready none with state := .busy }) := World.putObj_heap_same hlt
      have hk2 : (W.putObj (w.heap.size + 1) (.loop { rec .ready none with state := .busy })).heap[w.heap.size]? = some (.deferred (some [])) := (World.putObj_heap_other (by omega)).trans hk
      have hw2 : Kp W (W.putObj (w.heap.size + 1) (.loop { rec .ready none with state := .busy })) := Kp.put _ hl rfl
      refine wpIn_mono (hbody _ pre x _ hlen (by simp; omega) ((hI pre).put _ hi (by omega) hl rfl) ((hx.put _ hl rfl).lower (by omega)) hok h64) ?_
      have fin : ∀ (jump : Option Code) (W3 : World), KeepsOthers (W.putObj (w.heap.size + 1) (.loop { rec .ready none with state := .busy })) W3 →
          (Instr.endRound (w.heap.size + 1) jump).run Try.prog W3 = .ok (.bool jump.isNone) (W3.putObj (w.heap.size + 1) (.loop (rec (if jump.isNone then .ready else .done) jump))) ∧
          W3.heap[w.heap.size + 1]? = some (.loop { rec .ready none with state := .busy }) ∧
          (W3.putObj (w.heap.size + 1) (.loop (rec (if jump.isNone then .ready else .done) jump))).heap[w.heap.size + 1]? = some (.loop (rec (if jump.isNone then .ready else .done) jump)) ∧
          (W3.putObj (w.heap.size + 1) (.loop (rec (if jump.isNone then .ready else .done) jump))).heap[w.heap.size]? = some (.deferred (some [])) := fun jump W3 hk3 => by
        have hl3 := hk3.same _ _ hl2 rfl
        have := run_endRound (P := Try.prog) jump hl3
        rw [hrec] at this ⊢
        exact ⟨this, by rw [hrec] at hl3; exact hl3, World.putObj_heap_same (Array.getElem?_eq_some_iff.1 hl3).1, (World.putObj_heap_other (by omega)).trans (hk3.same _ _ hk2 rfl)⟩
      rintro e a3 W3 hp
      cases e with
      | normal =>
        obtain ⟨hk3, hkp3, hi3⟩ := hp
        obtain ⟨hr, hl3, hl4, hk4⟩ := fin none W3 hk3
        exact ⟨_, _, hr, .inl ⟨rfl, ⟨(hI _).put _ hi3 (by omega) hl3 rfl, hl4, hk4⟩, (hw2.trans hkp3).trans (Kp.put _ hl3 rfl)⟩⟩
      | ret =>
        obtain ⟨hk3, hi3⟩ := hp
        obtain ⟨hr, hl3, hl4, hk4⟩ := fin (some .ret) W3 hk3
        exact ⟨_, _, hr, .inr ⟨rfl, (hIx _).put _ hi3 (by omega) hl3 rfl, hl4, hk4⟩⟩
      | exit id => exact hp.elim
      | goto t => exact hp.elim
      | panic ch => exact hp.elim
      | outgrown => exact hp.elim
    · rintro e W2 (⟨rfl, dl, hS, hi, hl, hk⟩ | ⟨rfl, pre, j, hS, hi, hl, hk⟩ | ⟨rfl, hS, pre, hi, hl, hk⟩)
      · exact ⟨none, _, by have := run_endLoop (P := Try.prog) hl (by rw [hrec]; simp); rw [hrec] at this; exact this, hdone _ dl _ (Nat.le_refl _) ((World.putObj_heap_other (by omega)).trans hk) hS ((hI _).put _ hi (by omega) hl rfl)⟩
      · refine ⟨some .ret, _, by have := run_endLoop (P := Try.prog) hl (by rw [hrec]; simp); rw [hrec] at this; exact this, ?_⟩
        exact (wpIn_wide (n := 0)).2 (wp_ret (hstop _ pre j _ (Nat.le_refl _) ((World.putObj_heap_other (by omega)).trans hk) hS ((hIx _).put _ hi (by omega) hl rfl)))
      · exact hpanic _ pre _ (Nat.le_refl _) hk hS hi
end Go.Proofs.Ytchcimkmjoegdaa.C
namespace Go.Proofs.Ytchcimkmjoegdaa.C
open Go.RowKit Go.Proofs.YtchcimkmjoegdaaW.PrintWords Go.Proofs.YtchcimkmjoegdaaW.PrintMore Go.Proofs.Ytchcimkmjoegdaa.M
set_option linter.unusedVariables false
set_option linter.unusedSimpArgs false

theorem assert_corrupt (w : World) : (Instr.typeAssert (.iface 129 (.agg #[])) 20 129 true).run Try.prog w = .ok (.tuple #[.agg #[], .bool true]) w := by kernel_rfl
theorem assert_nil (w : World) : (Instr.typeAssert .nilIface 20 129 true).run Try.prog w = .ok (.tuple #[.agg #[], .bool false]) w := by kernel_rfl
set_option maxHeartbeats 1000000 in
set_option maxRecDepth 100000 in
theorem catch_panic (n : Nat) (p q : Nat) (x y : Value) (w : World) (hp : w.heap[p]? = some (.cells #[x] 49 (0, 0))) (hq : w.heap[q]? = some (.cells #[y] 29 (0, 0))) (hpq : p ≠ q) :
    CallsDIn Fence.wide n Try.prog 85 #[.pointer (some ⟨p, 0, none⟩), .pointer (some ⟨q, 0, none⟩)] (.panicking [corruptP]) w fun e u' w' =>
      e = .returned (.tuple #[]) ∧ u' = .panicking [{ corruptP with recovered := true }] ∧ w' = ((w.alloc (.cells #[] 129)).setCell ⟨p, 0, none⟩ (.pointer none)).setCell ⟨q, 0, none⟩ (.int .i64 20) := by
  have hw1 := (Fr.alloc (S := No) w (.cells #[] 129)).get hp (fun h => h)
  have hw2 := (Fr.alloc (S := No) w (.cells #[] 129)).get hq (fun h => h)
  have hw3 := (Fr.setCell (S := One p) (w.alloc (.cells #[] 129)) ⟨p, 0, none⟩ (.pointer none) rfl).get hw2 (fun h => hpq h.symm)
  obtain ⟨p1, p2⟩ : (w.alloc (.cells #[] 129)).cell? ⟨p, 0, none⟩ = some x ∧ (w.alloc (.cells #[] 129)).frozen? ⟨p, 0, none⟩ = false := by simp [World.cell?, World.frozen?, hw1]
  obtain ⟨q1, q2⟩ : ((w.alloc (.cells #[] 129)).setCell ⟨p, 0, none⟩ (.pointer none)).cell? ⟨q, 0, none⟩ = some y ∧ ((w.alloc (.cells #[] 129)).setCell ⟨p, 0, none⟩ (.pointer none)).frozen? ⟨q, 0, none⟩ = false := by simp [World.cell?, World.frozen?, hw3]
  have hta := assert_corrupt
  clear hp hq hw1 hw2 hw3
  refine callsDIn_of_wpSIn Try.func85 rfl trivial fun c₀ cs hu => ?_
  apply wpSIn_seq
  apply wpSIn_region
  simp [wpOpsSIn, go_sem, recoverD, hu, Try.ntmps85, Exit.thenS, corruptP]
  refine wpSIn_of_wpIn rfl (wpIn_wide.2 ?_)
  go_wp2_with fail
  exact ⟨rfl, .panicking [{ corruptP with recovered := true }], rfl, .tuple #[], results_none rfl _ _ _, rfl, rfl, rfl⟩
set_option maxHeartbeats 1000000 in
set_option maxRecDepth 100000 in
theorem catch_idle (n : Nat) (p q : Nat) (w : World) :
    CallsDIn Fence.wide n Try.prog 85 #[.pointer (some ⟨p, 0, none⟩), .pointer (some ⟨q, 0, none⟩)] .returning w fun e u' w' =>
      e = .returned (.tuple #[]) ∧ u' = .returning ∧ w' = w.alloc (.cells #[] 129) := by
  have hta := assert_nil
  refine callsDIn_of_wpSIn Try.func85 rfl trivial fun c₀ cs hu => ?_
  apply wpSIn_seq
  apply wpSIn_region
  simp [wpOpsSIn, go_sem, recoverD, hu, Try.ntmps85, Exit.thenS]
  refine wpSIn_of_wpIn rfl (wpIn_wide.2 ?_)
  go_wp2_with fail
  refine ⟨rfl, .returning, ?_, .tuple #[], results_none rfl _ _ _, rfl, rfl, rfl⟩
  cases c₀
  simp only at hu
  subst hu
  rfl
end Go.Proofs.Ytchcimkmjoegdaa.C
namespace Go.Proofs.Ytchcimkmjoegdaa.C
open Go.RowKit Go.Proofs.YtchcimkmjoegdaaW.PrintWords Go.Proofs.YtchcimkmjoegdaaW.PrintMore Go.Proofs.Ytchcimkmjoegdaa.M
set_option linter.unusedVariables false
set_option linter.unusedSimpArgs false

/-! ### heads and bodies, one behind the other -/
/-- One head. -/
def hd1 (xs : List Int) (n a i : Nat) : Option ((Nat × Nat × Nat) × Nat × Nat) :=
  let r := rS xs i 0 16384; let s := rS xs r.2.1 r.2.2 xs.length; if s.2.2 = 0 ∧ a < a + r.1 ∧ a + r.1 ≤ n then some ((a, a + r.1, s.1), a + r.1, s.2.1) else none
theorem headsO_cons (xs : List Int) (n k a i : Nat) : headsO xs n (k + 1) a i = (hd1 xs n a i).bind fun q => (headsO xs n k q.2.1 q.2.2).map fun p => (q.1 :: p.1, p.2) := by
  rw [headsO]
  unfold hd1
  simp only
  split
  · rfl
  · rfl
theorem headsO_snoc (xs : List Int) (n : Nat) : ∀ (k a i : Nat), headsO xs n (k + 1) a i = (headsO xs n k a i).bind fun p => (hd1 xs n p.2.1 p.2.2).map fun q => (p.1 ++ [q.1], q.2)
  | 0, a, i => by
    rw [headsO_cons, headsO, Option.bind_some]
    cases hd1 xs n a i with
    | none => rfl
    | some q => rfl
  | k + 1, a, i => by
    rw [headsO_cons]
    conv => rhs; rw [headsO_cons]
    cases hd1 xs n a i with
    | none => rfl
    | some q =>
      simp only [Option.bind_some]
      rw [headsO_snoc xs n k q.2.1 q.2.2]
      cases headsO xs n k q.2.1 q.2.2 with
      | none => rfl
      | some p =>
        simp only [Option.bind_some, Option.map_some]
        cases hd1 xs n p.2.1 p.2.2 with
        | none => rfl
        | some s => rfl
theorem headsO_none {xs : List Int} {n j a i : Nat} (h : headsO xs n j a i = none) : ∀ k, j ≤ k → headsO xs n k a i = none := by
  intro k hk
  obtain ⟨d, rfl⟩ : ∃ d, k = j + d := ⟨k - j, by omega⟩
  clear hk
  induction d with
  | zero => exact h
  | succ d ih => rw [← Nat.add_assoc, headsO_snoc, ih]; rfl
theorem hd1_fine {xs : List Int} {n a i : Nat} {q : (Nat × Nat × Nat) × Nat × Nat} (h : hd1 xs n a i = some q) : q.1.1 = a ∧ q.1.2.1 = q.2.1 ∧ a < q.2.1 ∧ q.2.1 ≤ n ∧ q.1.2.2 ≤ xs.length := by
  unfold hd1 at h
  simp only at h
  split at h
  · rename_i hc
    injection h with h
    subst h
    refine ⟨rfl, rfl, hc.2.1, hc.2.2, ?_⟩
    have := rS_max (ys := xs) (i := (rS xs i 0 16384).2.1) (e := (rS xs i 0 16384).2.2) (m := xs.length) (by omega)
    show (rS xs _ _ _).1 ≤ _
    omega
  · cases h
theorem headsO_fine {xs : List Int} {n : Nat} : ∀ {k a i : Nat} {H : List (Nat × Nat × Nat)} {b j : Nat}, headsO xs n k a i = some (H, b, j) → H.length = k ∧ ∀ h ∈ H, h.1 < h.2.1 ∧ h.2.1 ≤ n ∧ h.2.2 ≤ xs.length
  | 0, a, i, H, b, j, h => by
    rw [headsO] at h
    injection h with h
    injection h with h1 h2
    subst h1
    exact ⟨rfl, fun e he => nomatch he⟩
  | k + 1, a, i, H, b, j, h => by
    rw [headsO_cons, Option.bind_eq_some_iff] at h
    obtain ⟨q, h1, h2⟩ := h
    rw [Option.map_eq_some_iff] at h2
    obtain ⟨⟨H', b', j'⟩, h3, h4⟩ := h2
    injection h4 with h4 h5
    subst h4
    obtain ⟨k1, k2⟩ := headsO_fine h3
    obtain ⟨f1, f2, f3, f4, f5⟩ := hd1_fine h1
    refine ⟨by rw [List.length_cons, k1], fun e he => ?_⟩
    rcases List.mem_cons.1 he with rfl | he
    · exact ⟨by omega, by omega, f5⟩
    · exact k2 e he
/-- One body. -/
def bd1 (xs : List Int) (h : Nat × Nat × Nat) (i : Nat) : Option ((Chk × List (List Ent)) × Nat) :=
  let r := rB xs i 0 (h.2.2 : Nat); if r.2.2 = 0 then (chunkO r.1 (h.2.1 - h.1)).map fun D => ((⟨h.1, h.2.1, r.1⟩, D), r.2.1) else none
theorem bodiesO_cons (xs : List Int) (h : Nat × Nat × Nat) (H : List (Nat × Nat × Nat)) (i : Nat) : bodiesO xs (h :: H) i = (bd1 xs h i).bind fun q => (bodiesO xs H q.2).map fun p => (q.1.1 :: p.1, q.1.2 ++ p.2.1, p.2.2) := by
  rw [bodiesO]
  unfold bd1
  simp only
  split
  · cases chunkO (rB xs i 0 (h.2.2 : Nat)).1 (h.2.1 - h.1) with
    | none => rfl
    | some D => rfl
  · rfl
theorem bodiesO_snoc (xs : List Int) (h : Nat × Nat × Nat) : ∀ (H : List (Nat × Nat × Nat)) (i : Nat), bodiesO xs (H ++ [h]) i = (bodiesO xs H i).bind fun p => (bd1 xs h p.2.2).map fun q => (p.1 ++ [q.1.1], p.2.1 ++ q.1.2, q.2)
  | [], i => by
    rw [List.nil_append, bodiesO_cons, bodiesO, Option.bind_some]
    cases bd1 xs h i with
    | none => rfl
    | some q => simp [bodiesO]
  | h0 :: H, i => by
    rw [List.cons_append, bodiesO_cons]
    conv => rhs; rw [bodiesO_cons]
    cases bd1 xs h0 i with
    | none => rfl
    | some q =>
      simp only [Option.bind_some]
      rw [bodiesO_snoc xs h H q.2]
      cases bodiesO xs H q.2 with
      | none => rfl
      | some p =>
        simp only [Option.bind_some, Option.map_some]
        cases bd1 xs h p.2.2 with
        | none => rfl
        | some s => simp
theorem bodiesO_none {xs : List Int} : ∀ {H T : List (Nat × Nat × Nat)} {i : Nat}, bodiesO xs H i = none → bodiesO xs (H ++ T) i = none
  | [], T, i, h => by rw [bodiesO] at h; cases h
  | h0 :: H, T, i, h => by
    rw [List.cons_append, bodiesO_cons]
    rw [bodiesO_cons] at h
    cases hb : bd1 xs h0 i with
    | none => rfl
    | some q =>
      rw [hb, Option.bind_some, Option.map_eq_none_iff] at h
      rw [Option.bind_some, bodiesO_none h]
      rfl
/-! ### frames by the type of what turned -/
/-- What turned are rows of type t. -/
def Ty (W : World) (S : Nat → Prop) (t : Nat) : Prop := ∀ j, S j → ∃ cs, W.heap[j]? = some (.cells cs t (0, 0))
theorem Ty.none (W : World) (t : Nat) : Ty W No t := fun j h => h.elim
theorem Ty.one {W : World} {k t : Nat} {cs : Array Value} (h : W.heap[k]? = some (.cells cs t (0, 0))) : Ty W (One k) t := fun j hj => by
  have hj' : j = k := hj
  subst hj'
  exact ⟨cs, h⟩
theorem Ty.win {W : World} {B e size n : Nat} {v : Value} {xs : List Value} (h : Win W B e size v n xs) : Ty W (At v) e := fun j hj => by
  obtain ⟨_, _, cur, hc⟩ := h.at_ hj
  exact ⟨cur, hc⟩
section
variable {W W' : World} {S : Nat → Prop} {t : Nat}
theorem Ty.blk (f : Fr S W W') (hT : Ty W S t) {k t' : Nat} {cs : Array Value} (h : W.heap[k]? = some (.cells cs t' (0, 0))) (hne : t' ≠ t) : W'.heap[k]? = some (.cells cs t' (0, 0)) :=
  f.get h (fun hs => by
    obtain ⟨cs', hc⟩ := hT k hs
    rw [h] at hc
    injection hc with hc
    injection hc with _ hc
    exact hne hc)
theorem Ty.row (f : Fr S W W') (hT : Ty W S t) {B e size n : Nat} {v : Value} {xs : List Value} (h : Win W B e size v n xs) (hne : e ≠ t) : Win W' B e size v n xs :=
  h.fr f (fun k hk hs => by
    obtain ⟨cs', hc⟩ := hT k hs
    exact hne (h.ne_type hk hc))
theorem Ty.rdr (f : Fr S W W') (hT : Ty W S t) {B g i : Nat} {xs : List Int} {e : Int} (h : Rdr W B g xs i e) (h1 : t ≠ 5) (h2 : t ≠ 108) : Rdr W' B g xs i e :=
  h.stay f (fun k hk => by obtain ⟨cs, hc⟩ := hT k hk; exact ⟨cs, t, hc, h1, h2⟩)
end
/-- Open's state: the two results' boxes, the store, the reader. -/
structure OpS (w W : World) (p2 p3 gr gs : Nat) (xs : List Int) (i : Nat) (e : Int) (vs : Value) (n : Nat) : Prop where
  bel : Below w.heap.size w W
  b2 : W.heap[p2]? = some (.cells #[.pointer (some ⟨gs, 0, none⟩)] 49 (0, 0))
  b3 : W.heap[p3]? = some (.cells #[.int .i64 0] 29 (0, 0))
  st : W.heap[gs]? = some (.cells #[vs, .int .i64 (n : Int)] 121 (0, 0))
  rd : Rdr W w.heap.size gr xs i e
  h2 : w.heap.size ≤ p2
  h3 : w.heap.size ≤ p3
  hs : w.heap.size ≤ gs
section
variable {w W W' : World} {p2 p3 gr gs i n t : Nat} {xs : List Int} {e : Int} {vs : Value} {S : Nat → Prop}
theorem OpS.step (h : OpS w W p2 p3 gr gs xs i e vs n) (f : Fr S W W') (hT : Ty W S t) (ht : t ≠ 49 ∧ t ≠ 29 ∧ t ≠ 121 ∧ t ≠ 108 ∧ t ≠ 5) (hB : ∀ j, S j → w.heap.size ≤ j) : OpS w W' p2 p3 gr gs xs i e vs n :=
  ⟨acc h.bel (Nat.le_refl _) f hB, Ty.blk f hT h.b2 (Ne.symm ht.1), Ty.blk f hT h.b3 (Ne.symm ht.2.1), Ty.blk f hT h.st (Ne.symm ht.2.2.1), Ty.rdr f hT h.rd ht.2.2.2.2 ht.2.2.2.1, h.h2, h.h3, h.hs⟩
theorem OpS.no (h : OpS w W p2 p3 gr gs xs i e vs n) (f : Fr No W W') : OpS w W' p2 p3 gr gs xs i e vs n := h.step (t := 0) f (Ty.none _ _) (by decide) (fun _ h => h.elim)
theorem OpS.read {i' : Nat} {e' : Int} (h : OpS w W p2 p3 gr gs xs i e vs n) (f : Fr (One gr) W W') (hr : Rdr W' w.heap.size gr xs i' e') : OpS w W' p2 p3 gr gs xs i' e' vs n := by
  obtain ⟨cs, hc⟩ := h.rd.ty
  have hT := Ty.one hc
  exact ⟨acc h.bel (Nat.le_refl _) f (fun j hj => by have hj' : j = gr := hj; subst hj'; exact h.rd.1), Ty.blk f hT h.b2 (by decide), Ty.blk f hT h.b3 (by decide), Ty.blk f hT h.st (by decide), hr, h.h2, h.h3, h.hs⟩
theorem OpS.put {vs' : Value} (h : OpS w W p2 p3 gr gs xs i e vs n) : OpS w (W.setCell ⟨gs, 0, none⟩ vs') p2 p3 gr gs xs i e vs' n := by
  have f : Fr (One gs) W (W.setCell ⟨gs, 0, none⟩ vs') := Fr.setCell W _ _ rfl
  have hT := Ty.one h.st
  refine ⟨acc h.bel (Nat.le_refl _) f (fun j hj => by have hj' : j = gs := hj; subst hj'; exact h.hs), Ty.blk f hT h.b2 (by decide), Ty.blk f hT h.b3 (by decide), ?_, Ty.rdr f hT h.rd (by decide) (by decide), h.h2, h.h3, h.hs⟩
  have := h.st
  simp [World.setCell, Array.getElem?_modify, this]
theorem OpS.cells (h : OpS w W p2 p3 gr gs xs i e vs n) : W.cell? ⟨p2, 0, none⟩ = some (.pointer (some ⟨gs, 0, none⟩)) ∧ W.cell? ⟨gs, 0, none⟩ = some vs ∧ W.cell? ⟨gs, 1, none⟩ = some (.int .i64 (n : Int)) ∧ W.frozen? ⟨gs, 0, none⟩ = false ∧ W.frozen? ⟨p2, 0, none⟩ = false ∧ W.cell? ⟨p3, 0, none⟩ = some (.int .i64 0) ∧ W.frozen? ⟨p3, 0, none⟩ = false := by
  have h1 := h.b2
  have h2 := h.b3
  have h3 := h.st
  simp [World.cell?, World.frozen?, h1, h2, h3]
end
/-! ### the way out -/
/-- The marks of the loops that were entered. -/
structure Marks (w W : World) (ms : List Nat) : Prop where
  at_ : ∀ D ∈ ms, W.heap[D]? = some (.deferred (some []))
  ge : ∀ D ∈ ms, w.heap.size ≤ D
  nd : ms.Nodup
theorem Marks.nil (w W : World) : Marks w W [] := ⟨fun _ h => (nomatch h), fun _ h => (nomatch h), List.nodup_nil⟩
theorem Marks.fr {w W W' : World} {ms : List Nat} {S : Nat → Prop} {t : Nat} (h : Marks w W ms) (f : Fr S W W') (hT : Ty W S t) : Marks w W' ms :=
  ⟨fun D hD => f.get (h.at_ D hD) (fun hs => by
    obtain ⟨cs, hc⟩ := hT D hs
    have := h.at_ D hD
    rw [hc] at this
    cases this), h.ge, h.nd⟩
theorem Marks.push {w W : World} {ms : List Nat} {D : Nat} (h : Marks w W ms) (hD : W.heap[D]? = some (.deferred (some []))) (hge : w.heap.size ≤ D) (hn : ∀ D' ∈ ms, D' ≠ D) : Marks w W (D :: ms) :=
  ⟨fun x hx => by
    rcases List.mem_cons.1 hx with rfl | hx
    · exact hD
    · exact h.at_ x hx, fun x hx => by
    rcases List.mem_cons.1 hx with rfl | hx
    · exact hge
    · exact h.ge x hx, List.nodup_cons.2 ⟨fun hm => hn D hm rfl, h.nd⟩⟩
theorem leave_marks {n : Nat} {fn : Func} {tmps : Array Value} {R : Ending → World → Prop} {ds : List Deferred} {u : FrameMode} (hu : u ≠ .run) : ∀ (ms : List Nat) (w W : World), Marks w W ms → (∀ W', Fr (fun k => k ∈ ms) W W' → LeavesInM Fence.wide n Try.prog fn tmps R ds u W') → LeavesInM Fence.wide n Try.prog fn tmps R (ms.map mkD ++ ds) u W
  | [], w, W, _, h => h W (Fr.refl _ _)
  | D :: ms, w, W, hm, h => by
    obtain ⟨h1, h2, h3⟩ := hm
    have hD := h1 D (by simp)
    obtain ⟨hnd, hnd2⟩ := List.nodup_cons.1 h3
    refine ⟨hu, .inl ⟨D, _, rfl, run_takeDeferred hD, ?_⟩⟩
    have f : Fr (One D) W (W.putObj D (.deferred none)) := ⟨rfl, rfl, rfl, by simp, fun k _ hk => World.putObj_heap_other hk⟩
    refine leave_marks hu ms w _ ⟨fun x hx => f.get (h1 x (List.mem_cons_of_mem _ hx)) (fun e => by
      have e' : x = D := e
      subst e'
      exact hnd hx), fun x hx => h2 x (List.mem_cons_of_mem _ hx), hnd2⟩ (fun W' f' => h W' (f.trans f' (fun i _ hi => by
      have hi' : i = D := hi
      subst hi'
      simp) (fun i _ hi => List.mem_cons_of_mem _ hi)))
theorem results40 {tmps : Array Value} {W : World} {p2 p3 : Nat} {x : Option Addr} {y : Int} (h2 : tmps.getD 2 undef = .pointer (some ⟨p2, 0, none⟩)) (h3 : tmps.getD 3 undef = .pointer (some ⟨p3, 0, none⟩)) (b2 : W.heap[p2]? = some (.cells #[.pointer x] 49 (0, 0))) (b3 : W.heap[p3]? = some (.cells #[.int .i64 y] 29 (0, 0))) :
    (results Try.f40 tmps).run Try.prog W = .ok (.tuple #[.pointer x, .int .i64 y]) W := by
  have h2' : tmps[2]?.getD undef = .pointer (some ⟨p2, 0, none⟩) := by simpa using h2
  have h3' : tmps[3]?.getD undef = .pointer (some ⟨p3, 0, none⟩) := by simpa using h3
  have c2 : W.cell? ⟨p2, 0, none⟩ = some (.pointer x) := by simp [World.cell?, b2]
  have c3 : W.cell? ⟨p3, 0, none⟩ = some (.int .i64 y) := by simp [World.cell?, b3]
  simp [results, Try.results40, h2', h3', asAddr, go_sem, c2, c3]
theorem inv85 (p2 p3 : Nat) (W : World) : (invoke (.fn (.func 85) #[.pointer (some ⟨p2, 0, none⟩), .pointer (some ⟨p3, 0, none⟩)]) #[]).run Try.prog W = .ok (.enter 85 #[.pointer (some ⟨p2, 0, none⟩), .pointer (some ⟨p3, 0, none⟩)]) W := by
  have eg := enters_of Try.func85 (by kernel_rfl) rfl
  simp [invoke, go_sem, eg]
abbrev dfr (p2 p3 : Nat) : Deferred := { target := .fn (.func 85) #[.pointer (some ⟨p2, 0, none⟩), .pointer (some ⟨p3, 0, none⟩)], args := #[] }
/-- Corrupt is taken back. -/
theorem open_fall {w W : World} {ms : List Nat} {p2 p3 : Nat} {x y : Value} {tmps : Array Value} {R : Ending → World → Prop} (h2 : tmps.getD 2 undef = .pointer (some ⟨p2, 0, none⟩)) (h3 : tmps.getD 3 undef = .pointer (some ⟨p3, 0, none⟩))
    (b2 : W.heap[p2]? = some (.cells #[x] 49 (0, 0))) (b3 : W.heap[p3]? = some (.cells #[y] 29 (0, 0))) (hb : Below w.heap.size w W) (k2 : w.heap.size ≤ p2) (k3 : w.heap.size ≤ p3) (hm : Marks w W ms)
    (hR : ∀ W', Fr No w W' → R (.returned (.tuple #[.pointer none, .int .i64 20])) W') :
    LeavesInM Fence.wide 0 Try.prog Try.f40 tmps R (ms.map mkD ++ [dfr p2 p3]) (.panicking [corruptP]) W := by
  refine leave_marks (by simp) ms w W hm fun W1 f1 => ?_
  have hT : ∀ {k : Nat} {cs : Array Value} {t : Nat}, W.heap[k]? = some (.cells cs t (0, 0)) → W1.heap[k]? = some (.cells cs t (0, 0)) := fun hk => f1.get hk (fun hs => by
    have := hm.at_ _ hs
    rw [hk] at this
    cases this)
  have c2 := hT b2
  have c3 := hT b3
  have hne : p2 ≠ p3 := fun e => by
    rw [e, b3] at b2
    injection b2 with b2
    injection b2 with _ b2
    exact absurd b2 (by decide)
  have hb1 : Below w.heap.size w W1 := acc hb (Nat.le_refl _) f1 hm.ge
  refine ⟨by simp, .inr ⟨fun h => by simp [Fence.wide] at h, .func 85, _, 85, _, rfl, inv85 p2 p3 W1, fun g _ => trivial, (catch_panic 0 p2 p3 x y W1 c2 c3 hne).mono ?_⟩⟩
  rintro e u' W' ⟨rfl, rfl, rfl⟩
  have d2 := (Fr.alloc (S := No) W1 (.cells #[] 129)).get c2 (fun h => h)
  have d3 := (Fr.alloc (S := No) W1 (.cells #[] 129)).get c3 (fun h => h)
  have f2 : Fr (One p2) (W1.alloc (.cells #[] 129)) ((W1.alloc (.cells #[] 129)).setCell ⟨p2, 0, none⟩ (.pointer none)) := Fr.setCell _ _ _ rfl
  have e2 : ((W1.alloc (.cells #[] 129)).setCell ⟨p2, 0, none⟩ (.pointer none)).heap[p2]? = some (.cells #[.pointer none] 49 (0, 0)) := by simp [World.setCell, Array.getElem?_modify, d2]
  have e3 := f2.get d3 (fun h => hne h.symm)
  have f3 : Fr (One p3) ((W1.alloc (.cells #[] 129)).setCell ⟨p2, 0, none⟩ (.pointer none)) (((W1.alloc (.cells #[] 129)).setCell ⟨p2, 0, none⟩ (.pointer none)).setCell ⟨p3, 0, none⟩ (.int .i64 20)) := Fr.setCell _ _ _ rfl
  have g2 := f3.get e2 (fun h => hne h)
  have g3 : (((W1.alloc (.cells #[] 129)).setCell ⟨p2, 0, none⟩ (.pointer none)).setCell ⟨p3, 0, none⟩ (.int .i64 20)).heap[p3]? = some (.cells #[.int .i64 20] 29 (0, 0)) := by
    have := e3
    generalize (W1.alloc (.cells #[] 129)).setCell ⟨p2, 0, none⟩ (.pointer none) = X at this
    simp [World.setCell, Array.getElem?_modify, this]
  refine ⟨_, results40 h2 h3 g2 g3, hR _ (Fr.of_No ?_)⟩
  exact accOne (accOne (accAlloc hb1 (Nat.le_refl _) _) (Nat.le_refl _) f2 k2) (Nat.le_refl _) f3 k3
/-- No panic: the results as they stand. -/
theorem open_ret {w W : World} {ms : List Nat} {p2 p3 : Nat} {x : Option Addr} {y : Int} {tmps : Array Value} {R : Ending → World → Prop} (h2 : tmps.getD 2 undef = .pointer (some ⟨p2, 0, none⟩)) (h3 : tmps.getD 3 undef = .pointer (some ⟨p3, 0, none⟩))
    (b2 : W.heap[p2]? = some (.cells #[.pointer x] 49 (0, 0))) (b3 : W.heap[p3]? = some (.cells #[.int .i64 y] 29 (0, 0))) (hm : Marks w W ms)
    (hR : ∀ W', Fr (fun k => k ∈ ms) W W' → R (.returned (.tuple #[.pointer x, .int .i64 y])) W') :
    LeavesInM Fence.wide 0 Try.prog Try.f40 tmps R (ms.map mkD ++ [dfr p2 p3]) .returning W := by
  refine leave_marks (by simp) ms w W hm fun W1 f1 => ?_
  have hT : ∀ {k : Nat} {cs : Array Value} {t : Nat}, W.heap[k]? = some (.cells cs t (0, 0)) → W1.heap[k]? = some (.cells cs t (0, 0)) := fun hk => f1.get hk (fun hs => by
    have := hm.at_ _ hs
    rw [hk] at this
    cases this)
  have c2 := hT b2
  have c3 := hT b3
  refine ⟨by simp, .inr ⟨fun h => by simp [Fence.wide] at h, .func 85, _, 85, _, rfl, inv85 p2 p3 W1, fun g _ => trivial, (catch_idle 0 p2 p3 W1).mono ?_⟩⟩
  rintro e u' W' ⟨rfl, rfl, rfl⟩
  have d2 := (Fr.alloc (S := No) W1 (.cells #[] 129)).get c2 (fun h => h)
  have d3 := (Fr.alloc (S := No) W1 (.cells #[] 129)).get c3 (fun h => h)
  exact ⟨_, results40 h2 h3 d2 d3, hR _ (f1.trans (Fr.alloc (S := No) W1 _) (fun _ _ h => h) (fun _ _ h => h.elim))⟩
end Go.Proofs.Ytchcimkmjoegdaa.C
