/- stored.Open (40). Conditions: as the theorem states. | stored.Store.Doc (38). Conditions: as each theorem states. | The kit's LentInt64s (116), KeptInt64s (119). Conditions: as each theorem states. | The kit's LentEntries (94). Conditions: as each theorem states. (Several texts of mine laid into one by prune.py.) -/
import Derived.Test.YtchcimkmjoegdaaStB10
namespace Go.Proofs.Ytchcimkmjoegdaa.C
open Go.RowKit Go.Proofs.YtchcimkmjoegdaaW.PrintLast Go.Proofs.YtchcimkmjoegdaaW.PrintWords Go.Proofs.YtchcimkmjoegdaaW.PrintMore Go.Proofs.Ytchcimkmjoegdaa.M
set_option linter.unusedVariables false
set_option linter.unusedSimpArgs false

set_option maxRecDepth 100000 in
set_option maxHeartbeats 4000000 in
theorem sopen_any (w : World) (A : Option Addr) (nx c : Nat) (xs : List Int) (hr : RdV w A (nums .u8 xs)) (hl : xs.length = nx) (hb : Byt xs) (h0 : A = none → c = 0) (hc : nx ≤ c) (hn : nx ≤ 140737488355328) : Calls Try.prog 40 #[.slice A nx c] w (SOpenPost xs w) := by
  have HNR := Aside0.mk (fun (W : World) (hW : Fr No w W) => NewReader_any W A nx c xs (hr.below hW.no) hl h0 hc hn)
  have HB := Aside0.mk hb
  have HL := Aside0.mk hl
  have HRD := Aside0.mk hr
  have HCC := Aside0.mk hc
  obtain ⟨n, i1, e1, hS1⟩ : ∃ n i1 e1, rS xs 0 0 16384 = (n, i1, e1) := ⟨_, _, _, rfl⟩
  obtain ⟨K, i2, e2, hS2⟩ : ∃ K i2 e2, rS xs i1 e1 (n : Nat) = (K, i2, e2) := ⟨_, _, _, rfl⟩
  have HS1 := Aside0.mk hS1
  have HS2 := Aside0.mk hS2
  have hn1 : n ≤ 16384 := by have := rS_max (ys := xs) (i := 0) (e := 0) (m := 16384) (by decide); rw [hS1] at this; simp only at this; omega
  have hK1 : K ≤ n := by have := rS_max (ys := xs) (i := i1) (e := e1) (m := (n : Nat)) (by omega); rw [hS2] at this; simp only at this; omega
  have hnx : nx ≤ 140737488355328 := hn
  clear hr hl hb h0 hc hn hS1 hS2
  have hmf : ∀ (fn : Fn) (first cap : Array Value) (w : World), (Instr.makeFunc fn first cap).run Try.prog w = .ok (.func fn first cap) w := fun _ _ _ _ => rfl
  refine callsIn_wide.1 (callsIn_of_wp_marks (F := Fence.wide) (n := 0) Try.func40 rfl trivial (wpIn_wide.2 ?_))
  simp only [Try.ntmps40, List.size_toArray, List.length_cons, List.length_nil, Nat.reduceAdd, Nat.reduceSub, Array.replicate_succ, Array.replicate_zero, List.push_toArray, List.append_toArray, List.nil_append, List.cons_append]
  go_wp2_with fail
  obtain ⟨p2, hp2⟩ : ∃ p, p = w.heap.size := ⟨_, rfl⟩
  obtain ⟨p3, hp3⟩ : ∃ p, p = w.heap.size + 1 := ⟨_, rfl⟩
  rw [← hp3, ← hp2]
  have HP2 := Aside0.mk hp2
  have HP3 := Aside0.mk hp3
  clear hp2 hp3
  go_wp2_with (first | (go_at_call_of 53 (16384 : Int); go_must (refine (Size_any w1 _ g 0 xs 0 16384 R1.out HB.out (by decide)).mono ?_; rw [HS1.out]; rintro e' w2 ⟨rfl, q1, q2⟩; obtain ⟨gs, hgs⟩ : ∃ gs, gs = w2.heap.size := ⟨_, rfl⟩; obtain ⟨k2, k2f, o3⟩ := OpS.start (n := n) HP2.out HP3.out F1.out R1.out (by simp; omega) q2 q1 hgs; have O3 := Aside0.mk o3; obtain ⟨l1, l2, l3, l4, l5, l6, l7⟩ := o3.cells; have HG := Aside0.mk hgs; have F2 := Aside0.mk q2; clear q1 q2 o3 hgs)) | (go_at_call 18; go_must (refine (HNR.out _ (Fr.of_No (accAlloc (accAlloc (Below.refl _ _) (Nat.le_refl _) _) (Nat.le_refl _) _))).mono ?_; rintro e' w1 ⟨g, rfl, q1, q2⟩; have R1 := Aside0.mk q1; have F1 := Aside0.mk q2; clear q1 q2)))
  rw [← HG.out]
  generalize hw3 : (w2.alloc (Obj.cells #[Value.slice none 0 0, Value.int IntKind.i64 (n : Int)] 121)).setCell ⟨p2, 0, none⟩ (.pointer (some ⟨gs, 0, none⟩)) = w3 at O3 l1 l2 l3 l4 l5 l6 l7 ⊢
  clear hw3 k2 k2f
  go_at_call 53
  refine (Size_any w3 w.heap.size g i1 xs e1 (n : Nat) O3.out.rd HB.out (by omega)).mono ?_
  rw [HS2.out]
  rintro e' w4 ⟨rfl, q1, q2⟩
  have O4 := Aside0.mk (O3.out.read q2 q1)
  clear q1 q2 l1 l2 l3 l4 l5 l6 l7
  by_cases he2 : e2 = 0
  · subst he2
    have hmake := fun W => make_ints W K (by omega)
    go_wp2_with (first | (go_at_call 86; go_must (refine (good_ok w4 w.heap.size g i2 xs O4.out.rd).mono ?_; rintro e' wz ⟨rfl, hz⟩; have hz' := hz.symm; subst hz')))
    obtain ⟨gz, hgz⟩ : ∃ gz, gz = w4.heap.size := ⟨_, rfl⟩
    have HGZ := Aside0.mk hgz
    clear hgz
    refine wp_region_noPanic ?_
    go_region_law fail
    refine NoPanic.normal ?_
    rw [← HGZ.out]
    have H0 := Aside0.mk (HeadS.start (K := K) O4.out HGZ.out)
    generalize (w4.alloc (Obj.cells (nums IntKind.i64 (List.replicate K 0)).toArray 3)).drew = w5 at H0 ⊢
    clear hmake
    go_wp2_with fail
    go_loopw [6, 35] (fun v6 v35 wr => ∃ (j a i : Nat) (H : List (Nat × Nat × Nat)) (v : Value), v35 = .int .i64 j ∧ v6 = .int .i64 a ∧ j ≤ K ∧ a ≤ n ∧ Aside0 (HeadS w wr p2 p3 g gs gz xs n K i2 j H a i v)) (fun _ v35 _ => K - (intOf v35).toNat)
    case atStart => exact ⟨0, 0, i2, [], .slice none 0 0, rfl, rfl, by omega, by omega, H0⟩
    case round =>
      obtain ⟨j, a, i, H, v, rfl, rfl, hj, ha, HH⟩ := hrel
      have HLJ := Aside0.mk HH.out.len
      obtain ⟨Av, cv, ev, hcv⟩ : ∃ Av cv, v = .slice Av j cv ∧ j ≤ cv := by
        obtain ⟨A', c', e', h'⟩ := HH.out.ch.hdr.shape
        rw [List.length_map, HLJ.out] at e' h'
        exact ⟨A', c', e', h'⟩
      subst ev
      have HCB := Aside0.mk (chunk_bound (n := j) (by omega))
      by_cases hlt : j < K
      · obtain ⟨cnt, j1, f1, hz1⟩ : ∃ cnt j1 f1, rS xs i 0 16384 = (cnt, j1, f1) := ⟨_, _, _, rfl⟩
        obtain ⟨z, j2, f2, hz2⟩ : ∃ z j2 f2, rS xs j1 f1 (nx : Nat) = (z, j2, f2) := ⟨_, _, _, rfl⟩
        have hcnt : cnt ≤ 16384 := by have := rS_max (ys := xs) (i := i) (e := 0) (m := 16384) (by decide); rw [hz1] at this; simp only at this; omega
        have HZ1 := Aside0.mk (Size_any wr w.heap.size g i xs 0 16384 HH.out.op.rd HB.out (by decide))
        rw [hz1] at HZ1
        have HZ2 := Aside0.mk (fun (W : World) (h : Rdr W w.heap.size g xs j1 f1) => Size_any W w.heap.size g j1 xs f1 (nx : Nat) h HB.out (by omega))
        rw [hz2] at HZ2
        have HE := Aside0.mk (And.intro hz1 hz2)
        clear hz1 hz2
        go_wp2_with (first | (go_at_call_of 53 (16384 : Int); go_must (refine HZ1.out.mono ?_; rintro e' w6 ⟨rfl, q1, q2⟩; have R6 := Aside0.mk q1; have F6 := Aside0.mk q2; clear q1 q2)) | (go_at_call 53; go_must (refine (HZ2.out _ (R6.out.below (below_alloc (Below.refl _ _) _))).mono ?_; rintro e' w7 ⟨rfl, q1, q2⟩; obtain ⟨k1, k2, t⟩ := HeadS.two (z := z) HH.out hlt F6.out R6.out rfl q2 q1; have T7 := Aside0.mk t; clear q1 q2 t)))
        obtain ⟨bx, hbx⟩ : ∃ bx, bx = w6.heap.size := ⟨_, rfl⟩
        rw [← hbx] at T7 ⊢
        clear hbx k1 k2
        generalize w7.setCell ⟨gz, j, none⟩ (.int .i64 (z : Int)) = w8 at T7 ⊢
        have T8 := T7
        clear T7 R6 F6 HZ1 HZ2
        obtain ⟨m2, _, m3, _, _, _, _⟩ := T8.out.op.cells
        have m0 : w8.cell? ⟨bx, 0, none⟩ = some (.int .i64 (a : Int)) := by simp [World.cell?, T8.out.box]
        have m1 : w8.cell? ⟨bx, 1, none⟩ = some (.int .i64 ((a : Int) + cnt)) := by simp [World.cell?, T8.out.box]
        by_cases hgood : 0 < cnt ∧ a + cnt ≤ n ∧ f2 = 0
        · obtain ⟨hg1, hg2, rfl⟩ := hgood
          have HGO := Aside0.mk (fun m => good_ok (w8.drewN m) w.heap.size g j2 xs (T8.out.op.rd.drewN m))
          have hc1 : (a : Int) < (a : Int) + cnt := by omega
          have hc2 : (a : Int) + cnt ≤ n := by omega
          refine wp_region_noPanic ?_
          go_quiet ((go_at_call 86; go_must (exact Calls.quiet_of_same (HGO.out _))))
          refine NoPanic.normal ?_
          have D8 := Aside0.mk (T8.out.no (W2 := (w8.drewN nq).drew) ((Fr.drewN w8 nq).trans (Fr.of_No (below_drew (Below.refl _ _))) (fun _ _ h => h) (fun _ _ h => h)))
          obtain ⟨x0, x1, x2, x3, x4⟩ := D8.out.cells
          go_wp2_with fail
          refine wp_region_noPanic ?_
          refine start_ (n := 11) (S := fun w' => w'.cell? ⟨p2, 0, none⟩ = some (.pointer (some ⟨gs, 0, none⟩)) ∧ w'.cell? ⟨gs, 0, none⟩ = some (.slice Av j cv) ∧ w'.cell? ⟨bx, 0, none⟩ = some (.int .i64 (a : Int)) ∧ w'.cell? ⟨bx, 1, none⟩ = some (.int .i64 ((a : Int) + cnt)) ∧ w'.cell? ⟨bx, 2, none⟩ = some (.slice none 0 0)) (ds := [10]) #[false, false, false, false, false, false, false, false, false, false, false] (by kernel_rfl) rfl rfl ⟨x0, x1, x2, x3, x4⟩ (fun hHeld => ?_)
          refine take_ (i := 0) (N := some 67) (v := ?_) (a' := ?_) #[true, false, false, false, false, false, false, false, false, false, false] rfl rfl (by kernel_rfl) (fun _ _ _ h => h) (Or.inl ⟨by rfl, ?_⟩) hHeld ?_ ?_
          rotate_left
          · rintro w' ⟨s0, s1, s2, s3, s4⟩
            go_simp
            with_reducible rfl
          rotate_left
          · simp only [Act.put, List.setIfInBounds_toArray, List.set_cons_zero, List.set_cons_succ, i64_w, i32_w]
            rfl
          refine take_ (i := 1) (N := some 68) (v := ?_) (a' := ?_) #[true, true, false, false, false, false, false, false, false, false, false] rfl rfl (by kernel_rfl) (fun _ _ _ h => h) (Or.inl ⟨by rfl, ?_⟩) hHeld ?_ ?_
          rotate_left
          · rintro w' ⟨s0, s1, s2, s3, s4⟩
            go_simp
            with_reducible rfl
          rotate_left
          · simp only [Act.put, List.setIfInBounds_toArray, List.set_cons_zero, List.set_cons_succ, i64_w, i32_w]
            rfl
          refine pure_ (i := 2) (N := some 69) (v := ?_) (a' := ?_) #[true, true, true, false, false, false, false, false, false, false, false] rfl rfl (by kernel_rfl) (fun _ _ _ h => h) (Or.inl ⟨by rfl, ?_⟩) ?_ ?_
          rotate_left
          · intro w'
            go_simp
            with_reducible rfl
          rotate_left
          · simp only [Act.put, List.setIfInBounds_toArray, List.set_cons_zero, List.set_cons_succ, i64_w, i32_w]
            rfl
          refine pure_ (i := 3) (N := some 70) (v := ?_) (a' := ?_) #[true, true, true, true, false, false, false, false, false, false, false] rfl rfl (by kernel_rfl) (fun _ _ _ h => h) (Or.inl ⟨by rfl, ?_⟩) ?_ ?_
          rotate_left
          · intro w'
            go_simp
            with_reducible rfl
          rotate_left
          · simp only [Act.put, List.setIfInBounds_toArray, List.set_cons_zero, List.set_cons_succ, i64_w, i32_w]
            rfl
          refine take_ (i := 4) (N := some 71) (v := ?_) (a' := ?_) #[true, true, true, true, true, false, false, false, false, false, false] rfl rfl (by kernel_rfl) (fun _ _ _ h => h) (Or.inl ⟨by rfl, ?_⟩) hHeld ?_ ?_
          rotate_left
          · rintro w' ⟨s0, s1, s2, s3, s4⟩
            go_simp
            with_reducible rfl
          rotate_left
          · simp only [Act.put, List.setIfInBounds_toArray, List.set_cons_zero, List.set_cons_succ, i64_w, i32_w]
            rfl
          refine take_ (i := 5) (N := some 72) (v := ?_) (a' := ?_) #[true, true, true, true, true, true, false, false, false, false, false] rfl rfl (by kernel_rfl) (fun _ _ _ h => h) (Or.inl ⟨by rfl, ?_⟩) hHeld ?_ ?_
          rotate_left
          · rintro w' ⟨s0, s1, s2, s3, s4⟩
            go_simp
            with_reducible rfl
          rotate_left
          · simp only [Act.put, List.setIfInBounds_toArray, List.set_cons_zero, List.set_cons_succ, i64_w, i32_w]
            rfl
          refine one_ (i := 6) (N := some 73) #[true, true, true, true, true, true, true, false, false, false, false] rfl rfl (by kernel_rfl) (by decide) (fun K hK => ?_)
          refine value_ (w1 := ?_) (v := ?_) (by rfl) rfl ?_ ?_
          rotate_left 2
          · go_simp
            constructor
            · rfl
            · rfl
          have D9 := Aside0.mk (D8.out.no (W2 := ((w8.drewN nq).drew).alloc (.cells #[.int .i64 (a : Int), .int .i64 ((a : Int) + cnt), .slice none 0 0] 118)) (Fr.alloc (S := No) _ _))
          obtain ⟨y0, y1, y2, y3, y4⟩ := D9.out.cells
          refine hK.out _ _ ⟨y0, y1, y2, y3, y4⟩ (fun hHeld => ?_)
          clear hK K
          refine norm_ (a' := ?_) ?_ ?_
          rotate_left
          · show Act.put _ (some 73) _ = _
            simp only [Act.put, List.setIfInBounds_toArray, List.set_cons_zero, List.set_cons_succ, i64_w, i32_w]
            rfl
          refine one_ (i := 7) (N := some 74) #[true, true, true, true, true, true, true, true, false, false, false] rfl rfl (by kernel_rfl) (by decide) (fun K hK => ?_)
          refine step_append (((w8.drewN nq).drew).alloc (.cells #[.int .i64 (a : Int), .int .i64 ((a : Int) + cnt), .slice none 0 0] 118)) w.heap.size rfl (.tmp 71) (.tmp 73) 119 119 118 (.agg #[.int .i64 0, .int .i64 0, .slice none 0 0]) 3 40 (.slice 118) rfl Try.underlying119 Try.underlying119 (.inl ⟨_, rfl⟩) info118 rfl (.slice Av j cv) j ((H.map mk0).flatMap chkCells) (.slice (some ⟨((w8.drewN nq).drew).heap.size, 0, none⟩) 1 1) 1 [.int .i64 (a : Int), .int .i64 ((a : Int) + cnt), .slice none 0 0] rfl rfl (by have h := D9.out.ch.hdr; rwa [List.length_map, HLJ.out] at h) (src_chunk _ _ _ _ rfl) D9.out.op.bel.size HCB.out.1 HCB.out.2 ?_
          intro v9 w9 g1 _ g3 _
          obtain ⟨⟨u0, u1, u2, u3, u4⟩, uf, ub, hS⟩ := HeadT.app D9.out hg1 hg2 HE.out HL.out g1 g3
          obtain ⟨A9, c9, e9, _⟩ := Win.shape g1
          subst e9
          have HS9 := Aside0.mk hS
          clear g1 g3 hS
          refine hK.out _ _ ⟨u0, u1, u2, u3, u4⟩ (fun hHeld => ?_)
          clear hK K
          refine norm_ (a' := ?_) ?_ ?_
          rotate_left
          · show Act.put _ (some 74) _ = _
            simp only [Act.put, List.setIfInBounds_toArray, List.set_cons_zero, List.set_cons_succ, i64_w, i32_w]
            rfl
          refine pure_ (i := 8) (N := some 75) (v := ?_) (a' := ?_) #[true, true, true, true, true, true, true, true, true, false, false] rfl rfl (by kernel_rfl) (fun _ _ _ h => h) (Or.inl ⟨by rfl, ?_⟩) ?_ ?_
          rotate_left
          · intro w'
            go_simp
            with_reducible rfl
          rotate_left
          · simp only [Act.put, List.setIfInBounds_toArray, List.set_cons_zero, List.set_cons_succ, i64_w, i32_w]
            rfl
          refine pure_ (i := 9) (N := some 76) (v := ?_) (a' := ?_) #[true, true, true, true, true, true, true, true, true, true, false] rfl rfl (by kernel_rfl) (fun _ _ _ h => h) (Or.inl ⟨by rfl, ?_⟩) ?_ ?_
          rotate_left
          · intro w'
            go_simp
            with_reducible rfl
          rotate_left
          · simp only [Act.put, List.setIfInBounds_toArray, List.set_cons_zero, List.set_cons_succ, i64_w, i32_w]
            rfl
          refine last_ (i := 10) (N := none) #[true, true, true, true, true, true, true, true, true, true, true] rfl rfl (by kernel_rfl) (by decide) (fun K hK => ?_)
          refine skip_ (w1 := ?_) (by rfl) rfl ?_ ?_
          rotate_left
          · go_simp
            rfl
          refine hK.out _ _ ?_
          clear hK K
          refine done_ (by kernel_rfl) ?_

          refine NoPanic.normal ?_
          go_wp2_with fail
          go_roundw
          case rel => exact ⟨j + 1, a + cnt, j2, H ++ [(a, a + cnt, z)], _, by simp, by simp, by omega, by omega, HS9⟩
          case measure => simp [intOf]; omega
        · have HBAD := Aside0.mk (show storeF xs = none from HeadT.bad HS1.out HS2.out hlt T8.out HE.out HL.out hgood)
          refine Code.wp_mono (q40_mono (p2 := p2) (p3 := p3) (ds := [dfr p2 p3]) (PW := fun W => OpS w W p2 p3 g gs xs j2 f2 (.slice Av j cv) n) ?_) ?_
          · intro a' w' t2 t3 td hop
            have := open_fall (R := SOpenPost xs w) (ms := []) t2 t3 hop.b2 hop.b3 hop.bel hop.h2 hop.h3 (Marks.nil w w') (fun W' f => ⟨f, .inl ⟨HBAD.out, rfl⟩⟩)
            show LeavesInM Fence.wide 0 Try.prog Try.f40 a'.tmps (SOpenPost xs w) a'.defers (.panicking [corruptP]) w'
            rw [td]
            exact this
          by_cases hc0 : 0 < cnt
          · have hdec : decide ((a : Int) < (a : Int) + cnt) = true := by simp; omega
            have hbad : ¬ (f2 = 0 ∧ decide ((a : Int) + cnt ≤ n) = true) := by simp; omega
            clear hgood
            refine start_ (n := 16) (S := fun w' => w'.cell? ⟨bx, 0, none⟩ = some (.int .i64 (a : Int)) ∧ w'.cell? ⟨bx, 1, none⟩ = some (.int .i64 ((a : Int) + cnt)) ∧ w'.cell? ⟨p2, 0, none⟩ = some (.pointer (some ⟨gs, 0, none⟩)) ∧ w'.cell? ⟨gs, 1, none⟩ = some (.int .i64 (n : Int))) (ds := [15]) #[false, false, false, false, false, false, false, false, false, false, false, false, false, false, false, false] (by kernel_rfl) rfl rfl ⟨m0, m1, m2, m3⟩ (fun hHeld => ?_)
            refine pure_ (i := 0) (N := some 51) (v := ?_) (a' := ?_) #[true, false, false, false, false, false, false, false, false, false, false, false, false, false, false, false] rfl rfl (by kernel_rfl) (fun _ _ _ h => Q40.back (by decide) (by decide) h) (Or.inl ⟨by rfl, ?_⟩) ?_ ?_
            rotate_left
            · intro w'
              go_simp
              with_reducible rfl
            rotate_left
            · simp only [Act.put, List.setIfInBounds_toArray, List.set_cons_zero, List.set_cons_succ, i64_w, i32_w]
              rfl
            refine pure_ (i := 1) (N := some 52) (v := ?_) (a' := ?_) #[true, true, false, false, false, false, false, false, false, false, false, false, false, false, false, false] rfl rfl (by kernel_rfl) (fun _ _ _ h => Q40.back (by decide) (by decide) h) (Or.inl ⟨by rfl, ?_⟩) ?_ ?_
            rotate_left
            · intro w'
              go_simp
              with_reducible rfl
            rotate_left
            · simp only [Act.put, List.setIfInBounds_toArray, List.set_cons_zero, List.set_cons_succ, i64_w, i32_w]
              rfl
            refine pure_ (i := 3) (N := some 54) (v := ?_) (a' := ?_) #[true, true, false, true, false, false, false, false, false, false, false, false, false, false, false, false] rfl rfl (by kernel_rfl) (fun _ _ _ h => Q40.back (by decide) (by decide) h) (Or.inl ⟨by rfl, ?_⟩) ?_ ?_
            rotate_left
            · intro w'
              go_simp
              with_reducible rfl
            rotate_left
            · simp only [Act.put, List.setIfInBounds_toArray, List.set_cons_zero, List.set_cons_succ, i64_w, i32_w]
              rfl
            refine take_ (i := 2) (N := some 53) (v := ?_) (a' := ?_) #[true, true, true, true, false, false, false, false, false, false, false, false, false, false, false, false] rfl rfl (by kernel_rfl) (fun _ _ _ h => Q40.back (by decide) (by decide) h) (Or.inl ⟨by rfl, ?_⟩) hHeld ?_ ?_
            rotate_left
            · rintro w' ⟨s0, s1, s2, s3⟩
              go_simp
              with_reducible rfl
            rotate_left
            · simp only [Act.put, List.setIfInBounds_toArray, List.set_cons_zero, List.set_cons_succ, i64_w, i32_w]
              rfl
            refine take_ (i := 4) (N := some 55) (v := ?_) (a' := ?_) #[true, true, true, true, true, false, false, false, false, false, false, false, false, false, false, false] rfl rfl (by kernel_rfl) (fun _ _ _ h => Q40.back (by decide) (by decide) h) (Or.inl ⟨by rfl, ?_⟩) hHeld ?_ ?_
            rotate_left
            · rintro w' ⟨s0, s1, s2, s3⟩
              go_simp
              with_reducible rfl
            rotate_left
            · simp only [Act.put, List.setIfInBounds_toArray, List.set_cons_zero, List.set_cons_succ, i64_w, i32_w]
              rfl
            refine pure_ (i := 5) (N := some 56) (v := ?_) (a' := ?_) #[true, true, true, true, true, true, false, false, false, false, false, false, false, false, false, false] rfl rfl (by kernel_rfl) (fun _ _ _ h => Q40.back (by decide) (by decide) h) (Or.inl ⟨by rfl, ?_⟩) ?_ ?_
            rotate_left
            · intro w'
              go_simp
              with_reducible rfl
            rotate_left
            · simp only [Act.put, List.setIfInBounds_toArray, List.set_cons_zero, List.set_cons_succ, i64_w, i32_w]
              rfl
            refine pure_ (i := 6) (N := some 57) (v := ?_) (a' := ?_) #[true, true, true, true, true, true, true, false, false, false, false, false, false, false, false, false] rfl rfl (by kernel_rfl) (fun _ _ _ h => Q40.back (by decide) (by decide) h) (Or.inl ⟨by rfl, ?_⟩) ?_ ?_
            rotate_left
            · intro w'
              go_simp
              with_reducible rfl
            rotate_left
            · simp only [Act.put, List.setIfInBounds_toArray, List.set_cons_zero, List.set_cons_succ, i64_w, i32_w]
              rfl
            refine pure_ (i := 7) (N := some 58) (v := ?_) (a' := ?_) #[true, true, true, true, true, true, true, true, false, false, false, false, false, false, false, false] rfl rfl (by kernel_rfl) (fun _ _ _ h => Q40.back (by decide) (by decide) h) (Or.inl ⟨by rfl, ?_⟩) ?_ ?_
            rotate_left
            · intro w'
              go_simp
              with_reducible rfl
            rotate_left
            · simp only [Act.put, List.setIfInBounds_toArray, List.set_cons_zero, List.set_cons_succ, i64_w, i32_w]
              rfl
            refine take_ (i := 8) (N := some 59) (v := ?_) (a' := ?_) #[true, true, true, true, true, true, true, true, true, false, false, false, false, false, false, false] rfl rfl (by kernel_rfl) (fun _ _ _ h => Q40.back (by decide) (by decide) h) (Or.inl ⟨by rfl, ?_⟩) hHeld ?_ ?_
            rotate_left
            · rintro w' ⟨s0, s1, s2, s3⟩
              go_simp
              with_reducible rfl
            rotate_left
            · simp only [Act.put, List.setIfInBounds_toArray, List.set_cons_zero, List.set_cons_succ, i64_w, i32_w]
              rfl
            refine take_ (i := 9) (N := some 60) (v := ?_) (a' := ?_) #[true, true, true, true, true, true, true, true, true, true, false, false, false, false, false, false] rfl rfl (by kernel_rfl) (fun _ _ _ h => Q40.back (by decide) (by decide) h) (Or.inl ⟨by rfl, ?_⟩) hHeld ?_ ?_
            rotate_left
            · rintro w' ⟨s0, s1, s2, s3⟩
              go_simp
              with_reducible rfl
            rotate_left
            · simp only [Act.put, List.setIfInBounds_toArray, List.set_cons_zero, List.set_cons_succ, i64_w, i32_w]
              rfl
            refine pure_ (i := 10) (N := some 61) (v := ?_) (a' := ?_) #[true, true, true, true, true, true, true, true, true, true, true, false, false, false, false, false] rfl rfl (by kernel_rfl) (fun _ _ _ h => Q40.back (by decide) (by decide) h) (Or.inl ⟨by rfl, ?_⟩) ?_ ?_
            rotate_left
            · intro w'
              go_simp
              with_reducible rfl
            rotate_left
            · simp only [Act.put, List.setIfInBounds_toArray, List.set_cons_zero, List.set_cons_succ, i64_w, i32_w]
              rfl
            refine pure_ (i := 11) (N := some 62) (v := ?_) (a' := ?_) #[true, true, true, true, true, true, true, true, true, true, true, true, false, false, false, false] rfl rfl (by kernel_rfl) (fun _ _ _ h => Q40.back (by decide) (by decide) h) (Or.inl ⟨by rfl, ?_⟩) ?_ ?_
            rotate_left
            · intro w'
              go_simp
              with_reducible rfl
            rotate_left
            · simp only [Act.put, List.setIfInBounds_toArray, List.set_cons_zero, List.set_cons_succ, i64_w, i32_w]
              rfl
            refine take_ (i := 12) (N := some 63) (v := ?_) (a' := ?_) #[true, true, true, true, true, true, true, true, true, true, true, true, true, false, false, false] rfl rfl (by kernel_rfl) (fun _ _ _ h => Q40.back (by decide) (by decide) h) (Or.inl ⟨by rfl, ?_⟩) hHeld ?_ ?_
            rotate_left
            · rintro w' ⟨s0, s1, s2, s3⟩
              go_simp
              with_reducible rfl
            rotate_left
            · simp only [Act.put, List.setIfInBounds_toArray, List.set_cons_zero, List.set_cons_succ, i64_w, i32_w]
              rfl
            refine pure_ (i := 13) (N := some 64) (v := ?_) (a' := ?_) #[true, true, true, true, true, true, true, true, true, true, true, true, true, true, false, false] rfl rfl (by kernel_rfl) (fun _ _ _ h => Q40.back (by decide) (by decide) h) (Or.inl ⟨by rfl, ?_⟩) ?_ ?_
            rotate_left
            · intro w'
              go_simp
              with_reducible rfl
            rotate_left
            · simp only [Act.put, List.setIfInBounds_toArray, List.set_cons_zero, List.set_cons_succ, i64_w, i32_w]
              rfl
            refine pure_ (i := 14) (N := some 65) (v := ?_) (a' := ?_) #[true, true, true, true, true, true, true, true, true, true, true, true, true, true, true, false] rfl rfl (by kernel_rfl) (fun _ _ _ h => Q40.back (by decide) (by decide) h) (Or.inl ⟨by rfl, ?_⟩) ?_ ?_
            rotate_left
            · intro w'
              go_simp
              with_reducible rfl
            rotate_left
            · simp only [Act.put, List.setIfInBounds_toArray, List.set_cons_zero, List.set_cons_succ, i64_w, i32_w]
              rfl
            refine last_ (i := 15) (N := some 66) #[true, true, true, true, true, true, true, true, true, true, true, true, true, true, true, true] rfl rfl (by kernel_rfl) (by decide) (fun K hK => ?_)
            rw [if_pos (by rfl)]
            go_simp
            go_at_call 86
            refine (good_pan _ w.heap.size g j2 xs f2 (decide ((a : Int) + cnt ≤ n)) hbad (T8.out.op.no (Fr.of_No (below_drew (Below.refl _ _)))).rd).mono ?_
            rintro e' wz ⟨rfl, hz⟩
            have hz' := hz.symm
            subst hz'
            exact ⟨rfl, rfl, rfl, rfl, T8.out.op.no (Fr.of_No (below_drew (Below.refl _ _)))⟩
          · have hdec : decide ((a : Int) < (a : Int) + cnt) = false := by simp; omega
            have hbad : ¬ (f2 = 0 ∧ false = true) := by simp
            clear hgood
            refine start_ (n := 16) (S := fun w' => w'.cell? ⟨bx, 0, none⟩ = some (.int .i64 (a : Int)) ∧ w'.cell? ⟨bx, 1, none⟩ = some (.int .i64 ((a : Int) + cnt)) ∧ w'.cell? ⟨p2, 0, none⟩ = some (.pointer (some ⟨gs, 0, none⟩)) ∧ w'.cell? ⟨gs, 1, none⟩ = some (.int .i64 (n : Int))) (ds := [15]) #[false, false, false, false, false, false, false, false, false, false, false, false, false, false, false, false] (by kernel_rfl) rfl rfl ⟨m0, m1, m2, m3⟩ (fun hHeld => ?_)
            refine pure_ (i := 0) (N := some 51) (v := ?_) (a' := ?_) #[true, false, false, false, false, false, false, false, false, false, false, false, false, false, false, false] rfl rfl (by kernel_rfl) (fun _ _ _ h => Q40.back (by decide) (by decide) h) (Or.inl ⟨by rfl, ?_⟩) ?_ ?_
            rotate_left
            · intro w'
              go_simp
              with_reducible rfl
            rotate_left
            · simp only [Act.put, List.setIfInBounds_toArray, List.set_cons_zero, List.set_cons_succ, i64_w, i32_w]
              rfl
            refine pure_ (i := 1) (N := some 52) (v := ?_) (a' := ?_) #[true, true, false, false, false, false, false, false, false, false, false, false, false, false, false, false] rfl rfl (by kernel_rfl) (fun _ _ _ h => Q40.back (by decide) (by decide) h) (Or.inl ⟨by rfl, ?_⟩) ?_ ?_
            rotate_left
            · intro w'
              go_simp
              with_reducible rfl
            rotate_left
            · simp only [Act.put, List.setIfInBounds_toArray, List.set_cons_zero, List.set_cons_succ, i64_w, i32_w]
              rfl
            refine pure_ (i := 3) (N := some 54) (v := ?_) (a' := ?_) #[true, true, false, true, false, false, false, false, false, false, false, false, false, false, false, false] rfl rfl (by kernel_rfl) (fun _ _ _ h => Q40.back (by decide) (by decide) h) (Or.inl ⟨by rfl, ?_⟩) ?_ ?_
            rotate_left
            · intro w'
              go_simp
              with_reducible rfl
            rotate_left
            · simp only [Act.put, List.setIfInBounds_toArray, List.set_cons_zero, List.set_cons_succ, i64_w, i32_w]
              rfl
            refine take_ (i := 2) (N := some 53) (v := ?_) (a' := ?_) #[true, true, true, true, false, false, false, false, false, false, false, false, false, false, false, false] rfl rfl (by kernel_rfl) (fun _ _ _ h => Q40.back (by decide) (by decide) h) (Or.inl ⟨by rfl, ?_⟩) hHeld ?_ ?_
            rotate_left
            · rintro w' ⟨s0, s1, s2, s3⟩
              go_simp
              with_reducible rfl
            rotate_left
            · simp only [Act.put, List.setIfInBounds_toArray, List.set_cons_zero, List.set_cons_succ, i64_w, i32_w]
              rfl
            refine take_ (i := 4) (N := some 55) (v := ?_) (a' := ?_) #[true, true, true, true, true, false, false, false, false, false, false, false, false, false, false, false] rfl rfl (by kernel_rfl) (fun _ _ _ h => Q40.back (by decide) (by decide) h) (Or.inl ⟨by rfl, ?_⟩) hHeld ?_ ?_
            rotate_left
            · rintro w' ⟨s0, s1, s2, s3⟩
              go_simp
              with_reducible rfl
            rotate_left
            · simp only [Act.put, List.setIfInBounds_toArray, List.set_cons_zero, List.set_cons_succ, i64_w, i32_w]
              rfl
            refine pure_ (i := 5) (N := some 56) (v := ?_) (a' := ?_) #[true, true, true, true, true, true, false, false, false, false, false, false, false, false, false, false] rfl rfl (by kernel_rfl) (fun _ _ _ h => Q40.back (by decide) (by decide) h) (Or.inl ⟨by rfl, ?_⟩) ?_ ?_
            rotate_left
            · intro w'
              go_simp
              with_reducible rfl
            rotate_left
            · simp only [Act.put, List.setIfInBounds_toArray, List.set_cons_zero, List.set_cons_succ, i64_w, i32_w]
              rfl
            refine pure_ (i := 6) (N := some 57) (v := ?_) (a' := ?_) #[true, true, true, true, true, true, true, false, false, false, false, false, false, false, false, false] rfl rfl (by kernel_rfl) (fun _ _ _ h => Q40.back (by decide) (by decide) h) (Or.inl ⟨by rfl, ?_⟩) ?_ ?_
            rotate_left
            · intro w'
              go_simp
              with_reducible rfl
            rotate_left
            · simp only [Act.put, List.setIfInBounds_toArray, List.set_cons_zero, List.set_cons_succ, i64_w, i32_w]
              rfl
            refine pure_ (i := 7) (N := some 58) (v := undef) (a' := ?_) #[true, true, true, true, true, true, true, true, false, false, false, false, false, false, false, false] rfl rfl (by kernel_rfl) (fun _ _ _ h => Q40.back (by decide) (by decide) h) (Or.inr ⟨by rfl, rfl⟩) ?_ ?_
            rotate_left
            · simp only [Act.put, List.setIfInBounds_toArray, List.set_cons_zero, List.set_cons_succ, i64_w, i32_w]
              rfl
            refine pure_ (i := 8) (N := some 59) (v := undef) (a' := ?_) #[true, true, true, true, true, true, true, true, true, false, false, false, false, false, false, false] rfl rfl (by kernel_rfl) (fun _ _ _ h => Q40.back (by decide) (by decide) h) (Or.inr ⟨by rfl, rfl⟩) ?_ ?_
            rotate_left
            · simp only [Act.put, List.setIfInBounds_toArray, List.set_cons_zero, List.set_cons_succ, i64_w, i32_w]
              rfl
            refine pure_ (i := 9) (N := some 60) (v := undef) (a' := ?_) #[true, true, true, true, true, true, true, true, true, true, false, false, false, false, false, false] rfl rfl (by kernel_rfl) (fun _ _ _ h => Q40.back (by decide) (by decide) h) (Or.inr ⟨by rfl, rfl⟩) ?_ ?_
            rotate_left
            · simp only [Act.put, List.setIfInBounds_toArray, List.set_cons_zero, List.set_cons_succ, i64_w, i32_w]
              rfl
            refine pure_ (i := 10) (N := some 61) (v := undef) (a' := ?_) #[true, true, true, true, true, true, true, true, true, true, true, false, false, false, false, false] rfl rfl (by kernel_rfl) (fun _ _ _ h => Q40.back (by decide) (by decide) h) (Or.inr ⟨by rfl, rfl⟩) ?_ ?_
            rotate_left
            · simp only [Act.put, List.setIfInBounds_toArray, List.set_cons_zero, List.set_cons_succ, i64_w, i32_w]
              rfl
            refine pure_ (i := 11) (N := some 62) (v := undef) (a' := ?_) #[true, true, true, true, true, true, true, true, true, true, true, true, false, false, false, false] rfl rfl (by kernel_rfl) (fun _ _ _ h => Q40.back (by decide) (by decide) h) (Or.inr ⟨by rfl, rfl⟩) ?_ ?_
            rotate_left
            · simp only [Act.put, List.setIfInBounds_toArray, List.set_cons_zero, List.set_cons_succ, i64_w, i32_w]
              rfl
            refine pure_ (i := 12) (N := some 63) (v := undef) (a' := ?_) #[true, true, true, true, true, true, true, true, true, true, true, true, true, false, false, false] rfl rfl (by kernel_rfl) (fun _ _ _ h => Q40.back (by decide) (by decide) h) (Or.inr ⟨by rfl, rfl⟩) ?_ ?_
            rotate_left
            · simp only [Act.put, List.setIfInBounds_toArray, List.set_cons_zero, List.set_cons_succ, i64_w, i32_w]
              rfl
            refine pure_ (i := 13) (N := some 64) (v := undef) (a' := ?_) #[true, true, true, true, true, true, true, true, true, true, true, true, true, true, false, false] rfl rfl (by kernel_rfl) (fun _ _ _ h => Q40.back (by decide) (by decide) h) (Or.inr ⟨by rfl, rfl⟩) ?_ ?_
            rotate_left
            · simp only [Act.put, List.setIfInBounds_toArray, List.set_cons_zero, List.set_cons_succ, i64_w, i32_w]
              rfl
            refine pure_ (i := 14) (N := some 65) (v := ?_) (a' := ?_) #[true, true, true, true, true, true, true, true, true, true, true, true, true, true, true, false] rfl rfl (by kernel_rfl) (fun _ _ _ h => Q40.back (by decide) (by decide) h) (Or.inl ⟨by rfl, ?_⟩) ?_ ?_
            rotate_left
            · intro w'
              go_simp
              with_reducible rfl
            rotate_left
            · simp only [Act.put, List.setIfInBounds_toArray, List.set_cons_zero, List.set_cons_succ, i64_w, i32_w]
              rfl
            refine last_ (i := 15) (N := some 66) #[true, true, true, true, true, true, true, true, true, true, true, true, true, true, true, true] rfl rfl (by kernel_rfl) (by decide) (fun K hK => ?_)
            rw [if_pos (by rfl)]
            go_simp
            go_at_call 86
            refine (good_pan _ w.heap.size g j2 xs f2 false hbad (T8.out.op.no (Fr.of_No (below_drew (Below.refl _ _)))).rd).mono ?_
            rintro e' wz ⟨rfl, hz⟩
            have hz' := hz.symm
            subst hz'
            exact ⟨rfl, rfl, rfl, rfl, T8.out.op.no (Fr.of_No (below_drew (Below.refl _ _)))⟩
      · obtain rfl : K = j := by omega
        iterate 16 go_step
        exact open_mid HL.out HRD.out HB.out HCC.out hnx hn1 hK1 ha HS1.out HS2.out HH.out
  · have HZ := Aside0.mk (storeF_bad2 HS1.out HS2.out he2)
    go_wp2_with (first | (go_at_call 86; go_must (refine (good_err w4 w.heap.size g i2 xs e2 he2 true O4.out.rd).mono ?_; rintro e' wz ⟨rfl, hz⟩; have hz' := hz.symm; subst hz')))
    exact open_fall (ms := []) rfl rfl O4.out.b2 O4.out.b3 O4.out.bel O4.out.h2 O4.out.h3 (Marks.nil w w4) (fun W' f => ⟨f, .inl ⟨HZ.out, rfl⟩⟩)
end Go.Proofs.Ytchcimkmjoegdaa.C
namespace Go.Proofs.Ytchcimkmjoegdaa.C
open Go.RowKit Go.Proofs.YtchcimkmjoegdaaW.PrintWords Go.Proofs.YtchcimkmjoegdaaW.PrintMore Go.Proofs.Ytchcimkmjoegdaa.M
set_option linter.unusedVariables false
set_option linter.unusedSimpArgs false
attribute [local go_sem] Oper.semAt_some

theorem docB_small {d : List Ent} (ho : okD d = true) (h : ∀ e ∈ d, I64 e.ns) : (docB d).length ≤ 268170 := by
  unfold okD at ho
  rw [Bool.and_eq_true, decide_eq_true_eq, List.all_eq_true] at ho
  unfold docB
  rw [List.length_append]
  have a1 := uenc_10 d.length (by omega)
  have a2 := flat_len entB 4190 d (fun e he => entB_len (ho.2 e he) (h e he))
  omega
theorem byt_docB (d : List Ent) : Byt (docB d) := by
  refine Byt.app (byt_uenc _) (byt_flat entB (fun e => ?_) d)
  refine Byt.app (Byt.app (Byt.app (Byt.app (byt_uenc _) (byt_str _)) (Byt.app (byt_uenc _) (byt_str _))) (byt_uenc _)) ?_
  exact byt_flat _ (fun q => byt_uenc _) _
theorem Fine.len {d : List (List Ent)} (h : Fine d) : d.length ≤ 16384 := by
  have h := h.1
  unfold okDs at h
  rw [Bool.and_eq_true, decide_eq_true_eq] at h
  exact h.1
theorem Fine.doc {d : List (List Ent)} (h : Fine d) {x : List Ent} (hx : x ∈ d) : okD x = true ∧ ∀ e ∈ x, I64 e.ns := by
  have h1 := h.1
  unfold okDs at h1
  rw [Bool.and_eq_true, List.all_eq_true] at h1
  exact ⟨h1.2 x hx, h.2 x hx⟩
theorem Fine.small {d : List (List Ent)} (h : Fine d) : ∀ c ∈ cutsF d, c.b.length ≤ 300000 := fun c hc => cutN_small (B := d.map docB) (fun b hb => by
  obtain ⟨x, hx, rfl⟩ := List.mem_map.1 hb
  exact docB_small (h.doc hx).1 (h.doc hx).2) _ c hc
theorem cutsF_byt {d : List (List Ent)} {c : Chk} (hc : c ∈ cutsF d) : Byt c.b := by
  rw [(cutsF_row d).2 c hc]
  exact byt_flat docB byt_docB _
/-- A store that was opened. -/
structure StoD (W : World) (B gs : Nat) (v : Value) (C : List (Value × Chk)) (d : List (List Ent)) : Prop where
  st : W.heap[gs]? = some (.cells #[v, .int .i64 (d.length : Int)] 121 (0, 0))
  ch : ChS W B v C
  eq : C.map Prod.snd = cutsF d
  fine : Fine d
theorem StoD.no {W W' : World} {B gs : Nat} {v : Value} {C : List (Value × Chk)} {d : List (List Ent)} (h : StoD W B gs v C d) (f : Fr No W W') : StoD W' B gs v C d := ⟨f.get h.st (fun h => h), h.ch.no f, h.eq, h.fine⟩
theorem lk_lt : ∀ {C : List Chk} {a b : Nat}, Lk a C b → ∀ c ∈ C, c.f < c.t
  | [], a, b, _, c, hc => (nomatch hc)
  | x :: C, a, b, h, c, hc => by
    obtain ⟨h1, h2, h3⟩ := h
    rcases List.mem_cons.1 hc with rfl | hc
    · exact h2
    · exact lk_lt h3 c hc
theorem lk_mono : ∀ {C : List Chk} {a b : Nat}, Lk a C b → ∀ (i j : Nat) (p q : Chk), i ≤ j → C[i]? = some p → C[j]? = some q → a ≤ p.f ∧ p.t ≤ q.t ∧ q.t ≤ b ∧ (i < j → p.t ≤ q.f)
  | [], a, b, _, i, j, p, q, _, h, _ => by simp at h
  | c :: C, a, b, h, i, j, p, q, hij, hi, hj => by
    obtain ⟨h1, h2, h3⟩ := h
    have hle := (row_flat (d := List.replicate b []) h3 (by simp)).2
    cases j with
    | zero =>
      obtain rfl : i = 0 := by omega
      rw [hi] at hj
      injection hj with hj
      subst hj
      injection hi with hi
      subst hi
      exact ⟨by omega, Nat.le_refl _, hle, fun h => by omega⟩
    | succ j =>
      cases i with
      | zero =>
        have hi' : c = p := by simpa using hi
        subst hi'
        have hj' : C[j]? = some q := by simpa using hj
        obtain ⟨k1, k2, k3, _⟩ := lk_mono h3 j j q q (Nat.le_refl _) hj' hj'
        have hqq := lk_lt h3 q (List.mem_of_getElem? hj')
        exact ⟨by omega, by omega, k3, fun _ => k1⟩
      | succ i =>
        have hi' : C[i]? = some p := by simpa using hi
        have hj' : C[j]? = some q := by simpa using hj
        obtain ⟨k1, k2, k3, k4⟩ := lk_mono h3 i j p q (by omega) hi' hj'
        exact ⟨by omega, k2, k3, fun h => k4 (by omega)⟩
end Go.Proofs.Ytchcimkmjoegdaa.C
namespace Go.Proofs.Ytchcimkmjoegdaa.C
open Go.RowKit Go.Proofs.YtchcimkmjoegdaaW.PrintWords Go.Proofs.YtchcimkmjoegdaaW.PrintMore Go.Proofs.Ytchcimkmjoegdaa.M
set_option linter.unusedVariables false
set_option linter.unusedSimpArgs false

theorem small_bound8 {n : Nat} (h : n ≤ 17592186043905) : n ≤ maxLen ∧ (n + n / 4 + 700) * 8 ≤ 281474976710656 := by
  simp only [maxLen]; omega
set_option maxHeartbeats 1000000 in
/-- kit.LentInt64s: the numbers in memory of their own, a mark behind them. -/
theorem LentInts_any (w : World) (A : Option Addr) (n c : Nat) (xs : List Int) (hr : RdV w A (nums .i64 xs)) (hl : xs.length = n) (hc : n ≤ c) (hn : n ≤ 17592186043904) :
    Calls Try.prog 116 #[.slice A n c] w fun e w' => ∃ A' c', e = .returned (.slice A' n c') ∧ Win w' w.heap.size 2 1 (.slice A' (n + 1) c') (n + 1) (nums .i64 (xs ++ [-7171])) ∧ Fr No w w' := by
  have HS := Aside0.mk (Src.of_rd (P := Try.prog) (size := 1) (m := n) (c := c) hr (by simp [nums, hl]) (nums_one _ _))
  have HB := Aside0.mk (small_bound8 (n := n) (by omega))
  have HB1 := Aside0.mk (small_bound8 (n := n + 1) (by omega))
  obtain ⟨i0, hi, _, hsz, _⟩ := info_parts info2
  have hcut := fun (A : Option Addr) (c : Nat) (h : n + 1 ≤ c) => cuth (P := Try.prog) 45 2 .i64 Try.underlying45 hi A (n + 1) c n (by omega)
  have HC := Aside0.mk hcut
  have hn' : (n : Int) ≤ 9223372036854775807 := by omega
  clear hr hl hi hsz hcut
  go_enter Try.func116, Try.ntmps116
  go_wp2_with (first | ((with_reducible refine gate_builtin (b := .append) (xs := #[.tmp 4, .tmp 5]) rfl ?_); at_builtin; go_must (refine wpl_append w w.heap.size rfl (.tmp 4) (.tmp 5) 45 45 2 (.int .i64 0) 1 8 (.slice 2) rfl Try.underlying45 Try.underlying45 (.inl ⟨_, rfl⟩) info2 rfl (.slice none 0 0) 0 [] (.slice A n c) n (nums .i64 xs) rfl rfl (Win.nil _ _ _ _) HS.out (Nat.le_refl _) (by simpa using HB.out.1) (by simpa using HB.out.2) ?_; intro v1 w1 g1 _ g3 _; have G1 := Aside0.mk g1; have G3 := Aside0.mk g3; clear g1 g3)) | ((with_reducible refine gate_builtin (b := .append) (xs := #[.tmp 7, .tmp 8]) rfl ?_); at_builtin; go_must (refine wpl_append1 w1 w.heap.size rfl (.tmp 7) (.tmp 8) 45 2 (.int .i64 0) 1 8 rfl Try.underlying45 info2 rfl v1 n (nums .i64 xs) [.int .i64 (-7171)] rfl rfl (by simpa using G1.out) rfl (by simp [Value.oneCell']) G3.out.size HB1.out.1 HB1.out.2 ?_; intro v2 w2 k1 _ k3 _; have K1 := Aside0.mk k1; have K3 := Aside0.mk k3; clear k1 k3; obtain ⟨A2, c2, e2, l2⟩ := K1.out.shape; subst e2; have hcut := HC.out A2 c2 l2)))
  go_ret
  have F1 : Fr No w w1 := G3.out.mono (fun k hk h => (At.none h).elim)
  refine ⟨A2, c2, rfl, by simpa [nums] using K1.out, F1.trans K3.out (fun _ _ h => h) (fun k hk h => ?_)⟩
  exact ((show Win w1 w.heap.size 2 1 v1 n (nums .i64 xs) by simpa using G1.out).young h hk).elim
set_option maxHeartbeats 1000000 in
/-- kit.KeptInt64s: the numbers and the mark behind them. -/
theorem KeptInts_any (w : World) (A B : Option Addr) (n c d n' : Nat) (xs ys : List Int) (x : Int) (hx : RdV w A (nums .i64 (xs ++ [x]))) (hy : RdV w B (nums .i64 ys)) (hl : xs.length = n) (hl' : ys.length = n') (hn : n + 1 ≤ 9223372036854775807) (hn' : n' ≤ 9223372036854775807) (hc : n + 1 ≤ c) (hd : n' ≤ d) :
    Calls Try.prog 119 #[.slice A n c, .slice B n' d] w fun e w' => e = .returned (.bool (decide (xs = ys) && decide (x = -7171))) ∧ ∃ m, w' = w.drewN m := by
  have HB := KInts_any w A B n n' c d xs ys (by have := RdV.take hx n; rw [nums_take, ← hl, List.take_left] at this; exact this) hy hl hl' (by omega) hn' (by omega) hd
  obtain ⟨ad, eA, hcell⟩ := rd_at (i := n) (x := x) hx (by rw [← hl]; simp)
  subst eA
  obtain ⟨i0, hi, _, hsz, _⟩ := info_parts info2
  have hcut := cuth (P := Try.prog) 45 2 .i64 Try.underlying45 hi (some ad) n c (n + 1) hc
  simp only [Int.natCast_add, Int.natCast_one] at hcut
  have hn1 : (n : Int) + 1 ≤ 9223372036854775807 := by omega
  clear hx hy hi hsz hl hl'
  by_cases hxy : xs = ys
  · rw [decide_eq_true hxy] at HB ⊢
    have H := Aside0.mk HB
    clear HB hxy
    go_enter Try.func119, Try.ntmps119
    go_wp2_with (go_at_call 92; go_must (refine H.out.mono ?_; rintro e' w1 ⟨rfl, m, rfl⟩))
    go_ret
    exact ⟨congrArg (fun b => Ending.returned (.bool b)) (show (x == -7171) = (true && decide (x = -7171)) by rw [Bool.true_and]; rfl), m, rfl⟩
  · rw [decide_eq_false hxy] at HB ⊢
    have H := Aside0.mk HB
    clear HB hxy
    go_enter Try.func119, Try.ntmps119
    go_wp2_with (go_at_call 92; go_must (refine H.out.mono ?_; rintro e' w1 ⟨rfl, m, rfl⟩))
    go_ret
    exact ⟨rfl, m, rfl⟩
end Go.Proofs.Ytchcimkmjoegdaa.C
namespace Go.Proofs.Ytchcimkmjoegdaa.C
open Go.RowKit Go.Proofs.YtchcimkmjoegdaaW.PrintWords Go.Proofs.YtchcimkmjoegdaaW.PrintMore Go.Proofs.Ytchcimkmjoegdaa.M
set_option linter.unusedVariables false
set_option linter.unusedSimpArgs false

/-- Lent numbers: a mark lies behind them. -/
def LentI (W : World) (B : Nat) (p : Value × Ent) : Prop := ∃ A c, p.1 = .slice A p.2.ns.length c ∧ Win W B 2 1 (.slice A (p.2.ns.length + 1) c) (p.2.ns.length + 1) (nums .i64 (p.2.ns ++ [-7171]))
theorem LentI.below {W W' : World} {B : Nat} {p : Value × Ent} (h : LentI W B p) (hb : Below W.heap.size W W') : LentI W' B p := by
  obtain ⟨A, c, h1, h2⟩ := h
  exact ⟨A, c, h1, h2.below hb⟩
/-- A list of entries that grows is turned: the numbers stay. -/
theorem LentI.fr {W W' : World} {B B' size n : Nat} {t : TypeId} {v : Value} {xs : List Value} {p : Value × Ent} (h : LentI W B p) (hv : Win W B' t size v n xs) (ht : 2 ≠ t) (f : Fr (At v) W W') : LentI W' B p := by
  obtain ⟨A, c, h1, h2⟩ := h
  exact ⟨A, c, h1, h2.fr f (fun k hk hv' => win_apart h2 hv ht hk hv')⟩
def markC : List Value := [.string ⟨#[109, 97, 114, 107]⟩, .string ByteArray.empty, .slice none 0 0]
/-- Lent entries: a mark lies behind them. -/
def LentD (W : World) (B : Nat) (v : Value) (E : List (Value × Ent)) : Prop := ∃ A c, v = .slice A E.length c ∧ Win W B 134 3 (.slice A (E.length + 1) c) (E.length + 1) (E.flatMap entCells ++ markC) ∧ ∀ p ∈ E, LentI W B p
theorem LentD.below {W W' : World} {B : Nat} {v : Value} {E : List (Value × Ent)} (h : LentD W B v E) (hb : Below W.heap.size W W') : LentD W' B v E := by
  obtain ⟨A, c, h1, h2, h3⟩ := h
  exact ⟨A, c, h1, h2.below hb, fun p hp => (h3 p hp).below hb⟩
theorem LentD.lower {W : World} {B B' : Nat} {v : Value} {E : List (Value × Ent)} (h : LentD W B v E) (hb : B' ≤ B) : LentD W B' v E := by
  obtain ⟨A, c, h1, h2, h3⟩ := h
  exact ⟨A, c, h1, h2.lower hb, fun p hp => by obtain ⟨A2, c2, k1, k2⟩ := h3 p hp; exact ⟨A2, c2, k1, k2.lower hb⟩⟩
theorem LentD.fr {W W' : World} {B B' size n : Nat} {t : TypeId} {v u : Value} {xs : List Value} {E : List (Value × Ent)} (h : LentD W B v E) (hv : Win W B' t size u n xs) (ht : 2 ≠ t) (ht' : 134 ≠ t) (f : Fr (At u) W W') : LentD W' B v E := by
  obtain ⟨A, c, h1, h2, h3⟩ := h
  exact ⟨A, c, h1, h2.fr f (fun k hk hv' => win_apart h2 hv ht' hk hv'), fun p hp => (h3 p hp).fr hv ht f⟩
/-- The state of LentEntries' loop. -/
structure LentS (w W : World) (v : Value) (D : List Ent) (E : List (Value × Ent)) : Prop where
  hdr : Win W w.heap.size 134 3 v E.length (E.flatMap entCells)
  part : ∀ p ∈ E, LentI W w.heap.size p
  all : E.map Prod.snd = D
  fr : Fr No w W
theorem LentS.step {w wo w1 w3 : World} {v v1 : Value} {D : List Ent} {E : List (Value × Ent)} {e : Ent} {A2 : Option Addr} {c2 : Nat} {u : Value} (h : LentS w wo v D E)
    (hu : Win w1 wo.heap.size 2 1 (.slice A2 (e.ns.length + 1) c2) (e.ns.length + 1) (nums .i64 (e.ns ++ [-7171]))) (f1 : Fr No wo w1) (hb : ∃ cs, w1.heap[wo.heap.size]? = some (.cells cs 134 (0, 0)))
    (g1 : Win w3 w.heap.size 134 3 v1 (E.length + 1) (E.flatMap entCells ++ entCells (.slice A2 e.ns.length c2, e))) (g3 : Fr (At v) (w1.setCell ⟨wo.heap.size, 2, none⟩ u) w3) : LentS w w3 v1 (D ++ [e]) (E ++ [(.slice A2 e.ns.length c2, e)]) := by
  have f2 : Fr (One wo.heap.size) w1 (w1.setCell ⟨wo.heap.size, 2, none⟩ u) := Fr.setCell w1 _ _ rfl
  have f3 : Fr No wo (w1.setCell ⟨wo.heap.size, 2, none⟩ u) := f1.trans f2 (fun _ _ h => h) (fun k hk hs => by have hs' : k = wo.heap.size := hs; omega)
  have hv2 := h.hdr.below f3.no
  obtain ⟨cs, hb⟩ := hb
  refine ⟨by rw [List.length_append, List.flatMap_append]; simpa using g1, fun p hp => ?_, by rw [List.map_append, h.all]; rfl, ?_⟩
  · rcases List.mem_append.1 hp with hp | hp
    · exact ((h.part p hp).below f3.no).fr hv2 (by decide) g3
    · simp only [List.mem_cons, List.mem_nil_iff, or_false] at hp
      subst hp
      have hu2 := (hu.fr f2 (fun k hk hs => by have hs' : k = wo.heap.size := hs; subst hs'; exact absurd (hu.ne_type hk hb) (by decide))).lower (base' := w.heap.size) h.fr.size
      exact LentI.fr ⟨A2, c2, rfl, hu2⟩ hv2 (by decide) g3
  · exact (h.fr.trans f3 (fun _ _ h => h) (fun _ _ h => h)).trans g3 (fun _ _ h => h) (fun k hk hs => by have := (hv2.at_ hs).1; omega)
theorem lentD_bound {n : Nat} (h : n ≤ 2513169434845) : n + 1 ≤ maxLen ∧ (n + 1 + (n + 1) / 4 + 700) * 56 ≤ 281474976710656 := by
  simp only [maxLen]; omega
theorem mapd_len {D E : List (Value × Ent)} {i : Nat} (h : E.map Prod.snd = (D.take i).map Prod.snd) (hi : i ≤ D.length) : E.length = i := by
  have := congrArg List.length h
  simp at this
  omega
set_option maxRecDepth 100000 in
set_option maxHeartbeats 2000000 in
theorem LentEntries_any (w : World) (A : Option Addr) (n c : Nat) (D : List (Value × Ent)) (h : DocR w A n c D) :
    Calls Try.prog 94 #[.slice A n c] w fun e w' => ∃ v E, e = .returned v ∧ LentD w' w.heap.size v E ∧ E.map Prod.snd = D.map Prod.snd ∧ Fr No w w' := by
  have hmax := h.max
  have hN : n ≤ 9223372036854775807 := by omega
  have H := Aside0.mk h
  have HMX := Aside0.mk hmax
  clear h hmax
  go_enter Try.func94, Try.ntmps94
  go_wp2_with fail
  go_loopw [3, 4] (fun v3 v4 wr => ∃ i : Nat, v4 = .int .i64 i ∧ i ≤ n ∧ Aside0 (∃ E, LentS w wr v3 ((D.take i).map Prod.snd) E)) (fun _ v4 _ => n - (intOf v4).toNat)
  case atStart => exact ⟨0, rfl, by omega, ⟨[], Win.nil _ _ _ _, fun p hp => (nomatch hp), rfl, Fr.refl _ _⟩⟩
  case round =>
    obtain ⟨i, rfl, hi, HI⟩ := hrel
    obtain ⟨E, hE⟩ := HI.out
    obtain ⟨wo, rfl⟩ : ∃ wo : World, wo = wr := ⟨_, rfl⟩
    have HE := Aside0.mk hE
    by_cases hlt : i < n
    · obtain ⟨⟨pv, f, t, ns⟩, hp⟩ := get_some' (xs := D) (i := i) (by have := H.out.len; omega)
      have da := H.out.below hE.fr.no
      obtain ⟨a1, e1, h10, h11, h12⟩ := ent_at da.hdr hp
      subst e1
      obtain ⟨A1, c1, f1, f2, f3, f4, f5, _⟩ := da.part _ (List.mem_of_getElem? hp)
      obtain rfl : pv = .slice A1 ns.length c1 := f1
      simp only at h10 h11 h12
      have HP := Aside0.mk hp
      have HR := Aside0.mk f3
      have HC := Aside0.mk f2
      have HM := Aside0.mk (show ns.length ≤ 17592186043904 from f5)
      clear hp f2 f3 f4 f5 da hE
      generalize hl1 : ns.length = l1 at *
      have HL := Aside0.mk hl1
      clear hl1
      have HEL := Aside0.mk (mapd_len HE.out.all (by have := H.out.len; omega))
      have HLB := Aside0.mk (lentD_bound (n := i) (by have := HMX.out; omega))
      have HLI := Aside0.mk (LentInts_any (wo.alloc (Obj.cells #[Value.string f, Value.string t, Value.slice A1 l1 c1] 134)) A1 l1 c1 ns (HR.out.below (below_alloc (Below.refl _ _) _)) HL.out HC.out HM.out)
      have HBX := Aside0.mk (heap_alloc_new wo (Obj.cells #[Value.string f, Value.string t, Value.slice A1 l1 c1] 134))
      go_wp2_with (first | ((with_reducible refine gate_builtin (b := .append) (xs := #[.tmp 20, .tmp 22]) rfl ?_); at_builtin; go_must (refine wpl_append1 (w1.setCell ⟨wo.heap.size, 2, none⟩ (.slice A2 l1 c2)) w.heap.size rfl (.tmp 20) (.tmp 22) 52 134 (.agg #[.string ByteArray.empty, .string ByteArray.empty, .slice none 0 0]) 3 56 rfl Try.underlying52 info134 rfl u3 i (E.flatMap entCells) [.string f, .string t, .slice A2 l1 c2] rfl (by show Value.slice (some ⟨w1.heap.size, 0, none⟩) 1 1 = _; simp) (by have h := HE.out.hdr.below F3.out.no; rwa [HEL.out] at h) rfl (by simp [Value.oneCell']) (Nat.le_trans HE.out.fr.size F3.out.size) HLB.out.1 HLB.out.2 ?_; intro v3 w3 g1 _ g3 _; have G1 := Aside0.mk g1; have G3 := Aside0.mk g3; clear g1 g3)) | (go_at_call 116; go_must (refine HLI.out.mono ?_; rintro e' w1 ⟨A2, c2, rfl, q1, q2⟩; have Q1 := Aside0.mk q1; have Q2 := Aside0.mk q2; have HB1 := Aside0.mk (q2.get HBX.out (fun h => h)); have F3 := Aside0.mk (show Fr No wo (w1.setCell ⟨wo.heap.size, 2, none⟩ (.slice A2 l1 c2)) from (Fr.of_No (accAlloc (Below.refl _ _) (Nat.le_refl _) _) |>.trans q2 (fun _ _ h => h) (fun _ _ h => h)).trans (Fr.setCell (S := One wo.heap.size) w1 _ _ rfl) (fun _ _ h => h) (fun k hk hs => by have hs' : k = wo.heap.size := hs; omega)); clear q1 q2; have hf1 : w1.frozen? ⟨wo.heap.size, 2, none⟩ = false := (by simp [World.frozen?, HB1.out]); obtain ⟨b0, b1, b2⟩ := box3 HB1.out)))
      go_roundw
      case rel =>
        refine ⟨i + 1, by simp, by omega, ⟨E ++ [(.slice A2 ns.length c2, ⟨f, t, ns⟩)], ?_⟩⟩
        rw [mapd_succ HP.out]
        exact HE.out.step (by show Win w1 _ 2 1 (.slice A2 (ns.length + 1) c2) (ns.length + 1) _; rw [HL.out]; exact Q1.out.lower (by simp)) (Fr.of_No (accAlloc (Below.refl _ _) (Nat.le_refl _) _) |>.trans Q2.out (fun _ _ h => h) (fun _ _ h => h)) ⟨_, HB1.out⟩ (by rw [HEL.out]; show Win _ _ _ _ _ _ (_ ++ [.string f, .string t, .slice A2 ns.length c2]); rw [HL.out]; exact G1.out) G3.out
      case measure => simp [intOf]; omega
    · obtain rfl : n = i := by omega
      have HEL := Aside0.mk (mapd_len HE.out.all (by have := H.out.len; omega))
      have HLB := Aside0.mk (lentD_bound (n := n) (by have := HMX.out; omega))
      obtain ⟨i0, hi, _, hsz, _⟩ := info_parts info134
      have HCUT := Aside0.mk (fun (A : Option Addr) (c : Nat) (h : n + 1 ≤ c) => cuth (P := Try.prog) 52 134 .i64 Try.underlying52 hi A (n + 1) c n (by omega))
      clear hE hi hsz
      go_wp2_with (((with_reducible refine gate_builtin (b := .append) (xs := #[.tmp 24, .tmp 26]) rfl ?_); at_builtin; go_must (refine wpl_append1 wo w.heap.size rfl (.tmp 24) (.tmp 26) 52 134 (.agg #[.string ByteArray.empty, .string ByteArray.empty, .slice none 0 0]) 3 56 rfl Try.underlying52 info134 rfl u3 n (E.flatMap entCells) markC rfl rfl (by have h := HE.out.hdr; rwa [HEL.out] at h) rfl (by simp [Value.oneCell', markC]) HE.out.fr.size HLB.out.1 HLB.out.2 ?_; intro v3 w3 g1 _ g3 _; have G1 := Aside0.mk g1; have G3 := Aside0.mk g3; clear g1 g3; obtain ⟨A3, c3, e3, l3⟩ := G1.out.shape; subst e3; have hcut := HCUT.out A3 c3 l3)))
      go_ret
      have hEn : E.length = n := HEL.out
      refine ⟨.slice A3 n c3, E, rfl, ⟨A3, c3, by rw [hEn], by rw [hEn]; exact G1.out, fun p hp => (HE.out.part p hp).fr HE.out.hdr (by decide) G3.out⟩, by rw [HE.out.all, List.take_of_length_le (by have := H.out.len; omega)], HE.out.fr.trans G3.out (fun _ _ h => h) (fun k hk hs => by have := (HE.out.hdr.at_ hs).1; omega)⟩
end Go.Proofs.Ytchcimkmjoegdaa.C
