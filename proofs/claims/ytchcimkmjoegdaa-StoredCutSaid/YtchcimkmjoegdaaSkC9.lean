/- stored.Open (40). Conditions: as the theorem states. | slices.BinarySearchFunc over chunks (82, 83). Conditions: as each theorem states. | stored.Store.Doc (38). Conditions: as each theorem states. (Several texts of mine laid into one by prune.py.) -/
import Derived.Test.YtchcimkmjoegdaaSkC8
namespace Go.Proofs.Ytchcimkmjoegdaa.C
open Go.RowKit Go.Proofs.YtchcimkmjoegdaaW.PrintLast Go.Proofs.YtchcimkmjoegdaaW.PrintWords Go.Proofs.YtchcimkmjoegdaaW.PrintMore Go.Proofs.Ytchcimkmjoegdaa.M
set_option linter.unusedVariables false
set_option linter.unusedSimpArgs false

set_option maxRecDepth 100000 in
set_option maxHeartbeats 4000000 in
theorem sopen_any (w : World) (A : Option Addr) (nx c : Nat) (xs : List Int) (hr : RdV w A (nums .u8 xs)) (hl : xs.length = nx) (hb : Byt xs) (h0 : A = none → c = 0) (hc : nx ≤ c) (hn : nx ≤ 140737488355328) : Calls Try.prog 40 #[.slice A nx c] w (SOpenPost xs w) := by
  have HNR := Aside0.mk (fun (W : World) (hW : Fr No w W) => NewReader_any W A nx c xs (hr.below hW.no) hl h0 hc hn)
  have HB := Aside0.mk hb
  have HL := Aside0.mk hl
  have HRD := Aside0.mk hr
  have HCC := Aside0.mk hc
  obtain ⟨n, i1, e1, hS1⟩ : ∃ n i1 e1, rS xs 0 0 16384 = (n, i1, e1) := ⟨_, _, _, rfl⟩
  obtain ⟨K, i2, e2, hS2⟩ : ∃ K i2 e2, rS xs i1 e1 (n : Nat) = (K, i2, e2) := ⟨_, _, _, rfl⟩
  have HS1 := Aside0.mk hS1
  have HS2 := Aside0.mk hS2
  have hn1 : n ≤ 16384 := by have := rS_max (ys := xs) (i := 0) (e := 0) (m := 16384) (by decide); rw [hS1] at this; simp only at this; omega
  have hK1 : K ≤ n := by have := rS_max (ys := xs) (i := i1) (e := e1) (m := (n : Nat)) (by omega); rw [hS2] at this; simp only at this; omega
  have hnx : nx ≤ 140737488355328 := hn
  clear hr hl hb h0 hc hn hS1 hS2
  have hmf : ∀ (fn : Fn) (first cap : Array Value) (w : World), (Instr.makeFunc fn first cap).run Try.prog w = .ok (.func fn first cap) w := fun _ _ _ _ => rfl
  refine callsIn_wide.1 (callsIn_of_wp_marks (F := Fence.wide) (n := 0) Try.func40 rfl trivial (wpIn_wide.2 ?_))
  simp only [Try.ntmps40, List.size_toArray, List.length_cons, List.length_nil, Nat.reduceAdd, Nat.reduceSub, Array.replicate_succ, Array.replicate_zero, List.push_toArray, List.append_toArray, List.nil_append, List.cons_append]
  go_wp2_with fail
  obtain ⟨p2, hp2⟩ : ∃ p, p = w.heap.size := ⟨_, rfl⟩
  obtain ⟨p3, hp3⟩ : ∃ p, p = w.heap.size + 1 := ⟨_, rfl⟩
  rw [← hp3, ← hp2]
  have HP2 := Aside0.mk hp2
  have HP3 := Aside0.mk hp3
  clear hp2 hp3
  go_wp2_with (first | (go_at_call_of 53 (16384 : Int); go_must (refine (Size_any w1 _ g 0 xs 0 16384 R1.out HB.out (by decide)).mono ?_; rw [HS1.out]; rintro e' w2 ⟨rfl, q1, q2⟩; obtain ⟨gs, hgs⟩ : ∃ gs, gs = w2.heap.size := ⟨_, rfl⟩; obtain ⟨k2, k2f, o3⟩ := OpS.start (n := n) HP2.out HP3.out F1.out R1.out (by simp; omega) q2 q1 hgs; have O3 := Aside0.mk o3; obtain ⟨l1, l2, l3, l4, l5, l6, l7⟩ := o3.cells; have HG := Aside0.mk hgs; have F2 := Aside0.mk q2; clear q1 q2 o3 hgs)) | (go_at_call 18; go_must (refine (HNR.out _ (Fr.of_No (accAlloc (accAlloc (Below.refl _ _) (Nat.le_refl _) _) (Nat.le_refl _) _))).mono ?_; rintro e' w1 ⟨g, rfl, q1, q2⟩; have R1 := Aside0.mk q1; have F1 := Aside0.mk q2; clear q1 q2)))
  rw [← HG.out]
  generalize hw3 : (w2.alloc (Obj.cells #[Value.slice none 0 0, Value.int IntKind.i64 (n : Int)] 121)).setCell ⟨p2, 0, none⟩ (.pointer (some ⟨gs, 0, none⟩)) = w3 at O3 l1 l2 l3 l4 l5 l6 l7 ⊢
  clear hw3 k2 k2f
  go_at_call 53
  refine (Size_any w3 w.heap.size g i1 xs e1 (n : Nat) O3.out.rd HB.out (by omega)).mono ?_
  rw [HS2.out]
  rintro e' w4 ⟨rfl, q1, q2⟩
  have O4 := Aside0.mk (O3.out.read q2 q1)
  clear q1 q2 l1 l2 l3 l4 l5 l6 l7
  by_cases he2 : e2 = 0
  · subst he2
    have hmake := fun W => make_ints W K (by omega)
    go_wp2_with (first | (go_at_call 86; go_must (refine (good_ok w4 w.heap.size g i2 xs O4.out.rd).mono ?_; rintro e' wz ⟨rfl, hz⟩; have hz' := hz.symm; subst hz')))
    obtain ⟨gz, hgz⟩ : ∃ gz, gz = w4.heap.size := ⟨_, rfl⟩
    have HGZ := Aside0.mk hgz
    clear hgz
    refine wp_region_noPanic ?_
    go_region_law fail
    refine NoPanic.normal ?_
    rw [← HGZ.out]
    have H0 := Aside0.mk (HeadS.start (K := K) O4.out HGZ.out)
    generalize (w4.alloc (Obj.cells (nums IntKind.i64 (List.replicate K 0)).toArray 3)).drew = w5 at H0 ⊢
    clear hmake
    go_wp2_with fail
    go_loopw [6, 35] (fun v6 v35 wr => ∃ (j a i : Nat) (H : List (Nat × Nat × Nat)) (v : Value), v35 = .int .i64 j ∧ v6 = .int .i64 a ∧ j ≤ K ∧ a ≤ n ∧ Aside0 (HeadS w wr p2 p3 g gs gz xs n K i2 j H a i v)) (fun _ v35 _ => K - (intOf v35).toNat)
    case atStart => exact ⟨0, 0, i2, [], .slice none 0 0, rfl, rfl, by omega, by omega, H0⟩
    case round =>
      obtain ⟨j, a, i, H, v, rfl, rfl, hj, ha, HH⟩ := hrel
      have HLJ := Aside0.mk HH.out.len
      obtain ⟨Av, cv, ev, hcv⟩ : ∃ Av cv, v = .slice Av j cv ∧ j ≤ cv := by
        obtain ⟨A', c', e', h'⟩ := HH.out.ch.hdr.shape
        rw [List.length_map, HLJ.out] at e' h'
        exact ⟨A', c', e', h'⟩
      subst ev
      have HCB := Aside0.mk (chunk_bound (n := j) (by omega))
      by_cases hlt : j < K
      · obtain ⟨cnt, j1, f1, hz1⟩ : ∃ cnt j1 f1, rS xs i 0 16384 = (cnt, j1, f1) := ⟨_, _, _, rfl⟩
        obtain ⟨z, j2, f2, hz2⟩ : ∃ z j2 f2, rS xs j1 f1 (nx : Nat) = (z, j2, f2) := ⟨_, _, _, rfl⟩
        have hcnt : cnt ≤ 16384 := by have := rS_max (ys := xs) (i := i) (e := 0) (m := 16384) (by decide); rw [hz1] at this; simp only at this; omega
        have HZ1 := Aside0.mk (Size_any wr w.heap.size g i xs 0 16384 HH.out.op.rd HB.out (by decide))
        rw [hz1] at HZ1
        have HZ2 := Aside0.mk (fun (W : World) (h : Rdr W w.heap.size g xs j1 f1) => Size_any W w.heap.size g j1 xs f1 (nx : Nat) h HB.out (by omega))
        rw [hz2] at HZ2
        have HE := Aside0.mk (And.intro hz1 hz2)
        clear hz1 hz2
        go_wp2_with (first | (go_at_call_of 53 (16384 : Int); go_must (refine HZ1.out.mono ?_; rintro e' w6 ⟨rfl, q1, q2⟩; have R6 := Aside0.mk q1; have F6 := Aside0.mk q2; clear q1 q2)) | (go_at_call 53; go_must (refine (HZ2.out _ (R6.out.below (below_alloc (Below.refl _ _) _))).mono ?_; rintro e' w7 ⟨rfl, q1, q2⟩; obtain ⟨k1, k2, t⟩ := HeadS.two (z := z) HH.out hlt F6.out R6.out rfl q2 q1; have T7 := Aside0.mk t; clear q1 q2 t)))
        obtain ⟨bx, hbx⟩ : ∃ bx, bx = w6.heap.size := ⟨_, rfl⟩
        rw [← hbx] at T7 ⊢
        clear hbx k1 k2
        generalize w7.setCell ⟨gz, j, none⟩ (.int .i64 (z : Int)) = w8 at T7 ⊢
        have T8 := T7
        clear T7 R6 F6 HZ1 HZ2
        obtain ⟨m2, _, m3, _, _, _, _⟩ := T8.out.op.cells
        have m0 : w8.cell? ⟨bx, 0, none⟩ = some (.int .i64 (a : Int)) := by simp [World.cell?, T8.out.box]
        have m1 : w8.cell? ⟨bx, 1, none⟩ = some (.int .i64 ((a : Int) + cnt)) := by simp [World.cell?, T8.out.box]
        by_cases hgood : 0 < cnt ∧ a + cnt ≤ n ∧ f2 = 0
        · obtain ⟨hg1, hg2, rfl⟩ := hgood
          have HGO := Aside0.mk (fun m => good_ok (w8.drewN m) w.heap.size g j2 xs (T8.out.op.rd.drewN m))
          have hc1 : (a : Int) < (a : Int) + cnt := by omega
          have hc2 : (a : Int) + cnt ≤ n := by omega
          refine wp_region_noPanic ?_
          go_quiet ((go_at_call 86; go_must (exact Calls.quiet_of_same (HGO.out _))))
          refine NoPanic.normal ?_
          have D8 := Aside0.mk (T8.out.no (W2 := (w8.drewN nq).drew) ((Fr.drewN w8 nq).trans (Fr.of_No (below_drew (Below.refl _ _))) (fun _ _ h => h) (fun _ _ h => h)))
          obtain ⟨x0, x1, x2, x3, x4⟩ := D8.out.cells
          go_wp2_with fail
          refine wp_region_noPanic ?_
          refine start_ (n := 11) (S := fun w' => w'.cell? ⟨p2, 0, none⟩ = some (.pointer (some ⟨gs, 0, none⟩)) ∧ w'.cell? ⟨gs, 0, none⟩ = some (.slice Av j cv) ∧ w'.cell? ⟨bx, 0, none⟩ = some (.int .i64 (a : Int)) ∧ w'.cell? ⟨bx, 1, none⟩ = some (.int .i64 ((a : Int) + cnt)) ∧ w'.cell? ⟨bx, 2, none⟩ = some (.slice none 0 0)) (ds := [10]) #[false, false, false, false, false, false, false, false, false, false, false] (by kernel_rfl) rfl rfl ⟨x0, x1, x2, x3, x4⟩ (fun hHeld => ?_)
          refine take_ (i := 0) (N := some 67) (v := ?_) (a' := ?_) #[true, false, false, false, false, false, false, false, false, false, false] rfl rfl (by kernel_rfl) (fun _ _ _ h => h) (Or.inl ⟨by rfl, ?_⟩) hHeld ?_ ?_
          rotate_left
          · rintro w' ⟨s0, s1, s2, s3, s4⟩
            go_simp
            with_reducible rfl
          rotate_left
          · simp only [Act.put, List.setIfInBounds_toArray, List.set_cons_zero, List.set_cons_succ, i64_w, i32_w]
            rfl
          refine take_ (i := 1) (N := some 68) (v := ?_) (a' := ?_) #[true, true, false, false, false, false, false, false, false, false, false] rfl rfl (by kernel_rfl) (fun _ _ _ h => h) (Or.inl ⟨by rfl, ?_⟩) hHeld ?_ ?_
          rotate_left
          · rintro w' ⟨s0, s1, s2, s3, s4⟩
            go_simp
            with_reducible rfl
          rotate_left
          · simp only [Act.put, List.setIfInBounds_toArray, List.set_cons_zero, List.set_cons_succ, i64_w, i32_w]
            rfl
          refine pure_ (i := 2) (N := some 69) (v := ?_) (a' := ?_) #[true, true, true, false, false, false, false, false, false, false, false] rfl rfl (by kernel_rfl) (fun _ _ _ h => h) (Or.inl ⟨by rfl, ?_⟩) ?_ ?_
          rotate_left
          · intro w'
            go_simp
            with_reducible rfl
          rotate_left
          · simp only [Act.put, List.setIfInBounds_toArray, List.set_cons_zero, List.set_cons_succ, i64_w, i32_w]
            rfl
          refine pure_ (i := 3) (N := some 70) (v := ?_) (a' := ?_) #[true, true, true, true, false, false, false, false, false, false, false] rfl rfl (by kernel_rfl) (fun _ _ _ h => h) (Or.inl ⟨by rfl, ?_⟩) ?_ ?_
          rotate_left
          · intro w'
            go_simp
            with_reducible rfl
          rotate_left
          · simp only [Act.put, List.setIfInBounds_toArray, List.set_cons_zero, List.set_cons_succ, i64_w, i32_w]
            rfl
          refine take_ (i := 4) (N := some 71) (v := ?_) (a' := ?_) #[true, true, true, true, true, false, false, false, false, false, false] rfl rfl (by kernel_rfl) (fun _ _ _ h => h) (Or.inl ⟨by rfl, ?_⟩) hHeld ?_ ?_
          rotate_left
          · rintro w' ⟨s0, s1, s2, s3, s4⟩
            go_simp
            with_reducible rfl
          rotate_left
          · simp only [Act.put, List.setIfInBounds_toArray, List.set_cons_zero, List.set_cons_succ, i64_w, i32_w]
            rfl
          refine take_ (i := 5) (N := some 72) (v := ?_) (a' := ?_) #[true, true, true, true, true, true, false, false, false, false, false] rfl rfl (by kernel_rfl) (fun _ _ _ h => h) (Or.inl ⟨by rfl, ?_⟩) hHeld ?_ ?_
          rotate_left
          · rintro w' ⟨s0, s1, s2, s3, s4⟩
            go_simp
            with_reducible rfl
          rotate_left
          · simp only [Act.put, List.setIfInBounds_toArray, List.set_cons_zero, List.set_cons_succ, i64_w, i32_w]
            rfl
          refine one_ (i := 6) (N := some 73) #[true, true, true, true, true, true, true, false, false, false, false] rfl rfl (by kernel_rfl) (by decide) (fun K hK => ?_)
          refine value_ (w1 := ?_) (v := ?_) (by rfl) rfl ?_ ?_
          rotate_left 2
          · go_simp
            constructor
            · rfl
            · rfl
          have D9 := Aside0.mk (D8.out.no (W2 := ((w8.drewN nq).drew).alloc (.cells #[.int .i64 (a : Int), .int .i64 ((a : Int) + cnt), .slice none 0 0] 118)) (Fr.alloc (S := No) _ _))
          obtain ⟨y0, y1, y2, y3, y4⟩ := D9.out.cells
          refine hK.out _ _ ⟨y0, y1, y2, y3, y4⟩ (fun hHeld => ?_)
          clear hK K
          refine norm_ (a' := ?_) ?_ ?_
          rotate_left
          · show Act.put _ (some 73) _ = _
            simp only [Act.put, List.setIfInBounds_toArray, List.set_cons_zero, List.set_cons_succ, i64_w, i32_w]
            rfl
          refine one_ (i := 7) (N := some 74) #[true, true, true, true, true, true, true, true, false, false, false] rfl rfl (by kernel_rfl) (by decide) (fun K hK => ?_)
          refine step_append (((w8.drewN nq).drew).alloc (.cells #[.int .i64 (a : Int), .int .i64 ((a : Int) + cnt), .slice none 0 0] 118)) w.heap.size rfl (.tmp 71) (.tmp 73) 119 119 118 (.agg #[.int .i64 0, .int .i64 0, .slice none 0 0]) 3 40 (.slice 118) rfl Try.underlying119 Try.underlying119 (.inl ⟨_, rfl⟩) info118 rfl (.slice Av j cv) j ((H.map mk0).flatMap chkCells) (.slice (some ⟨((w8.drewN nq).drew).heap.size, 0, none⟩) 1 1) 1 [.int .i64 (a : Int), .int .i64 ((a : Int) + cnt), .slice none 0 0] rfl rfl (by have h := D9.out.ch.hdr; rwa [List.length_map, HLJ.out] at h) (src_chunk _ _ _ _ rfl) D9.out.op.bel.size HCB.out.1 HCB.out.2 ?_
          intro v9 w9 g1 _ g3 _
          obtain ⟨⟨u0, u1, u2, u3, u4⟩, uf, ub, hS⟩ := HeadT.app D9.out hg1 hg2 HE.out HL.out g1 g3
          obtain ⟨A9, c9, e9, _⟩ := Win.shape g1
          subst e9
          have HS9 := Aside0.mk hS
          clear g1 g3 hS
          refine hK.out _ _ ⟨u0, u1, u2, u3, u4⟩ (fun hHeld => ?_)
          clear hK K
          refine norm_ (a' := ?_) ?_ ?_
          rotate_left
          · show Act.put _ (some 74) _ = _
            simp only [Act.put, List.setIfInBounds_toArray, List.set_cons_zero, List.set_cons_succ, i64_w, i32_w]
            rfl
          refine pure_ (i := 8) (N := some 75) (v := ?_) (a' := ?_) #[true, true, true, true, true, true, true, true, true, false, false] rfl rfl (by kernel_rfl) (fun _ _ _ h => h) (Or.inl ⟨by rfl, ?_⟩) ?_ ?_
          rotate_left
          · intro w'
            go_simp
            with_reducible rfl
          rotate_left
          · simp only [Act.put, List.setIfInBounds_toArray, List.set_cons_zero, List.set_cons_succ, i64_w, i32_w]
            rfl
          refine pure_ (i := 9) (N := some 76) (v := ?_) (a' := ?_) #[true, true, true, true, true, true, true, true, true, true, false] rfl rfl (by kernel_rfl) (fun _ _ _ h => h) (Or.inl ⟨by rfl, ?_⟩) ?_ ?_
          rotate_left
          · intro w'
            go_simp
            with_reducible rfl
          rotate_left
          · simp only [Act.put, List.setIfInBounds_toArray, List.set_cons_zero, List.set_cons_succ, i64_w, i32_w]
            rfl
          refine last_ (i := 10) (N := none) #[true, true, true, true, true, true, true, true, true, true, true] rfl rfl (by kernel_rfl) (by decide) (fun K hK => ?_)
          refine skip_ (w1 := ?_) (by rfl) rfl ?_ ?_
          rotate_left
          · go_simp
            rfl
          refine hK.out _ _ ?_
          clear hK K
          refine done_ (by kernel_rfl) ?_

          refine NoPanic.normal ?_
          go_wp2_with fail
          go_roundw
          case rel => exact ⟨j + 1, a + cnt, j2, H ++ [(a, a + cnt, z)], _, by simp, by simp, by omega, by omega, HS9⟩
          case measure => simp [intOf]; omega
        · have HBAD := Aside0.mk (show storeF xs = none from HeadT.bad HS1.out HS2.out hlt T8.out HE.out HL.out hgood)
          refine Code.wp_mono (q40_mono (p2 := p2) (p3 := p3) (ds := [dfr p2 p3]) (PW := fun W => OpS w W p2 p3 g gs xs j2 f2 (.slice Av j cv) n) ?_) ?_
          · intro a' w' t2 t3 td hop
            have := open_fall (R := SOpenPost xs w) (ms := []) t2 t3 hop.b2 hop.b3 hop.bel hop.h2 hop.h3 (Marks.nil w w') (fun W' f => ⟨f, .inl ⟨HBAD.out, rfl⟩⟩)
            show LeavesInM Fence.wide 0 Try.prog Try.f40 a'.tmps (SOpenPost xs w) a'.defers (.panicking [corruptP]) w'
            rw [td]
            exact this
          by_cases hc0 : 0 < cnt
          · have hdec : decide ((a : Int) < (a : Int) + cnt) = true := by simp; omega
            have hbad : ¬ (f2 = 0 ∧ decide ((a : Int) + cnt ≤ n) = true) := by simp; omega
            clear hgood
            refine start_ (n := 16) (S := fun w' => w'.cell? ⟨bx, 0, none⟩ = some (.int .i64 (a : Int)) ∧ w'.cell? ⟨bx, 1, none⟩ = some (.int .i64 ((a : Int) + cnt)) ∧ w'.cell? ⟨p2, 0, none⟩ = some (.pointer (some ⟨gs, 0, none⟩)) ∧ w'.cell? ⟨gs, 1, none⟩ = some (.int .i64 (n : Int))) (ds := [15]) #[false, false, false, false, false, false, false, false, false, false, false, false, false, false, false, false] (by kernel_rfl) rfl rfl ⟨m0, m1, m2, m3⟩ (fun hHeld => ?_)
            refine pure_ (i := 0) (N := some 51) (v := ?_) (a' := ?_) #[true, false, false, false, false, false, false, false, false, false, false, false, false, false, false, false] rfl rfl (by kernel_rfl) (fun _ _ _ h => Q40.back (by decide) (by decide) h) (Or.inl ⟨by rfl, ?_⟩) ?_ ?_
            rotate_left
            · intro w'
              go_simp
              with_reducible rfl
            rotate_left
            · simp only [Act.put, List.setIfInBounds_toArray, List.set_cons_zero, List.set_cons_succ, i64_w, i32_w]
              rfl
            refine pure_ (i := 1) (N := some 52) (v := ?_) (a' := ?_) #[true, true, false, false, false, false, false, false, false, false, false, false, false, false, false, false] rfl rfl (by kernel_rfl) (fun _ _ _ h => Q40.back (by decide) (by decide) h) (Or.inl ⟨by rfl, ?_⟩) ?_ ?_
            rotate_left
            · intro w'
              go_simp
              with_reducible rfl
            rotate_left
            · simp only [Act.put, List.setIfInBounds_toArray, List.set_cons_zero, List.set_cons_succ, i64_w, i32_w]
              rfl
            refine pure_ (i := 3) (N := some 54) (v := ?_) (a' := ?_) #[true, true, false, true, false, false, false, false, false, false, false, false, false, false, false, false] rfl rfl (by kernel_rfl) (fun _ _ _ h => Q40.back (by decide) (by decide) h) (Or.inl ⟨by rfl, ?_⟩) ?_ ?_
            rotate_left
            · intro w'
              go_simp
              with_reducible rfl
            rotate_left
            · simp only [Act.put, List.setIfInBounds_toArray, List.set_cons_zero, List.set_cons_succ, i64_w, i32_w]
              rfl
            refine take_ (i := 2) (N := some 53) (v := ?_) (a' := ?_) #[true, true, true, true, false, false, false, false, false, false, false, false, false, false, false, false] rfl rfl (by kernel_rfl) (fun _ _ _ h => Q40.back (by decide) (by decide) h) (Or.inl ⟨by rfl, ?_⟩) hHeld ?_ ?_
            rotate_left
            · rintro w' ⟨s0, s1, s2, s3⟩
              go_simp
              with_reducible rfl
            rotate_left
            · simp only [Act.put, List.setIfInBounds_toArray, List.set_cons_zero, List.set_cons_succ, i64_w, i32_w]
              rfl
            refine take_ (i := 4) (N := some 55) (v := ?_) (a' := ?_) #[true, true, true, true, true, false, false, false, false, false, false, false, false, false, false, false] rfl rfl (by kernel_rfl) (fun _ _ _ h => Q40.back (by decide) (by decide) h) (Or.inl ⟨by rfl, ?_⟩) hHeld ?_ ?_
            rotate_left
            · rintro w' ⟨s0, s1, s2, s3⟩
              go_simp
              with_reducible rfl
            rotate_left
            · simp only [Act.put, List.setIfInBounds_toArray, List.set_cons_zero, List.set_cons_succ, i64_w, i32_w]
              rfl
            refine pure_ (i := 5) (N := some 56) (v := ?_) (a' := ?_) #[true, true, true, true, true, true, false, false, false, false, false, false, false, false, false, false] rfl rfl (by kernel_rfl) (fun _ _ _ h => Q40.back (by decide) (by decide) h) (Or.inl ⟨by rfl, ?_⟩) ?_ ?_
            rotate_left
            · intro w'
              go_simp
              with_reducible rfl
            rotate_left
            · simp only [Act.put, List.setIfInBounds_toArray, List.set_cons_zero, List.set_cons_succ, i64_w, i32_w]
              rfl
            refine pure_ (i := 6) (N := some 57) (v := ?_) (a' := ?_) #[true, true, true, true, true, true, true, false, false, false, false, false, false, false, false, false] rfl rfl (by kernel_rfl) (fun _ _ _ h => Q40.back (by decide) (by decide) h) (Or.inl ⟨by rfl, ?_⟩) ?_ ?_
            rotate_left
            · intro w'
              go_simp
              with_reducible rfl
            rotate_left
            · simp only [Act.put, List.setIfInBounds_toArray, List.set_cons_zero, List.set_cons_succ, i64_w, i32_w]
              rfl
            refine pure_ (i := 7) (N := some 58) (v := ?_) (a' := ?_) #[true, true, true, true, true, true, true, true, false, false, false, false, false, false, false, false] rfl rfl (by kernel_rfl) (fun _ _ _ h => Q40.back (by decide) (by decide) h) (Or.inl ⟨by rfl, ?_⟩) ?_ ?_
            rotate_left
            · intro w'
              go_simp
              with_reducible rfl
            rotate_left
            · simp only [Act.put, List.setIfInBounds_toArray, List.set_cons_zero, List.set_cons_succ, i64_w, i32_w]
              rfl
            refine take_ (i := 8) (N := some 59) (v := ?_) (a' := ?_) #[true, true, true, true, true, true, true, true, true, false, false, false, false, false, false, false] rfl rfl (by kernel_rfl) (fun _ _ _ h => Q40.back (by decide) (by decide) h) (Or.inl ⟨by rfl, ?_⟩) hHeld ?_ ?_
            rotate_left
            · rintro w' ⟨s0, s1, s2, s3⟩
              go_simp
              with_reducible rfl
            rotate_left
            · simp only [Act.put, List.setIfInBounds_toArray, List.set_cons_zero, List.set_cons_succ, i64_w, i32_w]
              rfl
            refine take_ (i := 9) (N := some 60) (v := ?_) (a' := ?_) #[true, true, true, true, true, true, true, true, true, true, false, false, false, false, false, false] rfl rfl (by kernel_rfl) (fun _ _ _ h => Q40.back (by decide) (by decide) h) (Or.inl ⟨by rfl, ?_⟩) hHeld ?_ ?_
            rotate_left
            · rintro w' ⟨s0, s1, s2, s3⟩
              go_simp
              with_reducible rfl
            rotate_left
            · simp only [Act.put, List.setIfInBounds_toArray, List.set_cons_zero, List.set_cons_succ, i64_w, i32_w]
              rfl
            refine pure_ (i := 10) (N := some 61) (v := ?_) (a' := ?_) #[true, true, true, true, true, true, true, true, true, true, true, false, false, false, false, false] rfl rfl (by kernel_rfl) (fun _ _ _ h => Q40.back (by decide) (by decide) h) (Or.inl ⟨by rfl, ?_⟩) ?_ ?_
            rotate_left
            · intro w'
              go_simp
              with_reducible rfl
            rotate_left
            · simp only [Act.put, List.setIfInBounds_toArray, List.set_cons_zero, List.set_cons_succ, i64_w, i32_w]
              rfl
            refine pure_ (i := 11) (N := some 62) (v := ?_) (a' := ?_) #[true, true, true, true, true, true, true, true, true, true, true, true, false, false, false, false] rfl rfl (by kernel_rfl) (fun _ _ _ h => Q40.back (by decide) (by decide) h) (Or.inl ⟨by rfl, ?_⟩) ?_ ?_
            rotate_left
            · intro w'
              go_simp
              with_reducible rfl
            rotate_left
            · simp only [Act.put, List.setIfInBounds_toArray, List.set_cons_zero, List.set_cons_succ, i64_w, i32_w]
              rfl
            refine take_ (i := 12) (N := some 63) (v := ?_) (a' := ?_) #[true, true, true, true, true, true, true, true, true, true, true, true, true, false, false, false] rfl rfl (by kernel_rfl) (fun _ _ _ h => Q40.back (by decide) (by decide) h) (Or.inl ⟨by rfl, ?_⟩) hHeld ?_ ?_
            rotate_left
            · rintro w' ⟨s0, s1, s2, s3⟩
              go_simp
              with_reducible rfl
            rotate_left
            · simp only [Act.put, List.setIfInBounds_toArray, List.set_cons_zero, List.set_cons_succ, i64_w, i32_w]
              rfl
            refine pure_ (i := 13) (N := some 64) (v := ?_) (a' := ?_) #[true, true, true, true, true, true, true, true, true, true, true, true, true, true, false, false] rfl rfl (by kernel_rfl) (fun _ _ _ h => Q40.back (by decide) (by decide) h) (Or.inl ⟨by rfl, ?_⟩) ?_ ?_
            rotate_left
            · intro w'
              go_simp
              with_reducible rfl
            rotate_left
            · simp only [Act.put, List.setIfInBounds_toArray, List.set_cons_zero, List.set_cons_succ, i64_w, i32_w]
              rfl
            refine pure_ (i := 14) (N := some 65) (v := ?_) (a' := ?_) #[true, true, true, true, true, true, true, true, true, true, true, true, true, true, true, false] rfl rfl (by kernel_rfl) (fun _ _ _ h => Q40.back (by decide) (by decide) h) (Or.inl ⟨by rfl, ?_⟩) ?_ ?_
            rotate_left
            · intro w'
              go_simp
              with_reducible rfl
            rotate_left
            · simp only [Act.put, List.setIfInBounds_toArray, List.set_cons_zero, List.set_cons_succ, i64_w, i32_w]
              rfl
            refine last_ (i := 15) (N := some 66) #[true, true, true, true, true, true, true, true, true, true, true, true, true, true, true, true] rfl rfl (by kernel_rfl) (by decide) (fun K hK => ?_)
            rw [if_pos (by rfl)]
            go_simp
            go_at_call 86
            refine (good_pan _ w.heap.size g j2 xs f2 (decide ((a : Int) + cnt ≤ n)) hbad (T8.out.op.no (Fr.of_No (below_drew (Below.refl _ _)))).rd).mono ?_
            rintro e' wz ⟨rfl, hz⟩
            have hz' := hz.symm
            subst hz'
            exact ⟨rfl, rfl, rfl, rfl, T8.out.op.no (Fr.of_No (below_drew (Below.refl _ _)))⟩
          · have hdec : decide ((a : Int) < (a : Int) + cnt) = false := by simp; omega
            have hbad : ¬ (f2 = 0 ∧ false = true) := by simp
            clear hgood
            refine start_ (n := 16) (S := fun w' => w'.cell? ⟨bx, 0, none⟩ = some (.int .i64 (a : Int)) ∧ w'.cell? ⟨bx, 1, none⟩ = some (.int .i64 ((a : Int) + cnt)) ∧ w'.cell? ⟨p2, 0, none⟩ = some (.pointer (some ⟨gs, 0, none⟩)) ∧ w'.cell? ⟨gs, 1, none⟩ = some (.int .i64 (n : Int))) (ds := [15]) #[false, false, false, false, false, false, false, false, false, false, false, false, false, false, false, false] (by kernel_rfl) rfl rfl ⟨m0, m1, m2, m3⟩ (fun hHeld => ?_)
            refine pure_ (i := 0) (N := some 51) (v := ?_) (a' := ?_) #[true, false, false, false, false, false, false, false, false, false, false, false, false, false, false, false] rfl rfl (by kernel_rfl) (fun _ _ _ h => Q40.back (by decide) (by decide) h) (Or.inl ⟨by rfl, ?_⟩) ?_ ?_
            rotate_left
            · intro w'
              go_simp
              with_reducible rfl
            rotate_left
            · simp only [Act.put, List.setIfInBounds_toArray, List.set_cons_zero, List.set_cons_succ, i64_w, i32_w]
              rfl
            refine pure_ (i := 1) (N := some 52) (v := ?_) (a' := ?_) #[true, true, false, false, false, false, false, false, false, false, false, false, false, false, false, false] rfl rfl (by kernel_rfl) (fun _ _ _ h => Q40.back (by decide) (by decide) h) (Or.inl ⟨by rfl, ?_⟩) ?_ ?_
            rotate_left
            · intro w'
              go_simp
              with_reducible rfl
            rotate_left
            · simp only [Act.put, List.setIfInBounds_toArray, List.set_cons_zero, List.set_cons_succ, i64_w, i32_w]
              rfl
            refine pure_ (i := 3) (N := some 54) (v := ?_) (a' := ?_) #[true, true, false, true, false, false, false, false, false, false, false, false, false, false, false, false] rfl rfl (by kernel_rfl) (fun _ _ _ h => Q40.back (by decide) (by decide) h) (Or.inl ⟨by rfl, ?_⟩) ?_ ?_
            rotate_left
            · intro w'
              go_simp
              with_reducible rfl
            rotate_left
            · simp only [Act.put, List.setIfInBounds_toArray, List.set_cons_zero, List.set_cons_succ, i64_w, i32_w]
              rfl
            refine take_ (i := 2) (N := some 53) (v := ?_) (a' := ?_) #[true, true, true, true, false, false, false, false, false, false, false, false, false, false, false, false] rfl rfl (by kernel_rfl) (fun _ _ _ h => Q40.back (by decide) (by decide) h) (Or.inl ⟨by rfl, ?_⟩) hHeld ?_ ?_
            rotate_left
            · rintro w' ⟨s0, s1, s2, s3⟩
              go_simp
              with_reducible rfl
            rotate_left
            · simp only [Act.put, List.setIfInBounds_toArray, List.set_cons_zero, List.set_cons_succ, i64_w, i32_w]
              rfl
            refine take_ (i := 4) (N := some 55) (v := ?_) (a' := ?_) #[true, true, true, true, true, false, false, false, false, false, false, false, false, false, false, false] rfl rfl (by kernel_rfl) (fun _ _ _ h => Q40.back (by decide) (by decide) h) (Or.inl ⟨by rfl, ?_⟩) hHeld ?_ ?_
            rotate_left
            · rintro w' ⟨s0, s1, s2, s3⟩
              go_simp
              with_reducible rfl
            rotate_left
            · simp only [Act.put, List.setIfInBounds_toArray, List.set_cons_zero, List.set_cons_succ, i64_w, i32_w]
              rfl
            refine pure_ (i := 5) (N := some 56) (v := ?_) (a' := ?_) #[true, true, true, true, true, true, false, false, false, false, false, false, false, false, false, false] rfl rfl (by kernel_rfl) (fun _ _ _ h => Q40.back (by decide) (by decide) h) (Or.inl ⟨by rfl, ?_⟩) ?_ ?_
            rotate_left
            · intro w'
              go_simp
              with_reducible rfl
            rotate_left
            · simp only [Act.put, List.setIfInBounds_toArray, List.set_cons_zero, List.set_cons_succ, i64_w, i32_w]
              rfl
            refine pure_ (i := 6) (N := some 57) (v := ?_) (a' := ?_) #[true, true, true, true, true, true, true, false, false, false, false, false, false, false, false, false] rfl rfl (by kernel_rfl) (fun _ _ _ h => Q40.back (by decide) (by decide) h) (Or.inl ⟨by rfl, ?_⟩) ?_ ?_
            rotate_left
            · intro w'
              go_simp
              with_reducible rfl
            rotate_left
            · simp only [Act.put, List.setIfInBounds_toArray, List.set_cons_zero, List.set_cons_succ, i64_w, i32_w]
              rfl
            refine pure_ (i := 7) (N := some 58) (v := undef) (a' := ?_) #[true, true, true, true, true, true, true, true, false, false, false, false, false, false, false, false] rfl rfl (by kernel_rfl) (fun _ _ _ h => Q40.back (by decide) (by decide) h) (Or.inr ⟨by rfl, rfl⟩) ?_ ?_
            rotate_left
            · simp only [Act.put, List.setIfInBounds_toArray, List.set_cons_zero, List.set_cons_succ, i64_w, i32_w]
              rfl
            refine pure_ (i := 8) (N := some 59) (v := undef) (a' := ?_) #[true, true, true, true, true, true, true, true, true, false, false, false, false, false, false, false] rfl rfl (by kernel_rfl) (fun _ _ _ h => Q40.back (by decide) (by decide) h) (Or.inr ⟨by rfl, rfl⟩) ?_ ?_
            rotate_left
            · simp only [Act.put, List.setIfInBounds_toArray, List.set_cons_zero, List.set_cons_succ, i64_w, i32_w]
              rfl
            refine pure_ (i := 9) (N := some 60) (v := undef) (a' := ?_) #[true, true, true, true, true, true, true, true, true, true, false, false, false, false, false, false] rfl rfl (by kernel_rfl) (fun _ _ _ h => Q40.back (by decide) (by decide) h) (Or.inr ⟨by rfl, rfl⟩) ?_ ?_
            rotate_left
            · simp only [Act.put, List.setIfInBounds_toArray, List.set_cons_zero, List.set_cons_succ, i64_w, i32_w]
              rfl
            refine pure_ (i := 10) (N := some 61) (v := undef) (a' := ?_) #[true, true, true, true, true, true, true, true, true, true, true, false, false, false, false, false] rfl rfl (by kernel_rfl) (fun _ _ _ h => Q40.back (by decide) (by decide) h) (Or.inr ⟨by rfl, rfl⟩) ?_ ?_
            rotate_left
            · simp only [Act.put, List.setIfInBounds_toArray, List.set_cons_zero, List.set_cons_succ, i64_w, i32_w]
              rfl
            refine pure_ (i := 11) (N := some 62) (v := undef) (a' := ?_) #[true, true, true, true, true, true, true, true, true, true, true, true, false, false, false, false] rfl rfl (by kernel_rfl) (fun _ _ _ h => Q40.back (by decide) (by decide) h) (Or.inr ⟨by rfl, rfl⟩) ?_ ?_
            rotate_left
            · simp only [Act.put, List.setIfInBounds_toArray, List.set_cons_zero, List.set_cons_succ, i64_w, i32_w]
              rfl
            refine pure_ (i := 12) (N := some 63) (v := undef) (a' := ?_) #[true, true, true, true, true, true, true, true, true, true, true, true, true, false, false, false] rfl rfl (by kernel_rfl) (fun _ _ _ h => Q40.back (by decide) (by decide) h) (Or.inr ⟨by rfl, rfl⟩) ?_ ?_
            rotate_left
            · simp only [Act.put, List.setIfInBounds_toArray, List.set_cons_zero, List.set_cons_succ, i64_w, i32_w]
              rfl
            refine pure_ (i := 13) (N := some 64) (v := undef) (a' := ?_) #[true, true, true, true, true, true, true, true, true, true, true, true, true, true, false, false] rfl rfl (by kernel_rfl) (fun _ _ _ h => Q40.back (by decide) (by decide) h) (Or.inr ⟨by rfl, rfl⟩) ?_ ?_
            rotate_left
            · simp only [Act.put, List.setIfInBounds_toArray, List.set_cons_zero, List.set_cons_succ, i64_w, i32_w]
              rfl
            refine pure_ (i := 14) (N := some 65) (v := ?_) (a' := ?_) #[true, true, true, true, true, true, true, true, true, true, true, true, true, true, true, false] rfl rfl (by kernel_rfl) (fun _ _ _ h => Q40.back (by decide) (by decide) h) (Or.inl ⟨by rfl, ?_⟩) ?_ ?_
            rotate_left
            · intro w'
              go_simp
              with_reducible rfl
            rotate_left
            · simp only [Act.put, List.setIfInBounds_toArray, List.set_cons_zero, List.set_cons_succ, i64_w, i32_w]
              rfl
            refine last_ (i := 15) (N := some 66) #[true, true, true, true, true, true, true, true, true, true, true, true, true, true, true, true] rfl rfl (by kernel_rfl) (by decide) (fun K hK => ?_)
            rw [if_pos (by rfl)]
            go_simp
            go_at_call 86
            refine (good_pan _ w.heap.size g j2 xs f2 false hbad (T8.out.op.no (Fr.of_No (below_drew (Below.refl _ _)))).rd).mono ?_
            rintro e' wz ⟨rfl, hz⟩
            have hz' := hz.symm
            subst hz'
            exact ⟨rfl, rfl, rfl, rfl, T8.out.op.no (Fr.of_No (below_drew (Below.refl _ _)))⟩
      · obtain rfl : K = j := by omega
        iterate 16 go_step
        exact open_mid HL.out HRD.out HB.out HCC.out hnx hn1 hK1 ha HS1.out HS2.out HH.out
  · have HZ := Aside0.mk (storeF_bad2 HS1.out HS2.out he2)
    go_wp2_with (first | (go_at_call 86; go_must (refine (good_err w4 w.heap.size g i2 xs e2 he2 true O4.out.rd).mono ?_; rintro e' wz ⟨rfl, hz⟩; have hz' := hz.symm; subst hz')))
    exact open_fall (ms := []) rfl rfl O4.out.b2 O4.out.b3 O4.out.bel O4.out.h2 O4.out.h3 (Marks.nil w w4) (fun W' f => ⟨f, .inl ⟨HZ.out, rfl⟩⟩)
end Go.Proofs.Ytchcimkmjoegdaa.C
namespace Go.Proofs.Ytchcimkmjoegdaa.C
open Go.RowKit Go.Proofs.YtchcimkmjoegdaaW.PrintWords Go.Proofs.YtchcimkmjoegdaaW.PrintMore Go.Proofs.Ytchcimkmjoegdaa.M
set_option linter.unusedVariables false
set_option linter.unusedSimpArgs false

theorem cmp_any (w : World) (f t n : Int) (u : Value) (hu : u.oneCell' = true) (ht : 0 ≤ t ∧ t ≤ 16384) (hn : 0 ≤ n ∧ n ≤ 100000) : Calls Try.prog 83 #[.agg #[.int .i64 f, .int .i64 t, u], .int .i64 n] w fun e W => e = .returned (.int .i64 (t - n)) ∧ Fr No w W := by
  go_enter Try.func83, Try.ntmps83
  go_wp2_with fail
  go_ret
  exact ⟨rfl, Fr.of_No (accAlloc (Below.refl _ _) (Nat.le_refl _) _)⟩
set_option maxRecDepth 100000 in
set_option maxHeartbeats 4000000 in
theorem bsearch_any (w : World) (A : Option Addr) (K c : Nat) (C : List (Value × Chk)) (n : Nat) (hr : RdV w A (C.flatMap chkCells)) (hl : C.length = K) (hc : K ≤ c) (hK : K ≤ 16384) (hn : n ≤ 100000) (hu : ∀ p ∈ C, p.1.oneCell' = true ∧ p.2.t ≤ 16384)
    (hmono : ∀ (i j : Nat) (p q : Value × Chk), i ≤ j → C[i]? = some p → C[j]? = some q → p.2.t ≤ q.2.t) :
    Calls Try.prog 82 #[.slice A K c, .int .i64 (n : Int), .func (.func 83) #[] #[]] w fun e W => (∃ (k : Nat) (b : Bool), e = .returned (.tuple #[.int .i64 (k : Int), .bool b]) ∧ k ≤ K ∧ (∀ (j : Nat) (p : Value × Chk), j < k → C[j]? = some p → p.2.t < n) ∧ (∀ (j : Nat) (p : Value × Chk), k ≤ j → C[j]? = some p → n ≤ p.2.t)) ∧ Fr No w W := by
  have HR := Aside0.mk hr
  have HL := Aside0.mk hl
  have HU := Aside0.mk hu
  have HM := Aside0.mk hmono
  clear hr hl hu hmono
  go_enter Try.func82, Try.ntmps82
  go_wp2_with fail
  go_loopw [9, 10] (fun v9 v10 wr => ∃ i j : Nat, v9 = .int .i64 i ∧ v10 = .int .i64 j ∧ i ≤ j ∧ j ≤ K ∧ Aside0 ((∀ (q : Nat) (p : Value × Chk), q < i → C[q]? = some p → p.2.t < n) ∧ (∀ (q : Nat) (p : Value × Chk), j ≤ q → C[q]? = some p → n ≤ p.2.t) ∧ Fr No w wr)) (fun v9 v10 _ => (intOf v10).toNat - (intOf v9).toNat)
  case atStart => exact ⟨0, K, rfl, rfl, Nat.zero_le _, Nat.le_refl _, ⟨fun q p h => by omega, fun q p h hp => by have := (List.getElem?_eq_some_iff.1 hp).1; have := HL.out; omega, Fr.refl _ _⟩⟩
  case round =>
    obtain ⟨i, j, rfl, rfl, hij, hj, HS⟩ := hrel
    by_cases hlt : i < j
    · obtain ⟨h, hh⟩ : ∃ h : Nat, (i + j) / 2 = h := ⟨_, rfl⟩
      have hh1 : ((i : Int) + (j : Int)) / 2 = (h : Int) := by omega
      have hh2 : i ≤ h := by omega
      have hh3 : h < j := by omega
      have hh4 : (h : Int) < K := by omega
      obtain ⟨⟨u, ⟨f, t, b⟩⟩, hp⟩ := get_some' (xs := C) (i := h) (by have := HL.out; omega)
      obtain ⟨ad, eA, c0, c1, c2⟩ := chk_at (HR.out.below HS.out.2.2.no) hp
      subst eA
      have hu := HU.out _ (List.mem_of_getElem? hp)
      have hu1 : u.oneCell' = true := hu.1
      have ht : t ≤ 16384 := hu.2
      have HP := Aside0.mk hp
      clear hu hp hh
      by_cases htn : t < n
      · have hlt0 : (t : Int) - n < 0 := by omega
        go_wp2_with (first | (go_at_call 83; go_must (refine (cmp_any wr (f : Int) (t : Int) (n : Int) u hu1 (by omega) (by omega)).mono ?_; rintro e' w1 ⟨rfl, q1⟩; have F1 := Aside0.mk q1; clear q1)))
        go_roundw
        case rel =>
          refine ⟨h + 1, j, by simp, rfl, by omega, hj, ⟨fun q p hq hp => ?_, HS.out.2.1, frt HS.out.2.2 F1.out⟩⟩
          have := HM.out q h p _ (by omega) hp HP.out
          simp only at this
          omega
        case measure => simp [intOf]; omega
      · have hlt0 : ¬ (t : Int) - n < 0 := by omega
        go_wp2_with (first | (go_at_call 83; go_must (refine (cmp_any wr (f : Int) (t : Int) (n : Int) u hu1 (by omega) (by omega)).mono ?_; rintro e' w1 ⟨rfl, q1⟩; have F1 := Aside0.mk q1; clear q1)))
        go_roundw
        case rel =>
          refine ⟨i, h, rfl, rfl, by omega, by omega, ⟨HS.out.1, fun q p hq hp => ?_, frt HS.out.2.2 F1.out⟩⟩
          have := HM.out h q _ p hq HP.out hp
          simp only at this
          omega
        case measure => simp [intOf]; omega
    · obtain rfl : i = j := by omega
      by_cases hiK : i < K
      · obtain ⟨⟨u, ⟨f, t, b⟩⟩, hp⟩ := get_some' (xs := C) (i := i) (by have := HL.out; omega)
        obtain ⟨ad, eA, c0, c1, c2⟩ := chk_at (HR.out.below HS.out.2.2.no) hp
        subst eA
        have hu := HU.out _ (List.mem_of_getElem? hp)
        have hu1 : u.oneCell' = true := hu.1
        have ht : t ≤ 16384 := hu.2
        clear hu hp
        go_wp2_with (first | (go_at_call 83; go_must (refine (cmp_any wr (f : Int) (t : Int) (n : Int) u hu1 (by omega) (by omega)).mono ?_; rintro e' w1 ⟨rfl, q1⟩; have F1 := Aside0.mk q1; clear q1)))
        go_ret2
        exact ⟨⟨i, _, rfl, by omega, HS.out.1, HS.out.2.1⟩, frt HS.out.2.2 F1.out⟩
      · go_wp2_with fail
        go_ret2
        exact ⟨⟨i, _, rfl, by omega, HS.out.1, HS.out.2.1⟩, HS.out.2.2⟩
end Go.Proofs.Ytchcimkmjoegdaa.C
namespace Go.Proofs.Ytchcimkmjoegdaa.C
open Go.RowKit Go.Proofs.YtchcimkmjoegdaaW.PrintWords Go.Proofs.YtchcimkmjoegdaaW.PrintMore Go.Proofs.Ytchcimkmjoegdaa.M
set_option linter.unusedVariables false
set_option linter.unusedSimpArgs false
attribute [local go_sem] Oper.semAt_some

theorem docB_small {d : List Ent} (ho : okD d = true) (h : ∀ e ∈ d, I64 e.ns) : (docB d).length ≤ 268170 := by
  unfold okD at ho
  rw [Bool.and_eq_true, decide_eq_true_eq, List.all_eq_true] at ho
  unfold docB
  rw [List.length_append]
  have a1 := uenc_10 d.length (by omega)
  have a2 := flat_len entB 4190 d (fun e he => entB_len (ho.2 e he) (h e he))
  omega
theorem byt_docB (d : List Ent) : Byt (docB d) := by
  refine Byt.app (byt_uenc _) (byt_flat entB (fun e => ?_) d)
  refine Byt.app (Byt.app (Byt.app (Byt.app (byt_uenc _) (byt_str _)) (Byt.app (byt_uenc _) (byt_str _))) (byt_uenc _)) ?_
  exact byt_flat _ (fun q => byt_uenc _) _
theorem Fine.len {d : List (List Ent)} (h : Fine d) : d.length ≤ 16384 := by
  have h := h.1
  unfold okDs at h
  rw [Bool.and_eq_true, decide_eq_true_eq] at h
  exact h.1
theorem Fine.doc {d : List (List Ent)} (h : Fine d) {x : List Ent} (hx : x ∈ d) : okD x = true ∧ ∀ e ∈ x, I64 e.ns := by
  have h1 := h.1
  unfold okDs at h1
  rw [Bool.and_eq_true, List.all_eq_true] at h1
  exact ⟨h1.2 x hx, h.2 x hx⟩
theorem Fine.small {d : List (List Ent)} (h : Fine d) : ∀ c ∈ cutsF d, c.b.length ≤ 300000 := fun c hc => cutN_small (B := d.map docB) (fun b hb => by
  obtain ⟨x, hx, rfl⟩ := List.mem_map.1 hb
  exact docB_small (h.doc hx).1 (h.doc hx).2) _ c hc
theorem cutsF_byt {d : List (List Ent)} {c : Chk} (hc : c ∈ cutsF d) : Byt c.b := by
  rw [(cutsF_row d).2 c hc]
  exact byt_flat docB byt_docB _
/-- A store that was opened. -/
structure StoD (W : World) (B gs : Nat) (v : Value) (C : List (Value × Chk)) (d : List (List Ent)) : Prop where
  st : W.heap[gs]? = some (.cells #[v, .int .i64 (d.length : Int)] 121 (0, 0))
  ch : ChS W B v C
  eq : C.map Prod.snd = cutsF d
  fine : Fine d
theorem StoD.no {W W' : World} {B gs : Nat} {v : Value} {C : List (Value × Chk)} {d : List (List Ent)} (h : StoD W B gs v C d) (f : Fr No W W') : StoD W' B gs v C d := ⟨f.get h.st (fun h => h), h.ch.no f, h.eq, h.fine⟩
theorem lk_lt : ∀ {C : List Chk} {a b : Nat}, Lk a C b → ∀ c ∈ C, c.f < c.t
  | [], a, b, _, c, hc => (nomatch hc)
  | x :: C, a, b, h, c, hc => by
    obtain ⟨h1, h2, h3⟩ := h
    rcases List.mem_cons.1 hc with rfl | hc
    · exact h2
    · exact lk_lt h3 c hc
theorem lk_mono : ∀ {C : List Chk} {a b : Nat}, Lk a C b → ∀ (i j : Nat) (p q : Chk), i ≤ j → C[i]? = some p → C[j]? = some q → a ≤ p.f ∧ p.t ≤ q.t ∧ q.t ≤ b ∧ (i < j → p.t ≤ q.f)
  | [], a, b, _, i, j, p, q, _, h, _ => by simp at h
  | c :: C, a, b, h, i, j, p, q, hij, hi, hj => by
    obtain ⟨h1, h2, h3⟩ := h
    have hle := (row_flat (d := List.replicate b []) h3 (by simp)).2
    cases j with
    | zero =>
      obtain rfl : i = 0 := by omega
      rw [hi] at hj
      injection hj with hj
      subst hj
      injection hi with hi
      subst hi
      exact ⟨by omega, Nat.le_refl _, hle, fun h => by omega⟩
    | succ j =>
      cases i with
      | zero =>
        have hi' : c = p := by simpa using hi
        subst hi'
        have hj' : C[j]? = some q := by simpa using hj
        obtain ⟨k1, k2, k3, _⟩ := lk_mono h3 j j q q (Nat.le_refl _) hj' hj'
        have hqq := lk_lt h3 q (List.mem_of_getElem? hj')
        exact ⟨by omega, by omega, k3, fun _ => k1⟩
      | succ i =>
        have hi' : C[i]? = some p := by simpa using hi
        have hj' : C[j]? = some q := by simpa using hj
        obtain ⟨k1, k2, k3, k4⟩ := lk_mono h3 i j p q (by omega) hi' hj'
        exact ⟨by omega, k2, k3, fun h => k4 (by omega)⟩
end Go.Proofs.Ytchcimkmjoegdaa.C
