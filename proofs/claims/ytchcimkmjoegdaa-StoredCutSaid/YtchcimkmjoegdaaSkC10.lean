/- stored.Store.Doc (38). Conditions: as each theorem states. | The kit's LentInt64s (116), KeptInt64s (119). Conditions: as each theorem states. | The kit's LentEntries (94). Conditions: as each theorem states. | The kit's KeptEntries (107); the law's lent (45). Conditions: as each theorem states. | The law's lent (45), kept (68). Conditions: as each theorem states. (Several texts of mine laid into one by prune.py.) -/
import Derived.Test.YtchcimkmjoegdaaSkC9
namespace Go.Proofs.Ytchcimkmjoegdaa.C
open Go.RowKit Go.Proofs.YtchcimkmjoegdaaW.PrintLast Go.Proofs.YtchcimkmjoegdaaW.PrintWords Go.Proofs.YtchcimkmjoegdaaW.PrintMore Go.Proofs.Ytchcimkmjoegdaa.M
set_option linter.unusedVariables false
set_option linter.unusedSimpArgs false
attribute [local go_sem] Oper.semAt_some

theorem results38 {tmps : Array Value} {W : World} {p4 : Nat} {A : Option Addr} {n c : Nat} (h4 : tmps.getD 4 undef = .pointer (some ⟨p4, 0, none⟩)) (b4 : W.heap[p4]? = some (.cells #[.slice A n c] 52 (0, 0))) : (results Try.f38 tmps).run Try.prog W = .ok (.slice A n c) W := by
  have h4' : tmps[4]?.getD undef = .pointer (some ⟨p4, 0, none⟩) := by simpa using h4
  have c4 : W.cell? ⟨p4, 0, none⟩ = some (.slice A n c) := by simp [World.cell?, b4]
  simp [results, Try.results38, h4', asAddr, go_sem, c4]
abbrev docW0 (w : World) (i : Int) : World := (w.alloc (.cells #[.int .i64 i] 3)).alloc (.cells #[.slice none 0 0] 52)
theorem docW0_facts (w : World) (i : Int) : Fr No w (docW0 w i) ∧ (docW0 w i).heap[w.heap.size]? = some (.cells #[.int .i64 i] 3 (0, 0)) ∧ (docW0 w i).heap[w.heap.size + 1]? = some (.cells #[.slice none 0 0] 52 (0, 0)) := by
  refine ⟨Fr.of_No (accAlloc (accAlloc (Below.refl _ _) (Nat.le_refl _) _) (Nat.le_refl _) _), blk_alloc (heap_alloc_new w _) _, ?_⟩
  have := heap_alloc_new (w.alloc (.cells #[.int .i64 i] 3)) (.cells #[.slice none 0 0] 52)
  rwa [World.size_alloc] at this
theorem doc_none {w W : World} {p4 : Nat} {tmps : Array Value} {x : Value} (h4 : tmps.getD 4 undef = .pointer (some ⟨p4, 0, none⟩)) (hb : W.heap[p4]? = some (.cells #[x] 52 (0, 0))) (hp : w.heap.size ≤ p4) (f : Fr No w W) :
    bodyPost Try.prog Try.f38 (fun e W => e = .returned (.slice none 0 0) ∧ Fr No w W) .ret { tmps := tmps, defers := [] } (W.setCell ⟨p4, 0, none⟩ (.slice none 0 0)) := by
  have hb2 : (W.setCell ⟨p4, 0, none⟩ (.slice none 0 0)).heap[p4]? = some (.cells #[.slice none 0 0] 52 (0, 0)) := by simp [World.setCell, Array.getElem?_modify, hb]
  refine bodyPost_ret (results38 h4 hb2) rfl ?_
  exact ⟨rfl, Fr.of_No (accOne f.no (Nat.le_refl _) (Fr.setCell (S := One p4) W _ _ rfl) hp)⟩
theorem SDoc_nil (w : World) (i : Int) : Calls Try.prog 38 #[.pointer none, .int .i64 i] w fun e W => e = .returned (.slice none 0 0) ∧ Fr No w W := by
  have HN := Aside0.mk (fun W => SLen_nil W)
  have F0 := Aside0.mk (docW0_facts w i)
  by_cases hi : i < 0
  · go_enter Try.func38, Try.ntmps38
    go_wp2_with fail
    go_quiet (fail)
    go_wp2_with fail
    exact doc_none rfl ((Fr.drewN (S := No) _ nq).get F0.out.2.2 (fun h => h)) (by omega) (frt F0.out.1 (Fr.drewN _ nq))
  · go_enter Try.func38, Try.ntmps38
    go_wp2_with fail
    go_quiet ((go_at_call 37; go_must (exact Calls.quiet_of_same (HN.out _))))
    go_wp2_with fail
    exact doc_none rfl ((Fr.drewN (S := No) _ nq).get F0.out.2.2 (fun h => h)) (by omega) (frt F0.out.1 (Fr.drewN _ nq))
theorem SLen_d (w : World) (gs n : Nat) (v : Value) (hb : w.heap[gs]? = some (.cells #[v, .int .i64 (n : Int)] 121 (0, 0))) : Calls Try.prog 37 #[.pointer (some ⟨gs, 0, none⟩)] w fun e w' => e = .returned (.int .i64 n) ∧ w' = w := by
  have h1 : w.cell? ⟨gs, 1, none⟩ = some (.int .i64 (n : Int)) := by simp [World.cell?, hb]
  clear hb
  go_enter Try.func37, Try.ntmps37
  go_wp2_with fail
  go_ret
  exact ⟨rfl, rfl⟩
theorem SDoc_out (w : World) (B gs : Nat) (v : Value) (C : List (Value × Chk)) (d : List (List Ent)) (h : StoD w B gs v C d) (i : Int) (hi : i < 0 ∨ (d.length : Int) ≤ i) : Calls Try.prog 38 #[.pointer (some ⟨gs, 0, none⟩), .int .i64 i] w fun e W => e = .returned (.slice none 0 0) ∧ Fr No w W := by
  have F0 := Aside0.mk (docW0_facts w i)
  have HN := Aside0.mk (fun m => SLen_d ((docW0 w i).drewN m) gs d.length v ((frt F0.out.1 (Fr.drewN _ m)).get h.st (fun h => h)))
  clear h
  by_cases hi0 : i < 0
  · clear hi
    go_enter Try.func38, Try.ntmps38
    go_wp2_with fail
    go_quiet (fail)
    go_wp2_with fail
    exact doc_none rfl ((Fr.drewN (S := No) _ nq).get F0.out.2.2 (fun h => h)) (by omega) (frt F0.out.1 (Fr.drewN _ nq))
  · have hi1 : (d.length : Int) ≤ i := by omega
    clear hi
    go_enter Try.func38, Try.ntmps38
    go_wp2_with fail
    go_quiet ((go_at_call 37; go_must (exact Calls.quiet_of_same (HN.out _))))
    go_wp2_with fail
    exact doc_none rfl ((Fr.drewN (S := No) _ nq).get F0.out.2.2 (fun h => h)) (by omega) (frt F0.out.1 (Fr.drewN _ nq))
theorem DocW.marks {w W W' : World} {ms : List Nat} {B : Nat} {v : Value} {D : List (Value × Ent)} (h : DocW W B v D) (f : Fr (fun k => k ∈ ms) W W') (hm : Marks w W ms) : DocW W' B v D := by
  have hw : ∀ {e size m : Nat} {x : Value} {ys : List Value}, Win W B e size x m ys → Win W' B e size x m ys := fun hx => hx.move fun k hk' _ => by
    obtain ⟨_, _, cur, hc⟩ := hx.at_ hk'
    rw [hc]
    exact f.get hc (fun hs => by
      have := hm.at_ _ hs
      rw [hc] at this
      cases this)
  exact ⟨hw h.hdr, fun p hp => hw (h.part p hp), h.sep⟩
theorem find_chunk : ∀ {C : List Chk} {a b i k : Nat}, Lk a C b → a ≤ i → i < b → k ≤ C.length → (∀ (j : Nat) (c : Chk), j < k → C[j]? = some c → c.t < i + 1) → (∀ (j : Nat) (c : Chk), k ≤ j → C[j]? = some c → i + 1 ≤ c.t) → ∃ c, C[k]? = some c ∧ c.f ≤ i ∧ i < c.t
  | [], a, b, i, k, h, ha, hi, _, _, _ => by
    have h' : a = b := h
    omega
  | c :: C, a, b, i, 0, h, ha, hi, hk, q2, q3 => ⟨c, rfl, by have := h.1; omega, by have := q3 0 c (Nat.le_refl _) rfl; omega⟩
  | c :: C, a, b, i, k + 1, h, ha, hi, hk, q2, q3 => by
    obtain ⟨h1, h2, h3⟩ := h
    have h4 := q2 0 c (by omega) rfl
    obtain ⟨c', k1, k2⟩ := find_chunk (k := k) h3 (by omega) hi (by simpa using hk) (fun j x hj hx => q2 (j + 1) x (by omega) (by simpa using hx)) (fun j x hj hx => q3 (j + 1) x (by omega) (by simpa using hx))
    exact ⟨c', by simpa using k1, k2⟩
/-- The law of the range, the activation in a round told by a function of the activation ahead of it. -/
theorem wp_rangeDocs_at (upd : Array Value → Value → Value → Array Value) {g : Operand} {p0 p1 : Tmp} {assign body : Code} {Q : Exit → Act → World → Prop} {a : Act} {w : World} {gb f t nb c : Nat} {A : Option Addr} {b : List Int}
    (hg : a.eval g = .func (.func 112) #[] #[.pointer (some ⟨gb, 0, none⟩)])
    (hbox : w.heap[gb]? = some (.cells #[.int .i64 (f : Int), .int .i64 (t : Int), .slice A nb c] 118 (0, 0)))
    (hr : RdV w A (nums .u8 b)) (hl : b.length = nb) (hb : Byt b) (h0 : A = none → c = 0) (hc : nb ≤ c) (hn : nb ≤ 140737488355328) (hft : f ≤ t) (ht : t ≤ 16384)
    (I Ix : List (Value × List (Value × Ent)) → World → Prop) (hI : ∀ pre, Abd w.heap.size (I pre)) (hIx : ∀ pre, Abd w.heap.size (Ix pre)) (hi : I [] w)
    (hassign : ∀ (l : Nat) (x y : Value) (W : World) (K : Act → World → Prop), K { tmps := upd a.tmps x y, defers := [] } W →
      assign.wpIn (Fence.wide.inRound l) 0 Try.prog (Exit.then K (fun _ _ _ => False)) { tmps := (a.tmps.setIfInBounds p0 x).setIfInBounds p1 y, defers := [] } W)
    (hbody : ∀ (l : Nat) (pre : List (Value × List (Value × Ent))) (x : Value × List (Value × Ent)) (W : World), pre.length < t - f → w.heap.size ≤ W.heap.size → I pre W → DocW W w.heap.size x.1 x.2 → okD (docOf x) = true → (∀ e ∈ docOf x, I64 e.ns) →
      body.wpIn (Fence.wide.inRound l) 0 Try.prog (rPost (I (pre ++ [x])) (Ix (pre ++ [x])) W) { tmps := upd a.tmps (.int .i64 ((f : Int) + (pre.length : Int))) x.1, defers := [] } W)
    (hdone : ∀ (D : Nat) (dl : List (Value × List (Value × Ent))) (W : World), w.heap.size ≤ D → W.heap[D]? = some (.deferred (some [])) → chunkO b (t - f) = some (dl.map docOf) → I dl W → Q .normal { a with defers := mkD D :: a.defers } W)
    (hstop : ∀ (D : Nat) (pre : List (Value × List (Value × Ent))) (j : Nat) (W : World), w.heap.size ≤ D → W.heap[D]? = some (.deferred (some [])) → docsO b pre.length 0 = some (pre.map docOf, j) → Ix pre W → Q .ret { a with defers := mkD D :: a.defers } W)
    (hpanic : ∀ (D : Nat) (pre : List (Value × List (Value × Ent))) (W : World), w.heap.size ≤ D → W.heap[D]? = some (.deferred (some [])) → chunkO b (t - f) = none → I pre W → Q (.panic [corruptP]) { a with defers := mkD D :: a.defers } W) :
    (Code.rangeFunc g #[p0, p1] assign body).wp Try.prog Q a w :=
  wp_rangeDocs hg hbox hr hl hb h0 hc hn hft ht I Ix hI hIx hi (fun x y => { tmps := upd a.tmps x y, defers := [] }) hassign hbody hdone hstop hpanic
set_option maxRecDepth 100000 in
set_option maxHeartbeats 4000000 in
theorem SDoc_in (w : World) (B gs : Nat) (v : Value) (C : List (Value × Chk)) (d : List (List Ent)) (h : StoD w B gs v C d) (i : Nat) (x : List Ent) (hx : d[i]? = some x) : Calls Try.prog 38 #[.pointer (some ⟨gs, 0, none⟩), .int .i64 (i : Int)] w fun e W => (∃ xv xd, e = .returned xv ∧ xd.map Prod.snd = x ∧ DocW W w.heap.size xv xd) ∧ Fr No w W := by
  have F0 := Aside0.mk (docW0_facts w i)
  have HN := Aside0.mk (fun m => SLen_d ((docW0 w i).drewN m) gs d.length v ((frt F0.out.1 (Fr.drewN _ m)).get h.st (fun h => h)))
  have H := Aside0.mk h
  have HX := Aside0.mk hx
  have hil : i < d.length := (List.getElem?_eq_some_iff.1 hx).1
  have hdl := h.fine.len
  have hrow := (cutsF_row d).1
  have hcl : C.length = (cutsF d).length := by rw [← h.eq, List.length_map]
  have hcl2 := lk_len hrow
  obtain ⟨Av, cv, ev, hcv⟩ := h.ch.hdr.shape
  obtain ⟨K, hK⟩ : ∃ K, C.length = K := ⟨_, rfl⟩
  rw [hK] at ev hcv hcl
  subst ev
  have HK := Aside0.mk hK
  have hK2 : K ≤ 16384 := by omega
  have HCL := Aside0.mk hcl
  have HW64 := Aside0.mk (show wrap64 ((i : Int) + 1) = (i : Int) + 1 from by unfold wrap64; omega)
  clear hcl
  have HBS0 := Aside0.mk (fun (W : World) (f : Fr No w W) => bsearch_any W Av K cv C (i + 1) ((RdV.of_win h.ch.hdr).below f.no) hK hcv hK2 (by omega) (fun p hp => by
    obtain ⟨A', c', e', _⟩ := (h.ch.part p hp).shape
    refine ⟨by rw [e']; rfl, ?_⟩
    have hm : p.2 ∈ cutsF d := by rw [← h.eq]; exact List.mem_map.2 ⟨p, hp, rfl⟩
    have := (cutsF_ft hm).2
    omega) (fun a b p q hab ha hb => by
    have ha' : (cutsF d)[a]? = some p.2 := by rw [← h.eq, List.getElem?_map, ha]; rfl
    have hb' : (cutsF d)[b]? = some q.2 := by rw [← h.eq, List.getElem?_map, hb]; rfl
    exact (lk_mono hrow a b p.2 q.2 hab ha' hb').2.1))
  have HBS := Aside0.mk (fun (W : World) (f : Fr No w W) => show Calls Try.prog 82 #[.slice Av K cv, .int .i64 (wrap64 ((i : Int) + 1)), .func (.func 83) #[] #[]] W fun e W_1 => _ from by have q := HBS0.out W f; rw [Int.natCast_add, Int.natCast_one] at q; rw [HW64.out]; exact q)
  clear HBS0
  have hgs0 := F0.out.1.get h.st (fun h => h)
  have c0 : (docW0 w i).cell? ⟨gs, 0, none⟩ = some (.slice Av K cv) := by simp [World.cell?, hgs0]
  have c1 : (docW0 w i).cell? ⟨w.heap.size, 0, none⟩ = some (.int .i64 (i : Int)) := by have := F0.out.2.1; simp [World.cell?, this]
  clear h hx hrow hcl2 hK hgs0
  refine callsIn_wide.1 (callsIn_of_wp_marks (F := Fence.wide) (n := 0) Try.func38 rfl trivial (wpIn_wide.2 ?_))
  simp only [Try.ntmps38, List.size_toArray, List.length_cons, List.length_nil, Nat.reduceAdd, Nat.reduceSub, Array.replicate_succ, Array.replicate_zero, List.push_toArray, List.append_toArray, List.nil_append, List.cons_append]
  go_wp2_with fail
  refine wp_region_noPanic ?_
  go_quiet ((go_at_call 37; go_must (exact Calls.quiet_of_same (HN.out _))))
  refine NoPanic.normal ?_
  go_wp2_with fail
  refine wp_region_noPanic ?_
  refine start_ (n := 12) (S := fun w' => w'.cell? ⟨gs, 0, none⟩ = some (.slice Av K cv) ∧ w'.cell? ⟨w.heap.size, 0, none⟩ = some (.int .i64 (i : Int))) (ds := []) #[false, false, false, false, false, false, false, false, false, false, false, false] (by kernel_rfl) rfl rfl ⟨(by simpa using c0), (by simp)⟩ (fun hHeld => ?_)
  refine pure_ (i := 0) (N := some 18) (v := ?_) (a' := ?_) #[true, false, false, false, false, false, false, false, false, false, false, false] rfl rfl (by kernel_rfl) (fun _ _ _ h => h) (Or.inl ⟨by rfl, ?_⟩) ?_ ?_
  rotate_left
  · intro w'
    go_simp
    with_reducible rfl
  rotate_left
  · simp only [Act.put, List.setIfInBounds_toArray, List.set_cons_zero, List.set_cons_succ, i64_w, i32_w]
    rfl
  refine pure_ (i := 1) (N := some 19) (v := ?_) (a' := ?_) #[true, true, false, false, false, false, false, false, false, false, false, false] rfl rfl (by kernel_rfl) (fun _ _ _ h => h) (Or.inl ⟨by rfl, ?_⟩) ?_ ?_
  rotate_left
  · intro w'
    go_simp
    with_reducible rfl
  rotate_left
  · simp only [Act.put, List.setIfInBounds_toArray, List.set_cons_zero, List.set_cons_succ, i64_w, i32_w]
    rfl
  refine pure_ (i := 2) (N := some 20) (v := ?_) (a' := ?_) #[true, true, true, false, false, false, false, false, false, false, false, false] rfl rfl (by kernel_rfl) (fun _ _ _ h => h) (Or.inl ⟨by rfl, ?_⟩) ?_ ?_
  rotate_left
  · intro w'
    go_simp
    with_reducible rfl
  rotate_left
  · simp only [Act.put, List.setIfInBounds_toArray, List.set_cons_zero, List.set_cons_succ, i64_w, i32_w]
    rfl
  refine take_ (i := 3) (N := some 21) (v := ?_) (a' := ?_) #[true, true, true, true, false, false, false, false, false, false, false, false] rfl rfl (by kernel_rfl) (fun _ _ _ h => h) (Or.inl ⟨by rfl, ?_⟩) hHeld ?_ ?_
  rotate_left
  · rintro w' ⟨s0, s1⟩
    go_simp
    with_reducible rfl
  rotate_left
  · simp only [Act.put, List.setIfInBounds_toArray, List.set_cons_zero, List.set_cons_succ, i64_w, i32_w]
    rfl
  refine take_ (i := 4) (N := some 22) (v := ?_) (a' := ?_) #[true, true, true, true, true, false, false, false, false, false, false, false] rfl rfl (by kernel_rfl) (fun _ _ _ h => h) (Or.inl ⟨by rfl, ?_⟩) hHeld ?_ ?_
  rotate_left
  · rintro w' ⟨s0, s1⟩
    go_simp
    with_reducible rfl
  rotate_left
  · simp only [Act.put, List.setIfInBounds_toArray, List.set_cons_zero, List.set_cons_succ, i64_w, i32_w]
    rfl
  refine pure_ (i := 5) (N := some 23) (v := ?_) (a' := ?_) #[true, true, true, true, true, true, false, false, false, false, false, false] rfl rfl (by kernel_rfl) (fun _ _ _ h => h) (Or.inl ⟨by rfl, ?_⟩) ?_ ?_
  rotate_left
  · intro w'
    go_simp
    with_reducible rfl
  rotate_left
  · simp only [Act.put, List.setIfInBounds_toArray, List.set_cons_zero, List.set_cons_succ, i64_w, i32_w]
    rfl
  refine one_ (i := 6) (N := some 24) #[true, true, true, true, true, true, true, false, false, false, false, false] rfl rfl (by kernel_rfl) (by decide) (fun Kc hKc => ?_)
  refine goes_ Try.func82 (by kernel_rfl) rfl #[.slice Av K cv, .int .i64 (wrap64 ((i : Int) + 1)), .func (.func 83) #[] #[]] (by rfl) rfl rfl (by simp only [List.map_toArray, List.map_cons, List.map_nil]; rfl) ?_
  with_reducible refine (HBS.out _ (frt (frt F0.out.1 (Fr.drewN _ nq)) (Fr.of_No (below_drew (Below.refl _ _))))).mono ?_
  rintro e' w2 ⟨⟨k, bb, rfl, q1, q2, q3⟩, q4⟩
  refine ⟨_, rfl, ?_⟩
  have F2 := Aside0.mk (frt (frt (frt F0.out.1 (Fr.drewN _ nq)) (Fr.of_No (below_drew (Below.refl _ _)))) q4)
  have F3 := Aside0.mk (frt (frt (Fr.drewN (docW0 w i) nq) (Fr.of_No (below_drew (Below.refl _ _)))) q4)
  have d0 := pw_cell_below F3.out.no c0
  have d1 := pw_cell_below F3.out.no c1
  have HK2 := Aside0.mk (And.intro q2 q3)
  clear q2 q3 q4
  refine hKc.out _ _ ⟨d0, d1⟩ (fun hHeld => ?_)
  clear hKc Kc
  refine norm_ (a' := ?_) ?_ ?_
  rotate_left
  · show Act.put _ (some 24) _ = _
    simp only [Act.put, List.setIfInBounds_toArray, List.set_cons_zero, List.set_cons_succ, i64_w, i32_w]
    rfl
  refine pure_ (i := 7) (N := some 17) (v := ?_) (a' := ?_) #[true, true, true, true, true, true, true, true, false, false, false, false] rfl rfl (by kernel_rfl) (fun _ _ _ h => h) (Or.inl ⟨by rfl, ?_⟩) ?_ ?_
  rotate_left
  · intro w'
    go_simp
    with_reducible rfl
  rotate_left
  · simp only [Act.put, List.setIfInBounds_toArray, List.set_cons_zero, List.set_cons_succ, i64_w, i32_w]
    rfl
  refine pure_ (i := 8) (N := some 25) (v := ?_) (a' := ?_) #[true, true, true, true, true, true, true, true, true, false, false, false] rfl rfl (by kernel_rfl) (fun _ _ _ h => h) (Or.inl ⟨by rfl, ?_⟩) ?_ ?_
  rotate_left
  · intro w'
    go_simp
    with_reducible rfl
  rotate_left
  · simp only [Act.put, List.setIfInBounds_toArray, List.set_cons_zero, List.set_cons_succ, i64_w, i32_w]
    rfl
  refine pure_ (i := 9) (N := some 26) (v := ?_) (a' := ?_) #[true, true, true, true, true, true, true, true, true, true, false, false] rfl rfl (by kernel_rfl) (fun _ _ _ h => h) (Or.inl ⟨by rfl, ?_⟩) ?_ ?_
  rotate_left
  · intro w'
    go_simp
    with_reducible rfl
  rotate_left
  · simp only [Act.put, List.setIfInBounds_toArray, List.set_cons_zero, List.set_cons_succ, i64_w, i32_w]
    rfl
  refine pure_ (i := 10) (N := some 5) (v := ?_) (a' := ?_) #[true, true, true, true, true, true, true, true, true, true, true, false] rfl rfl (by kernel_rfl) (fun _ _ _ h => h) (Or.inl ⟨by rfl, ?_⟩) ?_ ?_
  rotate_left
  · intro w'
    go_simp
    with_reducible rfl
  rotate_left
  · simp only [Act.put, List.setIfInBounds_toArray, List.set_cons_zero, List.set_cons_succ, i64_w, i32_w]
    rfl
  refine pure_ (i := 11) (N := some 6) (v := ?_) (a' := ?_) #[true, true, true, true, true, true, true, true, true, true, true, true] rfl rfl (by kernel_rfl) (fun _ _ _ h => h) (Or.inl ⟨by rfl, ?_⟩) ?_ ?_
  rotate_left
  · intro w'
    go_simp
    with_reducible rfl
  rotate_left
  · simp only [Act.put, List.setIfInBounds_toArray, List.set_cons_zero, List.set_cons_succ, i64_w, i32_w]
    rfl
  refine done_ (by kernel_rfl) ?_
  refine NoPanic.normal ?_
  obtain ⟨ck, hck, hcf, hct⟩ := find_chunk (i := i) (k := k) (cutsF_row d).1 (Nat.zero_le _) hil (by have := HCL.out; omega) (fun j c hj hc => by
    rw [← H.out.eq, List.getElem?_map, Option.map_eq_some_iff] at hc
    obtain ⟨p, hp, rfl⟩ := hc
    exact HK2.out.1 j p hj hp) (fun j c hj hc => by
    rw [← H.out.eq, List.getElem?_map, Option.map_eq_some_iff] at hc
    obtain ⟨p, hp, rfl⟩ := hc
    exact HK2.out.2 j p hj hp)
  have hcm := List.mem_of_getElem? hck
  have HBK := Aside0.mk (chunk_back H.out.fine.1 H.out.fine.2 hcm)
  have HBB := Aside0.mk (cutsF_byt hcm)
  have hsm := H.out.fine.small ck hcm
  have hft := cutsF_ft hcm
  have H2 := Aside0.mk (H.out.no F2.out)
  obtain ⟨⟨u, ck'⟩, hp, hpe⟩ : ∃ p, C[k]? = some p ∧ p.2 = ck := by
    rw [← H.out.eq, List.getElem?_map, Option.map_eq_some_iff] at hck
    exact hck
  replace hpe : ck' = ck := hpe
  subst hpe
  obtain ⟨f, t, b⟩ := ck'
  replace hcf : f ≤ i := hcf
  replace hct : i < t := hct
  replace hsm : b.length ≤ 300000 := hsm
  replace hft : f ≤ t ∧ t ≤ d.length := hft
  have hkK : k < K := by have := (List.getElem?_eq_some_iff.1 hp).1; have := HK.out; omega
  obtain ⟨gv, off, cv', ev, _⟩ := Win.shape1 H2.out.ch.hdr (by have := HK.out; omega)
  rw [HK.out] at ev
  injection ev with ev1 _ ev2
  subst ev1
  subst ev2
  obtain ⟨⟨m0, _⟩, ⟨m1, _⟩, m2, _⟩ := H2.out.ch.cells HK.out hp
  have hacc := H2.out.ch.part _ (List.mem_of_getElem? hp)
  obtain ⟨Au, cu, eu, hcu⟩ := Win.shape hacc
  replace eu : u = .slice Au b.length cu := eu
  subst eu
  obtain ⟨nb, hnb⟩ : ∃ nb, b.length = nb := ⟨_, rfl⟩
  have HNB := Aside0.mk hnb
  have HACC := Aside0.mk (show Win w2 B 5 1 (.slice Au nb cu) nb (nums .u8 b) from by rw [← hnb]; exact hacc)
  replace hcu : nb ≤ cu := by rw [← hnb]; exact hcu
  rw [hnb] at m2 hsm
  have H4 := Aside0.mk (show w2.heap[w.heap.size + 1]? = some (.cells #[.slice none 0 0] 52 (0, 0)) from F3.out.get F0.out.2.2 (fun h => h))
  have hp4 : w.heap.size + 1 < w2.heap.size := blk_lt H4.out
  have H3 := Aside0.mk (show w2.heap[w.heap.size]? = some (.cells #[.int .i64 (i : Int)] 3 (0, 0)) from F3.out.get F0.out.2.1 (fun h => h))
  clear hnb hp hacc hck hcm
  go_wp2_with (first | (go_at_call 84; go_must (refine (docs_any _ (f : Int) (t : Int) (.slice Au nb cu)).mono ?_; rintro e' w8 ⟨rfl, h8⟩; have H8 := Aside0.mk h8; clear h8)))
  have F8 : Fr No w2 w8 := by
    rw [H8.out]
    exact Fr.of_No (accAlloc (Below.refl _ _) (Nat.le_refl _) _)
  have hbox : w8.heap[w2.heap.size]? = some (.cells #[.int .i64 (f : Int), .int .i64 (t : Int), .slice Au nb cu] 118 (0, 0)) := by
    rw [H8.out]
    exact heap_alloc_new w2 _
  have hAu : Au = none → cu = 0 := fun e => by
    subst e
    exact HACC.out.nil_cap
  have H48 := Aside0.mk (F8.get H4.out (fun h => h))
  have H38 := Aside0.mk (F8.get H3.out (fun h => h))
  have hp8 : w.heap.size + 1 < w8.heap.size := blk_lt H48.out
  refine wp_rangeDocs_at (fun tm x y => (((tm.setIfInBounds 35 x).setIfInBounds 36 y).setIfInBounds 7 x).setIfInBounds 8 y) (gb := w2.heap.size) (f := f) (t := t) (nb := nb) (c := cu) (A := Au) (b := b) rfl hbox (RdV.of_win (HACC.out.below F8.no)) HNB.out HBB.out hAu hcu (by omega) (by omega) (by omega)
    (fun pre W => Fr No w8 W ∧ f + pre.length ≤ i) (fun pre W => ∃ pre0 x, pre = pre0 ++ [x] ∧ f + pre0.length = i ∧ Fr (One (w.heap.size + 1)) w8 W ∧ W.heap[w.heap.size + 1]? = some (.cells #[x.1] 52 (0, 0)) ∧ DocW W w8.heap.size x.1 x.2)
    (fun pre X Y g' hi hB hg hf => ⟨hi.1.trans hf (fun _ _ h => h) (fun j hlt h => by have h' : j = g' := h; omega), hi.2⟩) (fun pre X Y g' hi hB hg hf => ?_) ⟨Fr.refl _ _, by simpa using hcf⟩ ?assign ?body ?done ?stop ?panic
  · obtain ⟨pre0, x', e1, e2, e3, e4, e5⟩ := hi
    exact ⟨pre0, x', e1, e2, e3.trans hf (fun _ _ h => h) (fun j hlt h => by have h' : j = g' := h; omega), Ab.blk hg hf e4 (by decide), Ab.doc hg hf e5⟩
  case assign =>
    intro l x' y W Kc hK
    simp only [List.setIfInBounds_toArray, List.set_cons_zero, List.set_cons_succ] at hK ⊢
    gi_wp2
    exact hK
  case body =>
    rintro l pre ⟨xv, xd⟩ W hlen hsz ⟨hA, hle⟩ hd ho h64
    obtain ⟨Ax, cx, ex, hcx⟩ := hd.hdr.shape
    replace ex : xv = .slice Ax xd.length cx := ex
    subst ex
    obtain ⟨lx, hlx⟩ : ∃ m, xd.length = m := ⟨_, rfl⟩
    dsimp only
    rw [hlx] at hd hcx ⊢
    simp only [List.setIfInBounds_toArray, List.set_cons_zero, List.set_cons_succ]
    have b3 := hA.get H38.out (fun h => h)
    have b4 := hA.get H48.out (fun h => h)
    have n3 : W.cell? ⟨w.heap.size, 0, none⟩ = some (.int .i64 (i : Int)) := by simp [World.cell?, b3]
    have n4 : W.cell? ⟨w.heap.size + 1, 0, none⟩ = some (.slice none 0 0) := by simp [World.cell?, b4]
    have n4f : W.frozen? ⟨w.heap.size + 1, 0, none⟩ = false := by simp [World.frozen?, b4]
    have HA := Aside0.mk hA
    have HD := Aside0.mk hd
    have HB4 := Aside0.mk b4
    clear hA hd ho h64 b3 b4 hlx
    by_cases heq : f + pre.length = i
    · have hz : ((f : Int) + pre.length == (i : Int)) = true := by simp; omega
      gi_wp2
      have fS : Fr (One (w.heap.size + 1)) W (W.setCell ⟨w.heap.size + 1, 0, none⟩ (.slice Ax lx cx)) := Fr.setCell _ _ _ rfl
      have tS := Ty.one HB4.out
      have hb := HB4.out
      exact ⟨Ty.others fS tS, pre, .slice Ax lx cx, xd, ⟨rfl, rfl, rfl⟩, heq, HA.out.trans fS (fun _ _ h => h.elim) (fun _ _ h => h), by simp [World.setCell, Array.getElem?_modify, hb], HD.out.ty fS tS (by decide) (by decide)⟩
    · have hz : ((f : Int) + pre.length == (i : Int)) = false := by simp; omega
      gi_wp2
      exact ⟨KeepsOthers.refl _, Kp.refl _, HA.out, by omega⟩
  case done =>
    rintro Dm dl W hD hm hS ⟨hA, hle⟩
    have := chunkO_len hS
    rw [List.length_map] at this
    omega
  case stop =>
    rintro Dm pre j W hD hm hS ⟨pre0, x', e1, e2, e3, e4, e5⟩
    have hmk : Marks w W [Dm] := (Marks.nil w W).push hm (Nat.le_trans (Nat.le_trans F2.out.size F8.size) hD) (fun _ h => (nomatch h))
    show LeavesInM Fence.wide 0 Try.prog Try.f38 _ _ ([Dm].map mkD ++ []) .returning W
    refine leave_marks (by simp) [Dm] w W hmk (fun W' f' => ?_)
    obtain ⟨xv, xd⟩ := x'
    obtain ⟨Ax, cx, ex, _⟩ := e5.hdr.shape
    replace ex : xv = .slice Ax xd.length cx := ex
    subst ex
    have e6 := f'.get e4 (fun hs => by
      have := hmk.at_ _ hs
      rw [e4] at this
      cases this)
    have hlen : pre.length = pre0.length + 1 := by rw [e1, List.length_append]; rfl
    obtain ⟨j', hj'⟩ := docsO_take (k := pre.length) HBK.out (by show pre.length ≤ t - f; omega)
    replace hj' : docsO b pre.length 0 = some (((d.take t).drop f).take pre.length, j') := hj'
    rw [hS] at hj'
    injection hj' with hj'
    injection hj' with hj' _
    have hxd : docOf (.slice Ax xd.length cx, xd) = x := by
      have h1 : (pre.map docOf)[pre0.length]? = some (docOf (.slice Ax xd.length cx, xd)) := by rw [e1, List.map_append, List.getElem?_append_right (by rw [List.length_map]; exact Nat.le_refl _), List.length_map, Nat.sub_self]; rfl
      rw [hj', List.getElem?_take, if_pos (by omega), List.getElem?_drop, e2, List.getElem?_take, if_pos hct, HX.out] at h1
      injection h1 with h1
      exact h1.symm
    refine ⟨_, results38 rfl e6, ⟨_, xd, rfl, hxd, (e5.marks f' hmk).lower (Nat.le_trans F2.out.size F8.size)⟩, Fr.of_No ?_⟩
    exact acc (acc (accNo F2.out.no (Nat.le_refl _) F8) (Nat.le_refl _) e3 (fun k hk => by have hk' : k = w.heap.size + 1 := hk; omega)) (Nat.le_refl _) f' hmk.ge
  case panic =>
    intro Dm pre W hD hm hS hi
    have := HBK.out
    rw [show chunkO b (t - f) = some ((d.take t).drop f) from by unfold chunkO; rw [this]; simp] at hS
    cases hS
end Go.Proofs.Ytchcimkmjoegdaa.C
namespace Go.Proofs.Ytchcimkmjoegdaa.C
open Go.RowKit Go.Proofs.YtchcimkmjoegdaaW.PrintWords Go.Proofs.YtchcimkmjoegdaaW.PrintMore Go.Proofs.Ytchcimkmjoegdaa.M
set_option linter.unusedVariables false
set_option linter.unusedSimpArgs false

theorem small_bound8 {n : Nat} (h : n ≤ 17592186043905) : n ≤ maxLen ∧ (n + n / 4 + 700) * 8 ≤ 281474976710656 := by
  simp only [maxLen]; omega
set_option maxHeartbeats 1000000 in
/-- kit.LentInt64s: the numbers in memory of their own, a mark behind them. -/
theorem LentInts_any (w : World) (A : Option Addr) (n c : Nat) (xs : List Int) (hr : RdV w A (nums .i64 xs)) (hl : xs.length = n) (hc : n ≤ c) (hn : n ≤ 17592186043904) :
    Calls Try.prog 116 #[.slice A n c] w fun e w' => ∃ A' c', e = .returned (.slice A' n c') ∧ Win w' w.heap.size 2 1 (.slice A' (n + 1) c') (n + 1) (nums .i64 (xs ++ [-7171])) ∧ Fr No w w' := by
  have HS := Aside0.mk (Src.of_rd (P := Try.prog) (size := 1) (m := n) (c := c) hr (by simp [nums, hl]) (nums_one _ _))
  have HB := Aside0.mk (small_bound8 (n := n) (by omega))
  have HB1 := Aside0.mk (small_bound8 (n := n + 1) (by omega))
  obtain ⟨i0, hi, _, hsz, _⟩ := info_parts info2
  have hcut := fun (A : Option Addr) (c : Nat) (h : n + 1 ≤ c) => cuth (P := Try.prog) 45 2 .i64 Try.underlying45 hi A (n + 1) c n (by omega)
  have HC := Aside0.mk hcut
  have hn' : (n : Int) ≤ 9223372036854775807 := by omega
  clear hr hl hi hsz hcut
  go_enter Try.func116, Try.ntmps116
  go_wp2_with (first | ((with_reducible refine gate_builtin (b := .append) (xs := #[.tmp 4, .tmp 5]) rfl ?_); at_builtin; go_must (refine wpl_append w w.heap.size rfl (.tmp 4) (.tmp 5) 45 45 2 (.int .i64 0) 1 8 (.slice 2) rfl Try.underlying45 Try.underlying45 (.inl ⟨_, rfl⟩) info2 rfl (.slice none 0 0) 0 [] (.slice A n c) n (nums .i64 xs) rfl rfl (Win.nil _ _ _ _) HS.out (Nat.le_refl _) (by simpa using HB.out.1) (by simpa using HB.out.2) ?_; intro v1 w1 g1 _ g3 _; have G1 := Aside0.mk g1; have G3 := Aside0.mk g3; clear g1 g3)) | ((with_reducible refine gate_builtin (b := .append) (xs := #[.tmp 7, .tmp 8]) rfl ?_); at_builtin; go_must (refine wpl_append1 w1 w.heap.size rfl (.tmp 7) (.tmp 8) 45 2 (.int .i64 0) 1 8 rfl Try.underlying45 info2 rfl v1 n (nums .i64 xs) [.int .i64 (-7171)] rfl rfl (by simpa using G1.out) rfl (by simp [Value.oneCell']) G3.out.size HB1.out.1 HB1.out.2 ?_; intro v2 w2 k1 _ k3 _; have K1 := Aside0.mk k1; have K3 := Aside0.mk k3; clear k1 k3; obtain ⟨A2, c2, e2, l2⟩ := K1.out.shape; subst e2; have hcut := HC.out A2 c2 l2)))
  go_ret
  have F1 : Fr No w w1 := G3.out.mono (fun k hk h => (At.none h).elim)
  refine ⟨A2, c2, rfl, by simpa [nums] using K1.out, F1.trans K3.out (fun _ _ h => h) (fun k hk h => ?_)⟩
  exact ((show Win w1 w.heap.size 2 1 v1 n (nums .i64 xs) by simpa using G1.out).young h hk).elim
set_option maxHeartbeats 1000000 in
/-- kit.KeptInt64s: the numbers and the mark behind them. -/
theorem KeptInts_any (w : World) (A B : Option Addr) (n c d n' : Nat) (xs ys : List Int) (x : Int) (hx : RdV w A (nums .i64 (xs ++ [x]))) (hy : RdV w B (nums .i64 ys)) (hl : xs.length = n) (hl' : ys.length = n') (hn : n + 1 ≤ 9223372036854775807) (hn' : n' ≤ 9223372036854775807) (hc : n + 1 ≤ c) (hd : n' ≤ d) :
    Calls Try.prog 119 #[.slice A n c, .slice B n' d] w fun e w' => e = .returned (.bool (decide (xs = ys) && decide (x = -7171))) ∧ ∃ m, w' = w.drewN m := by
  have HB := KInts_any w A B n n' c d xs ys (by have := RdV.take hx n; rw [nums_take, ← hl, List.take_left] at this; exact this) hy hl hl' (by omega) hn' (by omega) hd
  obtain ⟨ad, eA, hcell⟩ := rd_at (i := n) (x := x) hx (by rw [← hl]; simp)
  subst eA
  obtain ⟨i0, hi, _, hsz, _⟩ := info_parts info2
  have hcut := cuth (P := Try.prog) 45 2 .i64 Try.underlying45 hi (some ad) n c (n + 1) hc
  simp only [Int.natCast_add, Int.natCast_one] at hcut
  have hn1 : (n : Int) + 1 ≤ 9223372036854775807 := by omega
  clear hx hy hi hsz hl hl'
  by_cases hxy : xs = ys
  · rw [decide_eq_true hxy] at HB ⊢
    have H := Aside0.mk HB
    clear HB hxy
    go_enter Try.func119, Try.ntmps119
    go_wp2_with (go_at_call 92; go_must (refine H.out.mono ?_; rintro e' w1 ⟨rfl, m, rfl⟩))
    go_ret
    exact ⟨congrArg (fun b => Ending.returned (.bool b)) (show (x == -7171) = (true && decide (x = -7171)) by rw [Bool.true_and]; rfl), m, rfl⟩
  · rw [decide_eq_false hxy] at HB ⊢
    have H := Aside0.mk HB
    clear HB hxy
    go_enter Try.func119, Try.ntmps119
    go_wp2_with (go_at_call 92; go_must (refine H.out.mono ?_; rintro e' w1 ⟨rfl, m, rfl⟩))
    go_ret
    exact ⟨rfl, m, rfl⟩
end Go.Proofs.Ytchcimkmjoegdaa.C
namespace Go.Proofs.Ytchcimkmjoegdaa.C
open Go.RowKit Go.Proofs.YtchcimkmjoegdaaW.PrintWords Go.Proofs.YtchcimkmjoegdaaW.PrintMore Go.Proofs.Ytchcimkmjoegdaa.M
set_option linter.unusedVariables false
set_option linter.unusedSimpArgs false

/-- Lent numbers: a mark lies behind them. -/
def LentI (W : World) (B : Nat) (p : Value × Ent) : Prop := ∃ A c, p.1 = .slice A p.2.ns.length c ∧ Win W B 2 1 (.slice A (p.2.ns.length + 1) c) (p.2.ns.length + 1) (nums .i64 (p.2.ns ++ [-7171]))
theorem LentI.below {W W' : World} {B : Nat} {p : Value × Ent} (h : LentI W B p) (hb : Below W.heap.size W W') : LentI W' B p := by
  obtain ⟨A, c, h1, h2⟩ := h
  exact ⟨A, c, h1, h2.below hb⟩
/-- A list of entries that grows is turned: the numbers stay. -/
theorem LentI.fr {W W' : World} {B B' size n : Nat} {t : TypeId} {v : Value} {xs : List Value} {p : Value × Ent} (h : LentI W B p) (hv : Win W B' t size v n xs) (ht : 2 ≠ t) (f : Fr (At v) W W') : LentI W' B p := by
  obtain ⟨A, c, h1, h2⟩ := h
  exact ⟨A, c, h1, h2.fr f (fun k hk hv' => win_apart h2 hv ht hk hv')⟩
def markC : List Value := [.string ⟨#[109, 97, 114, 107]⟩, .string ByteArray.empty, .slice none 0 0]
/-- Lent entries: a mark lies behind them. -/
def LentD (W : World) (B : Nat) (v : Value) (E : List (Value × Ent)) : Prop := ∃ A c, v = .slice A E.length c ∧ Win W B 134 3 (.slice A (E.length + 1) c) (E.length + 1) (E.flatMap entCells ++ markC) ∧ ∀ p ∈ E, LentI W B p
theorem LentD.below {W W' : World} {B : Nat} {v : Value} {E : List (Value × Ent)} (h : LentD W B v E) (hb : Below W.heap.size W W') : LentD W' B v E := by
  obtain ⟨A, c, h1, h2, h3⟩ := h
  exact ⟨A, c, h1, h2.below hb, fun p hp => (h3 p hp).below hb⟩
theorem LentD.lower {W : World} {B B' : Nat} {v : Value} {E : List (Value × Ent)} (h : LentD W B v E) (hb : B' ≤ B) : LentD W B' v E := by
  obtain ⟨A, c, h1, h2, h3⟩ := h
  exact ⟨A, c, h1, h2.lower hb, fun p hp => by obtain ⟨A2, c2, k1, k2⟩ := h3 p hp; exact ⟨A2, c2, k1, k2.lower hb⟩⟩
theorem LentD.fr {W W' : World} {B B' size n : Nat} {t : TypeId} {v u : Value} {xs : List Value} {E : List (Value × Ent)} (h : LentD W B v E) (hv : Win W B' t size u n xs) (ht : 2 ≠ t) (ht' : 134 ≠ t) (f : Fr (At u) W W') : LentD W' B v E := by
  obtain ⟨A, c, h1, h2, h3⟩ := h
  exact ⟨A, c, h1, h2.fr f (fun k hk hv' => win_apart h2 hv ht' hk hv'), fun p hp => (h3 p hp).fr hv ht f⟩
/-- The state of LentEntries' loop. -/
structure LentS (w W : World) (v : Value) (D : List Ent) (E : List (Value × Ent)) : Prop where
  hdr : Win W w.heap.size 134 3 v E.length (E.flatMap entCells)
  part : ∀ p ∈ E, LentI W w.heap.size p
  all : E.map Prod.snd = D
  fr : Fr No w W
theorem LentS.step {w wo w1 w3 : World} {v v1 : Value} {D : List Ent} {E : List (Value × Ent)} {e : Ent} {A2 : Option Addr} {c2 : Nat} {u : Value} (h : LentS w wo v D E)
    (hu : Win w1 wo.heap.size 2 1 (.slice A2 (e.ns.length + 1) c2) (e.ns.length + 1) (nums .i64 (e.ns ++ [-7171]))) (f1 : Fr No wo w1) (hb : ∃ cs, w1.heap[wo.heap.size]? = some (.cells cs 134 (0, 0)))
    (g1 : Win w3 w.heap.size 134 3 v1 (E.length + 1) (E.flatMap entCells ++ entCells (.slice A2 e.ns.length c2, e))) (g3 : Fr (At v) (w1.setCell ⟨wo.heap.size, 2, none⟩ u) w3) : LentS w w3 v1 (D ++ [e]) (E ++ [(.slice A2 e.ns.length c2, e)]) := by
  have f2 : Fr (One wo.heap.size) w1 (w1.setCell ⟨wo.heap.size, 2, none⟩ u) := Fr.setCell w1 _ _ rfl
  have f3 : Fr No wo (w1.setCell ⟨wo.heap.size, 2, none⟩ u) := f1.trans f2 (fun _ _ h => h) (fun k hk hs => by have hs' : k = wo.heap.size := hs; omega)
  have hv2 := h.hdr.below f3.no
  obtain ⟨cs, hb⟩ := hb
  refine ⟨by rw [List.length_append, List.flatMap_append]; simpa using g1, fun p hp => ?_, by rw [List.map_append, h.all]; rfl, ?_⟩
  · rcases List.mem_append.1 hp with hp | hp
    · exact ((h.part p hp).below f3.no).fr hv2 (by decide) g3
    · simp only [List.mem_cons, List.mem_nil_iff, or_false] at hp
      subst hp
      have hu2 := (hu.fr f2 (fun k hk hs => by have hs' : k = wo.heap.size := hs; subst hs'; exact absurd (hu.ne_type hk hb) (by decide))).lower (base' := w.heap.size) h.fr.size
      exact LentI.fr ⟨A2, c2, rfl, hu2⟩ hv2 (by decide) g3
  · exact (h.fr.trans f3 (fun _ _ h => h) (fun _ _ h => h)).trans g3 (fun _ _ h => h) (fun k hk hs => by have := (hv2.at_ hs).1; omega)
theorem lentD_bound {n : Nat} (h : n ≤ 2513169434845) : n + 1 ≤ maxLen ∧ (n + 1 + (n + 1) / 4 + 700) * 56 ≤ 281474976710656 := by
  simp only [maxLen]; omega
theorem mapd_len {D E : List (Value × Ent)} {i : Nat} (h : E.map Prod.snd = (D.take i).map Prod.snd) (hi : i ≤ D.length) : E.length = i := by
  have := congrArg List.length h
  simp at this
  omega
set_option maxRecDepth 100000 in
set_option maxHeartbeats 2000000 in
theorem LentEntries_any (w : World) (A : Option Addr) (n c : Nat) (D : List (Value × Ent)) (h : DocR w A n c D) :
    Calls Try.prog 94 #[.slice A n c] w fun e w' => ∃ v E, e = .returned v ∧ LentD w' w.heap.size v E ∧ E.map Prod.snd = D.map Prod.snd ∧ Fr No w w' := by
  have hmax := h.max
  have hN : n ≤ 9223372036854775807 := by omega
  have H := Aside0.mk h
  have HMX := Aside0.mk hmax
  clear h hmax
  go_enter Try.func94, Try.ntmps94
  go_wp2_with fail
  go_loopw [3, 4] (fun v3 v4 wr => ∃ i : Nat, v4 = .int .i64 i ∧ i ≤ n ∧ Aside0 (∃ E, LentS w wr v3 ((D.take i).map Prod.snd) E)) (fun _ v4 _ => n - (intOf v4).toNat)
  case atStart => exact ⟨0, rfl, by omega, ⟨[], Win.nil _ _ _ _, fun p hp => (nomatch hp), rfl, Fr.refl _ _⟩⟩
  case round =>
    obtain ⟨i, rfl, hi, HI⟩ := hrel
    obtain ⟨E, hE⟩ := HI.out
    obtain ⟨wo, rfl⟩ : ∃ wo : World, wo = wr := ⟨_, rfl⟩
    have HE := Aside0.mk hE
    by_cases hlt : i < n
    · obtain ⟨⟨pv, f, t, ns⟩, hp⟩ := get_some' (xs := D) (i := i) (by have := H.out.len; omega)
      have da := H.out.below hE.fr.no
      obtain ⟨a1, e1, h10, h11, h12⟩ := ent_at da.hdr hp
      subst e1
      obtain ⟨A1, c1, f1, f2, f3, f4, f5, _⟩ := da.part _ (List.mem_of_getElem? hp)
      obtain rfl : pv = .slice A1 ns.length c1 := f1
      simp only at h10 h11 h12
      have HP := Aside0.mk hp
      have HR := Aside0.mk f3
      have HC := Aside0.mk f2
      have HM := Aside0.mk (show ns.length ≤ 17592186043904 from f5)
      clear hp f2 f3 f4 f5 da hE
      generalize hl1 : ns.length = l1 at *
      have HL := Aside0.mk hl1
      clear hl1
      have HEL := Aside0.mk (mapd_len HE.out.all (by have := H.out.len; omega))
      have HLB := Aside0.mk (lentD_bound (n := i) (by have := HMX.out; omega))
      have HLI := Aside0.mk (LentInts_any (wo.alloc (Obj.cells #[Value.string f, Value.string t, Value.slice A1 l1 c1] 134)) A1 l1 c1 ns (HR.out.below (below_alloc (Below.refl _ _) _)) HL.out HC.out HM.out)
      have HBX := Aside0.mk (heap_alloc_new wo (Obj.cells #[Value.string f, Value.string t, Value.slice A1 l1 c1] 134))
      go_wp2_with (first | ((with_reducible refine gate_builtin (b := .append) (xs := #[.tmp 20, .tmp 22]) rfl ?_); at_builtin; go_must (refine wpl_append1 (w1.setCell ⟨wo.heap.size, 2, none⟩ (.slice A2 l1 c2)) w.heap.size rfl (.tmp 20) (.tmp 22) 52 134 (.agg #[.string ByteArray.empty, .string ByteArray.empty, .slice none 0 0]) 3 56 rfl Try.underlying52 info134 rfl u3 i (E.flatMap entCells) [.string f, .string t, .slice A2 l1 c2] rfl (by show Value.slice (some ⟨w1.heap.size, 0, none⟩) 1 1 = _; simp) (by have h := HE.out.hdr.below F3.out.no; rwa [HEL.out] at h) rfl (by simp [Value.oneCell']) (Nat.le_trans HE.out.fr.size F3.out.size) HLB.out.1 HLB.out.2 ?_; intro v3 w3 g1 _ g3 _; have G1 := Aside0.mk g1; have G3 := Aside0.mk g3; clear g1 g3)) | (go_at_call 116; go_must (refine HLI.out.mono ?_; rintro e' w1 ⟨A2, c2, rfl, q1, q2⟩; have Q1 := Aside0.mk q1; have Q2 := Aside0.mk q2; have HB1 := Aside0.mk (q2.get HBX.out (fun h => h)); have F3 := Aside0.mk (show Fr No wo (w1.setCell ⟨wo.heap.size, 2, none⟩ (.slice A2 l1 c2)) from (Fr.of_No (accAlloc (Below.refl _ _) (Nat.le_refl _) _) |>.trans q2 (fun _ _ h => h) (fun _ _ h => h)).trans (Fr.setCell (S := One wo.heap.size) w1 _ _ rfl) (fun _ _ h => h) (fun k hk hs => by have hs' : k = wo.heap.size := hs; omega)); clear q1 q2; have hf1 : w1.frozen? ⟨wo.heap.size, 2, none⟩ = false := (by simp [World.frozen?, HB1.out]); obtain ⟨b0, b1, b2⟩ := box3 HB1.out)))
      go_roundw
      case rel =>
        refine ⟨i + 1, by simp, by omega, ⟨E ++ [(.slice A2 ns.length c2, ⟨f, t, ns⟩)], ?_⟩⟩
        rw [mapd_succ HP.out]
        exact HE.out.step (by show Win w1 _ 2 1 (.slice A2 (ns.length + 1) c2) (ns.length + 1) _; rw [HL.out]; exact Q1.out.lower (by simp)) (Fr.of_No (accAlloc (Below.refl _ _) (Nat.le_refl _) _) |>.trans Q2.out (fun _ _ h => h) (fun _ _ h => h)) ⟨_, HB1.out⟩ (by rw [HEL.out]; show Win _ _ _ _ _ _ (_ ++ [.string f, .string t, .slice A2 ns.length c2]); rw [HL.out]; exact G1.out) G3.out
      case measure => simp [intOf]; omega
    · obtain rfl : n = i := by omega
      have HEL := Aside0.mk (mapd_len HE.out.all (by have := H.out.len; omega))
      have HLB := Aside0.mk (lentD_bound (n := n) (by have := HMX.out; omega))
      obtain ⟨i0, hi, _, hsz, _⟩ := info_parts info134
      have HCUT := Aside0.mk (fun (A : Option Addr) (c : Nat) (h : n + 1 ≤ c) => cuth (P := Try.prog) 52 134 .i64 Try.underlying52 hi A (n + 1) c n (by omega))
      clear hE hi hsz
      go_wp2_with (((with_reducible refine gate_builtin (b := .append) (xs := #[.tmp 24, .tmp 26]) rfl ?_); at_builtin; go_must (refine wpl_append1 wo w.heap.size rfl (.tmp 24) (.tmp 26) 52 134 (.agg #[.string ByteArray.empty, .string ByteArray.empty, .slice none 0 0]) 3 56 rfl Try.underlying52 info134 rfl u3 n (E.flatMap entCells) markC rfl rfl (by have h := HE.out.hdr; rwa [HEL.out] at h) rfl (by simp [Value.oneCell', markC]) HE.out.fr.size HLB.out.1 HLB.out.2 ?_; intro v3 w3 g1 _ g3 _; have G1 := Aside0.mk g1; have G3 := Aside0.mk g3; clear g1 g3; obtain ⟨A3, c3, e3, l3⟩ := G1.out.shape; subst e3; have hcut := HCUT.out A3 c3 l3)))
      go_ret
      have hEn : E.length = n := HEL.out
      refine ⟨.slice A3 n c3, E, rfl, ⟨A3, c3, by rw [hEn], by rw [hEn]; exact G1.out, fun p hp => (HE.out.part p hp).fr HE.out.hdr (by decide) G3.out⟩, by rw [HE.out.all, List.take_of_length_le (by have := H.out.len; omega)], HE.out.fr.trans G3.out (fun _ _ h => h) (fun k hk hs => by have := (HE.out.hdr.at_ hs).1; omega)⟩
end Go.Proofs.Ytchcimkmjoegdaa.C
namespace Go.Proofs.Ytchcimkmjoegdaa.C
open Go.RowKit Go.Proofs.YtchcimkmjoegdaaW.PrintWords Go.Proofs.YtchcimkmjoegdaaW.PrintMore Go.Proofs.Ytchcimkmjoegdaa.M
set_option linter.unusedVariables false
set_option linter.unusedSimpArgs false

/-- What was lent, read. -/
structure LentR (w : World) (A : Option Addr) (n c : Nat) (E : List (Value × Ent)) : Prop where
  doc : DocR w A n c E
  cap : n + 1 ≤ c
  hdr : RdV w A (E.flatMap entCells ++ markC)
  ints : ∀ p ∈ E, ∃ A c, p.1 = .slice A p.2.ns.length c ∧ p.2.ns.length + 1 ≤ c ∧ RdV w A (nums .i64 (p.2.ns ++ [-7171]))
theorem LentR.below {w w' : World} {A : Option Addr} {n c : Nat} {E : List (Value × Ent)} (h : LentR w A n c E) (hb : Below w.heap.size w w') : LentR w' A n c E :=
  ⟨h.doc.below hb, h.cap, h.hdr.below hb, fun p hp => by obtain ⟨A, c, h1, h2, h3⟩ := h.ints p hp; exact ⟨A, c, h1, h2, h3.below hb⟩⟩
theorem mem_snd {E D : List (Value × Ent)} (h : E.map Prod.snd = D.map Prod.snd) {p : Value × Ent} (hp : p ∈ E) : ∃ q ∈ D, q.2 = p.2 := by
  have : p.2 ∈ D.map Prod.snd := by rw [← h]; exact List.mem_map.2 ⟨p, hp, rfl⟩
  obtain ⟨q, hq, e⟩ := List.mem_map.1 this
  exact ⟨q, hq, e⟩
theorem LentD.read {w0 w : World} {B : Nat} {v : Value} {E D : List (Value × Ent)} {A' : Option Addr} {n c' : Nat} (h : LentD w B v E) (hd : DocR w0 A' n c' D) (he : E.map Prod.snd = D.map Prod.snd) : ∃ A c, v = .slice A n c ∧ LentR w A n c E := by
  obtain ⟨A, c, e, hw, hp⟩ := h
  have hl : E.length = n := by have := congrArg List.length he; simp at this; rw [this]; exact hd.len
  subst e
  rw [hl] at hw ⊢
  have hc : n + 1 ≤ c := by obtain ⟨_, _, e, h⟩ := hw.shape; injection e with _ _ e; subst e; exact h
  have hr := RdV.of_win hw
  refine ⟨A, c, rfl, ⟨?_, hl, by omega, hd.max, fun p hpp => ?_⟩, hc, hr, fun p hpp => ?_⟩
  · have := hr.take (E.flatMap entCells).length
    rwa [List.take_left] at this
  · obtain ⟨q, hq, eq⟩ := mem_snd he hpp
    obtain ⟨A1, c1, k1, k2⟩ := hp p hpp
    obtain ⟨_, _, _, _, _, m1, m2, m3, m4⟩ := hd.part q hq
    rw [eq] at m1 m2 m3 m4
    obtain ⟨_, _, e1, hc1⟩ := k2.shape
    injection e1 with _ _ e1
    subst e1
    refine ⟨A1, c1, k1, by omega, ?_, m1, m2, m3, m4⟩
    have := (RdV.of_win k2).take p.2.ns.length
    rwa [nums_take, List.take_left] at this
  · obtain ⟨A1, c1, k1, k2⟩ := hp p hpp
    obtain ⟨_, _, e1, hc1⟩ := k2.shape
    injection e1 with _ _ e1
    subst e1
    exact ⟨A1, c1, k1, hc1, RdV.of_win k2⟩
theorem LentR.mark {w : World} {A : Option Addr} {n c : Nat} {E : List (Value × Ent)} (h : LentR w A n c E) : ∃ ad, A = some ad ∧ w.cell? (ad.add (n * 3)) = some (.string ⟨#[109, 97, 114, 107]⟩) := by
  have hg : (E.flatMap entCells ++ markC)[n * 3]? = some (.string ⟨#[109, 97, 114, 107]⟩) := by
    have hl := flat3_len (f := entCells) (fun p => rfl) E
    rw [h.doc.len] at hl
    rw [List.getElem?_append_right (by omega), hl, Nat.sub_self]
    rfl
  obtain ⟨ad, e, hc⟩ := h.hdr (by intro h0; rw [h0] at hg; simp at hg)
  exact ⟨ad, e, hc _ _ hg⟩
set_option maxRecDepth 100000 in
set_option maxHeartbeats 8000000 in
/-- kit.KeptEntries: what was lent is there, the marks too. -/
theorem KeptEntries_any (w : World) (A B : Option Addr) (n c d : Nat) (E D : List (Value × Ent)) (h : LentR w A n c E) (hd : DocR w B n d D) (he : E.map Prod.snd = D.map Prod.snd) :
    Calls Try.prog 107 #[.slice A n c, .slice B n d] w fun e w' => e = .returned (.bool true) ∧ ∃ m, w' = w.drewN m := by
  have hN : n ≤ 9223372036854775807 := by have := hd.max; omega
  have hN1 : (n : Int) + 1 ≤ 9223372036854775807 := by have := hd.max; omega
  obtain ⟨ad, ea, hmk⟩ := h.mark
  subst ea
  have H := Aside0.mk h
  have HD := Aside0.mk hd
  have HE := Aside0.mk he
  obtain ⟨i0, hi, _, hsz, _⟩ := info_parts info134
  have HCUT := Aside0.mk (cuth (P := Try.prog) 52 134 .i64 Try.underlying52 hi (some ad) n c (n + 1) h.cap)
  have HENT := Aside0.mk (Entries_any w (some ad) B n n c d E D h.doc hd)
  have HMK := Aside0.mk hmk
  clear h hd he hi hsz hmk
  go_enter Try.func107, Try.ntmps107
  go_wp2_with (go_at_call 42; go_must (refine HENT.out.mono ?_; rintro e' w1 ⟨⟨r, rfl, hr⟩, m, hm⟩; have hr1 := hr.2 HE.out; subst hr1; have HW1 := Aside0.mk (show Below w.heap.size w w1 from by rw [hm]; exact pw_below_drewN (Below.refl _ _) m); have HM1 := Aside0.mk (show ∃ m, w1 = w.drewN m from ⟨m, hm⟩); clear hm hr))
  go_loopw [5] (fun v5 wr => ∃ i : Nat, v5 = .int .i64 i ∧ i ≤ n ∧ Aside0 (∃ m, wr = w.drewN m)) (fun v5 _ => n - (intOf v5).toNat)
  case atStart => exact ⟨0, rfl, by omega, HM1⟩
  case round =>
    obtain ⟨i, rfl, hi, HR⟩ := hrel
    have HW := Aside0.mk (show Below w.heap.size w wr from by obtain ⟨m, rfl⟩ := HR.out; exact pw_below_drewN (Below.refl _ _) m)
    by_cases hlt : i < n
    · obtain ⟨⟨pv, f, t, ns⟩, hp⟩ := get_some' (xs := E) (i := i) (by have := H.out.doc.len; omega)
      obtain ⟨⟨qv, f', t', ns'⟩, hq⟩ := get_some' (xs := D) (i := i) (by have := HD.out.len; omega)
      have da := H.out.below HW.out
      have db := HD.out.below HW.out
      obtain ⟨a1, e1, h10, h11, h12⟩ := ent_at da.doc.hdr hp
      obtain ⟨a2, e2, h20, h21, h22⟩ := ent_at db.hdr hq
      obtain rfl := Option.some.inj e1
      subst e2
      obtain ⟨A1, c1, f1, f2, f3⟩ := da.ints _ (List.mem_of_getElem? hp)
      obtain ⟨A2, c2, k1, k2, k3, _, k4, k5, k6⟩ := db.part _ (List.mem_of_getElem? hq)
      have hpq : (⟨f, t, ns⟩ : Ent) = ⟨f', t', ns'⟩ := by
        have h1 : (E.map Prod.snd)[i]? = (D.map Prod.snd)[i]? := by rw [HE.out]
        rw [List.getElem?_map, List.getElem?_map, hp, hq] at h1
        exact Option.some.inj h1
      injection hpq with p1 p2 p3
      subst p1; subst p2; subst p3
      obtain rfl : pv = .slice A1 ns.length c1 := f1
      obtain rfl : qv = .slice A2 ns.length c2 := k1
      simp only at h10 h11 h12 h20 h21 h22
      have HC := Aside0.mk (fun m => KeptInts_any (wr.drewN m) A1 A2 ns.length c1 c2 ns.length ns ns (-7171) (f3.below (pw_below_drewN (Below.refl _ _) m)) (k3.below (pw_below_drewN (Below.refl _ _) m)) rfl rfl (by have : ns.length ≤ 17592186043904 := k4; omega) (by have : ns.length ≤ 17592186043904 := k4; omega) f2 k2)
      rw [decide_eq_true rfl, decide_eq_true rfl] at HC
      clear hp hq f2 f3 k2 k3 k4 k5 k6 da db e1
      generalize hl1 : ns.length = l1 at *
      clear hl1
      go_wp2_with fail
      go_quiet ((go_at_call 119; go_must (exact Calls.quiet_of (HC.out _))))
      go_wp2_with fail
      go_roundw
      case rel => exact ⟨i + 1, by simp, by omega, ⟨by obtain ⟨m, hm⟩ := HR.out; exact ⟨m + nq, by rw [hm]; exact World.drewN_drewN ..⟩⟩⟩
      case measure => simp [intOf]; omega
    · obtain rfl : n = i := by omega
      have hcell : wr.cell? (ad.add (n * 3)) = some (.string ⟨#[109, 97, 114, 107]⟩) := by obtain ⟨m, rfl⟩ := HR.out; exact HMK.out
      have hcut := HCUT.out
      simp only [Int.natCast_add, Int.natCast_one] at hcut
      go_wp2_with fail
      go_ret
      exact ⟨rfl, HR.out⟩
end Go.Proofs.Ytchcimkmjoegdaa.C
namespace Go.Proofs.Ytchcimkmjoegdaa.C
open Go.RowKit Go.Proofs.YtchcimkmjoegdaaW.PrintWords Go.Proofs.YtchcimkmjoegdaaW.PrintMore Go.Proofs.Ytchcimkmjoegdaa.M
set_option linter.unusedVariables false
set_option linter.unusedSimpArgs false

/-- Lent documents. -/
structure LentDs (W : World) (B : Nat) (v : Value) (M : List (Value × List (Value × Ent))) : Prop where
  hdr : Win W B 52 1 v M.length (M.map Prod.fst)
  part : ∀ x ∈ M, LentD W B x.1 x.2
theorem LentDs.below {W W' : World} {B : Nat} {v : Value} {M : List (Value × List (Value × Ent))} (h : LentDs W B v M) (hb : Below W.heap.size W W') : LentDs W' B v M :=
  ⟨h.hdr.below hb, fun x hx => (h.part x hx).below hb⟩
theorem mapo_succ {D : List (Value × List (Value × Ent))} {i : Nat} {p : Value × List (Value × Ent)} (h : D[i]? = some p) : (D.take (i + 1)).map docOf = (D.take i).map docOf ++ [docOf p] := by
  rw [List.take_add_one, h]
  simp
theorem mapo_len {D E : List (Value × List (Value × Ent))} {i : Nat} (h : E.map docOf = (D.take i).map docOf) (hi : i ≤ D.length) : E.length = i := by
  have := congrArg List.length h
  simp at this
  omega
theorem LentDs.push {w wr w1 w2 : World} {v v2 u : Value} {M : List (Value × List (Value × Ent))} {E : List (Value × Ent)} (h : LentDs wr w.heap.size v M) (hf : Fr No w wr) (hu : LentD w1 wr.heap.size u E) (f1 : Fr No wr w1)
    (g1 : Win w2 w.heap.size 52 1 v2 (M.length + 1) (M.map Prod.fst ++ [u])) (g3 : Fr (At v) w1 w2) : LentDs w2 w.heap.size v2 (M ++ [(u, E)]) ∧ Fr No w w2 := by
  have hv1 := h.hdr.below f1.no
  refine ⟨⟨by rw [List.length_append, List.map_append]; simpa using g1, fun x hx => ?_⟩, (hf.trans f1 (fun _ _ h => h) (fun _ _ h => h)).trans g3 (fun _ _ h => h) (fun k hk hs => by have := (hv1.at_ hs).1; omega)⟩
  rcases List.mem_append.1 hx with hx | hx
  · exact ((h.part x hx).below f1.no).fr hv1 (by decide) (by decide) g3
  · simp only [List.mem_cons, List.mem_nil_iff, or_false] at hx
    subst hx
    exact (hu.lower hf.size).fr hv1 (by decide) (by decide) g3
theorem lentDs_bound {n : Nat} (h : n ≤ 5864062014634) : n + 1 ≤ maxLen ∧ (n + 1 + (n + 1) / 4 + 700) * 24 ≤ 281474976710656 := by
  simp only [maxLen]; omega
set_option maxRecDepth 100000 in
set_option maxHeartbeats 2000000 in
theorem lent_any (w : World) (A : Option Addr) (n c : Nat) (L : List (Value × List (Value × Ent))) (h : DocsR w A n c L) (hm : n ≤ 5864062014634) :
    Calls Try.prog 45 #[.slice A n c] w fun e w' => ∃ v M, e = .returned v ∧ LentDs w' w.heap.size v M ∧ M.map docOf = L.map docOf ∧ Fr No w w' := by
  have hN : n ≤ 9223372036854775807 := h.max
  have H := Aside0.mk h
  have HMX := Aside0.mk hm
  clear h hm
  go_enter Try.func45, Try.ntmps45
  go_wp2_with fail
  go_loopw [3, 4] (fun v3 v4 wr => ∃ i : Nat, v4 = .int .i64 i ∧ i ≤ n ∧ Aside0 (∃ M, LentDs wr w.heap.size v3 M ∧ M.map docOf = (L.take i).map docOf ∧ Fr No w wr)) (fun _ v4 _ => n - (intOf v4).toNat)
  case atStart => exact ⟨0, rfl, by omega, ⟨[], ⟨Win.nil _ _ _ _, fun p hp => (nomatch hp)⟩, rfl, Fr.refl _ _⟩⟩
  case round =>
    obtain ⟨i, rfl, hi, HI⟩ := hrel
    obtain ⟨M, hM, hMD, hfr⟩ := HI.out
    obtain ⟨wo, rfl⟩ : ∃ wo : World, wo = wr := ⟨_, rfl⟩
    have HM := Aside0.mk hM
    have HF := Aside0.mk hfr
    have HML := Aside0.mk (mapo_len hMD (by have := H.out.len; omega))
    have HMD := Aside0.mk hMD
    clear hM hMD
    by_cases hlt : i < n
    · obtain ⟨p, hp⟩ := get_some' (xs := L) (i := i) (by have := H.out.len; omega)
      have da := H.out.below hfr.no
      obtain ⟨ad, eA, hcell⟩ := rdv_at da.hdr hp
      obtain ⟨A1, c1, f1, f2⟩ := da.part _ (List.mem_of_getElem? hp)
      rw [f1] at hcell
      subst eA
      have HP := Aside0.mk hp
      have HLE := Aside0.mk (LentEntries_any wo A1 p.2.length c1 p.2 f2)
      have hpl : p.2.length ≤ 2513169434845 := f2.max
      have HLB := Aside0.mk (lentDs_bound (n := i) (by have := HMX.out; omega))
      clear hp da f1 f2 hfr
      generalize p.2.length = l1 at *
      go_wp2_with (first | ((with_reducible refine gate_builtin (b := .append) (xs := #[.tmp 17, .tmp 19]) rfl ?_); at_builtin; go_must (refine wpl_append1 w1 w.heap.size rfl (.tmp 17) (.tmp 19) 56 52 (.slice none 0 0) 1 24 rfl Try.underlying56 info52 rfl u3 i (M.map Prod.fst) [.slice A3 E.length c3] rfl rfl (by have h := HM.out.hdr.below Q2.out.no; rwa [HML.out] at h) rfl (by simp [Value.oneCell']) (Nat.le_trans HF.out.size Q2.out.size) HLB.out.1 HLB.out.2 ?_; intro v2 w2 g1 _ g3 _; have G1 := Aside0.mk g1; have G3 := Aside0.mk g3; clear g1 g3)) | (go_at_call 94; go_must (refine HLE.out.mono ?_; rintro e' w1 ⟨u1, E, rfl, q1, q3, q2⟩; obtain ⟨A3, c3, e3, _⟩ := id q1; subst e3; have Q1 := Aside0.mk q1; have Q2 := Aside0.mk q2; have Q3 := Aside0.mk q3; clear q1 q2 q3)))
      go_roundw
      case rel =>
        have hst := HM.out.push HF.out Q1.out Q2.out (by rw [HML.out]; exact G1.out) G3.out
        exact ⟨i + 1, by simp, by omega, ⟨_, hst.1, by rw [List.map_append, HMD.out, mapo_succ HP.out]; show _ ++ [docOf (.slice A3 E.length c3, E)] = _; unfold docOf; rw [Q3.out], hst.2⟩⟩
      case measure => simp [intOf]; omega
    · obtain rfl : n = i := by omega
      clear hfr
      go_wp2_with fail
      go_ret
      exact ⟨u3, M, rfl, HM.out, by rw [HMD.out, List.take_of_length_le (by have := H.out.len; omega)], HF.out⟩
/-- What was lent, read. -/
structure LentsR (w : World) (A : Option Addr) (n c : Nat) (M : List (Value × List (Value × Ent))) : Prop where
  docs : DocsR w A n c M
  part : ∀ x ∈ M, ∃ A' c', x.1 = .slice A' x.2.length c' ∧ LentR w A' x.2.length c' x.2
theorem LentsR.below {w w' : World} {A : Option Addr} {n c : Nat} {M : List (Value × List (Value × Ent))} (h : LentsR w A n c M) (hb : Below w.heap.size w w') : LentsR w' A n c M :=
  ⟨h.docs.below hb, fun x hx => by obtain ⟨A, c, h1, h2⟩ := h.part x hx; exact ⟨A, c, h1, h2.below hb⟩⟩
theorem mem_doc {E D : List (Value × List (Value × Ent))} (h : E.map docOf = D.map docOf) {p : Value × List (Value × Ent)} (hp : p ∈ E) : ∃ q ∈ D, docOf q = docOf p := by
  have : docOf p ∈ D.map docOf := by rw [← h]; exact List.mem_map.2 ⟨p, hp, rfl⟩
  obtain ⟨q, hq, e⟩ := List.mem_map.1 this
  exact ⟨q, hq, e⟩
theorem LentDs.read {w0 w : World} {B : Nat} {v : Value} {M L : List (Value × List (Value × Ent))} {A' : Option Addr} {n c' : Nat} (h : LentDs w B v M) (hd : DocsR w0 A' n c' L) (he : M.map docOf = L.map docOf) : ∃ A c, v = .slice A n c ∧ LentsR w A n c M := by
  have hl : M.length = n := by have := congrArg List.length he; simp at this; rw [this]; exact hd.len
  have hw := h.hdr
  rw [hl] at hw
  obtain ⟨A, c, e, hc⟩ := hw.shape
  subst e
  have hp : ∀ x ∈ M, ∃ A' c', x.1 = .slice A' x.2.length c' ∧ LentR w A' x.2.length c' x.2 := fun x hx => by
    obtain ⟨q, hq, eq⟩ := mem_doc he hx
    obtain ⟨A1, c1, _, k2⟩ := hd.part q hq
    obtain ⟨A2, c2, m1, m2⟩ := (h.part x hx).read k2 eq.symm
    have hl2 : x.2.length = q.2.length := m2.doc.len
    exact ⟨A2, c2, by rw [hl2]; exact m1, by rw [hl2]; exact m2⟩
  exact ⟨A, c, rfl, ⟨RdV.of_win hw, hl, hc, hd.max, fun x hx => by obtain ⟨A2, c2, m1, m2⟩ := hp x hx; exact ⟨A2, c2, m1, m2.doc⟩⟩, hp⟩
set_option maxRecDepth 100000 in
set_option maxHeartbeats 2000000 in
theorem kept_any (w : World) (A B : Option Addr) (n c d : Nat) (M L : List (Value × List (Value × Ent))) (h : LentsR w A n c M) (hd : DocsR w B n d L) (he : M.map docOf = L.map docOf) :
    Calls Try.prog 68 #[.slice A n c, .slice B n d] w fun e w' => e = .returned (.bool true) ∧ ∃ m, w' = w.drewN m := by
  have hN : n ≤ 9223372036854775807 := hd.max
  have H := Aside0.mk h
  have HD := Aside0.mk hd
  have HE := Aside0.mk he
  clear h hd he
  go_enter Try.func68, Try.ntmps68
  go_wp2_with fail
  go_loopw [5] (fun v5 wr => ∃ i : Nat, v5 = .int .i64 i ∧ i ≤ n ∧ Aside0 (∃ m, wr = w.drewN m)) (fun v5 _ => n - (intOf v5).toNat)
  case atStart => exact ⟨0, rfl, by omega, ⟨0, rfl⟩⟩
  case round =>
    obtain ⟨i, rfl, hi, HR⟩ := hrel
    have HW := Aside0.mk (show Below w.heap.size w wr from by obtain ⟨m, rfl⟩ := HR.out; exact pw_below_drewN (Below.refl _ _) m)
    by_cases hlt : i < n
    · obtain ⟨⟨pv, E⟩, hp⟩ := get_some' (xs := M) (i := i) (by have := H.out.docs.len; omega)
      obtain ⟨⟨qv, D⟩, hq⟩ := get_some' (xs := L) (i := i) (by have := HD.out.len; omega)
      have da := H.out.below HW.out
      have db := HD.out.below HW.out
      obtain ⟨a1, e1, h1⟩ := rdv_at da.docs.hdr hp
      obtain ⟨a2, e2, h2⟩ := rdv_at db.hdr hq
      subst e1; subst e2
      obtain ⟨A1, c1, f1, f2⟩ := da.part _ (List.mem_of_getElem? hp)
      obtain ⟨A2, c2, k1, k2⟩ := db.part _ (List.mem_of_getElem? hq)
      obtain rfl : pv = .slice A1 E.length c1 := f1
      obtain rfl : qv = .slice A2 D.length c2 := k1
      have hed : E.map Prod.snd = D.map Prod.snd := by
        have h1 : (M.map docOf)[i]? = (L.map docOf)[i]? := by rw [HE.out]
        rw [List.getElem?_map, List.getElem?_map, hp, hq] at h1
        exact Option.some.inj h1
      have hll : E.length = D.length := by have := congrArg List.length hed; simpa using this
      simp only at h1 h2 f2 k2
      rw [hll] at h1 f2
      have HC := Aside0.mk (fun m => KeptEntries_any (wr.drewN m) A1 A2 D.length c1 c2 E D (f2.below (pw_below_drewN (Below.refl _ _) m)) (k2.below (pw_below_drewN (Below.refl _ _) m)) hed)
      have hl0 : D.length ≤ 2513169434845 := k2.max
      clear hp hq f2 k2 da db hed hll
      generalize D.length = l1 at *
      go_wp2_with fail
      go_quiet ((go_at_call 107; go_must (exact Calls.quiet_of (HC.out _))))
      go_wp2_with fail
      go_roundw
      case rel => exact ⟨i + 1, by simp, by omega, ⟨by obtain ⟨m, hm⟩ := HR.out; exact ⟨m + nq, by rw [hm]; exact World.drewN_drewN ..⟩⟩⟩
      case measure => simp [intOf]; omega
    · obtain rfl : n = i := by omega
      go_wp2_with fail
      go_ret
      exact ⟨rfl, HR.out⟩
end Go.Proofs.Ytchcimkmjoegdaa.C
