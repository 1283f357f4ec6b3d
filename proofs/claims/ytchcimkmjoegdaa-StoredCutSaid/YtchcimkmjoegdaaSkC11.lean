/- A store that was opened, out of Open's answer. Conditions: as each theorem states. | StoredBuilds' walk: true for any documents. Conditions: the sizes of what was read. | The law's known (43). Conditions: as each theorem states. | StoredBack's walk: true for any documents. Conditions: the sizes of what was read. | A store's form is no part of another's. Conditions: as each theorem states. | StoredBack's walk: true for any documents. Conditions: the sizes of what was read. | StoredCut's walk: true for any documents, place and byte. Conditions: the sizes of what was read. (Several texts of mine laid into one by prune.py.) -/
import Derived.Test.YtchcimkmjoegdaaSkC10
namespace Go.Proofs.Ytchcimkmjoegdaa.C
open Go.RowKit Go.Proofs.YtchcimkmjoegdaaW.PrintWords Go.Proofs.YtchcimkmjoegdaaW.PrintMore Go.Proofs.Ytchcimkmjoegdaa.M
set_option linter.unusedVariables false
set_option linter.unusedSimpArgs false

theorem chunkO_fine {b : List Int} {n : Nat} {d : List (List Ent)} (h : chunkO b n = some d) : ∀ x ∈ d, okD x = true ∧ ∀ e ∈ x, I64 e.ns := by
  unfold chunkO at h
  cases hq : docsO b n 0 with
  | none => rw [hq] at h; simp at h
  | some q =>
    rw [hq] at h
    simp only [Option.bind_some] at h
    split at h
    · injection h with h
      subst h
      exact (docsO_fine (xs := b) (n := n) (i := 0) (D := q.1) (j := q.2) (by rw [hq])).2
    · cases h
theorem storeF_some {xs : List Int} {C : List Chk} {d : List (List Ent)} (h : storeF xs = some (C, d)) : buildB d = xs ∧ Fine d ∧ C = cutsF d := by
  have h0 := h
  unfold storeF at h
  simp only at h
  split at h
  · cases hH : headsO xs (rS xs 0 0 16384).1 (rS xs (rS xs 0 0 16384).2.1 (rS xs 0 0 16384).2.2 ((rS xs 0 0 16384).1 : Nat)).1 0 (rS xs (rS xs 0 0 16384).2.1 (rS xs 0 0 16384).2.2 ((rS xs 0 0 16384).1 : Nat)).2.1 with
    | none => rw [hH] at h; simp at h
    | some q =>
      rw [hH] at h
      simp only [Option.bind_some] at h
      split at h
      · cases hB : bodiesO xs q.1 q.2.2 with
        | none => rw [hB] at h; simp at h
        | some r =>
          rw [hB] at h
          simp only [Option.bind_some] at h
          split at h
          · rename_i hh
            injection h with h
            injection h with h1 h2
            subst h1
            subst h2
            have hf : Fine r.2.1 := ⟨hh.2.1, fun x hx => by
              obtain ⟨k1, k2⟩ := bodiesO_fine (xs := xs) (H := q.1) (i := q.2.2) (C := r.1) (D := r.2.1) (j := r.2.2) (by rw [hB])
              rw [k1] at hx
              obtain ⟨c, hc, hx⟩ := List.mem_flatMap.1 hx
              obtain ⟨d', hd'⟩ := k2 c hc
              rw [hd'] at hx
              exact (chunkO_fine hd' x hx).2⟩
            have hb := storeF_build hf hf.small
            rw [hh.2.2, h0] at hb
            injection hb with hb
            injection hb with hb _
            exact ⟨hh.2.2, hf, hb⟩
          · cases h
      · cases h
  · cases h
/-- Open's answer: a refusal, or a store. -/
theorem SOpenPost.sto {xs : List Int} {w W : World} {e : Ending} (h : SOpenPost xs w e W) : Fr No w W ∧ ((storeF xs = none ∧ e = .returned (.tuple #[.pointer none, .int .i64 20])) ∨
    ∃ (C : List (Value × Chk)) (d : List (List Ent)) (gs : Nat) (v : Value), buildB d = xs ∧ e = .returned (.tuple #[.pointer (some ⟨gs, 0, none⟩), .int .i64 0]) ∧ w.heap.size ≤ gs ∧ StoD W w.heap.size gs v C d) := by
  obtain ⟨hf, h⟩ := h
  refine ⟨hf, ?_⟩
  rcases h with h | ⟨C, d, gs, v, h1, h2, h3, h4, h5⟩
  · exact .inl h
  · obtain ⟨k1, k2, k3⟩ := storeF_some h1
    exact .inr ⟨C, d, gs, v, k1, h2, h3, ⟨h4, h5, k3, k2⟩⟩
/-- Open's answer to what Build made. -/
theorem SOpenPost.build {d : List (List Ent)} (hd : Fine d) {w W : World} {e : Ending} (h : SOpenPost (buildB d) w e W) : Fr No w W ∧
    ∃ (C : List (Value × Chk)) (gs : Nat) (v : Value), e = .returned (.tuple #[.pointer (some ⟨gs, 0, none⟩), .int .i64 0]) ∧ w.heap.size ≤ gs ∧ StoD W w.heap.size gs v C d := by
  obtain ⟨hf, h⟩ := h
  have hb := storeF_build hd hd.small
  refine ⟨hf, ?_⟩
  rcases h with ⟨h1, _⟩ | ⟨C, d', gs, v, h1, h2, h3, h4, h5⟩
  · rw [hb] at h1; cases h1
  · rw [hb] at h1
    injection h1 with h1
    injection h1 with h1 h1'
    subst h1'
    exact ⟨C, gs, v, h2, h3, ⟨h4, h5, h1.symm, hd⟩⟩
theorem StoD.stoR {W : World} {B gs : Nat} {v : Value} {C : List (Value × Chk)} {d : List (List Ent)} (h : StoD W B gs v C d) : ∃ A c, v = .slice A (cutsF d).length c ∧ StoR W gs A (cutsF d).length c d.length C := by
  have hl : C.length = (cutsF d).length := by rw [← h.eq, List.length_map]
  obtain ⟨A, c, e, hc⟩ := h.ch.hdr.shape
  rw [hl] at e hc
  subst e
  exact ⟨A, c, rfl, h.st, RdV.of_win h.ch.hdr, hl, hc, by have := lk_len (cutsF_row d).1; have := h.fine.len; omega⟩
/-- Documents that are read and may be stored. -/
theorem DocsR.fine {w : World} {A : Option Addr} {n c : Nat} {L : List (Value × List (Value × Ent))} (h : DocsR w A n c L) (ho : okDs (L.map docOf) = true) : Fine (L.map docOf) := by
  refine ⟨ho, fun x hx e he => ?_⟩
  obtain ⟨p, hp, rfl⟩ := List.mem_map.1 hx
  obtain ⟨q, hq, rfl⟩ := List.mem_map.1 he
  obtain ⟨A1, c1, _, k⟩ := h.part p hp
  obtain ⟨_, _, _, _, _, k1, _⟩ := k.part q hq
  exact k1
end Go.Proofs.Ytchcimkmjoegdaa.C
namespace Go.Proofs.Ytchcimkmjoegdaa.C
open Go.RowKit Go.Proofs.YtchcimkmjoegdaaW.PrintWords Go.Proofs.YtchcimkmjoegdaaW.PrintMore Go.Proofs.Ytchcimkmjoegdaa.M
set_option linter.unusedVariables false
set_option linter.unusedSimpArgs false

theorem byt_buildB (d : List (List Ent)) : Byt (buildB d) := by
  unfold buildB
  refine Byt.app (Byt.app (Byt.app (byt_uenc _) (byt_uenc _)) (byt_flat chkH (fun c => Byt.app (byt_uenc _) (byt_uenc _)) _)) (fun x hx => ?_)
  obtain ⟨c, hc, hx⟩ := List.mem_flatMap.1 hx
  exact cutsF_byt hc x hx
theorem buildB_len {d : List (List Ent)} (h : Fine d) : (buildB d).length ≤ 4915600020 := by
  have := bldP_len h.len (Nat.le_trans (cutN_len _ _) h.len) h.small (cutsF d).length (cutsF d).length
  rwa [bldP_all d (Nat.le_refl _)] at this
theorem win_capS {W : World} {base e n c : Nat} {A : Option Addr} {xs : List Value} (h : Win W base e 1 (.slice A n c) n xs) : n ≤ c := by
  obtain ⟨_, _, e, hc⟩ := h.shape
  injection e with _ _ e
  subst e
  exact hc
theorem sopen_acc {W : World} {B nx : Nat} {A : Option Addr} {c : Nat} {b : List Int} (h : Win W B 5 1 (.slice A nx c) nx (nums .u8 b)) (hl : b.length = nx) (hb : Byt b) (hn : nx ≤ 4915600020) : Calls Try.prog 40 #[.slice A nx c] W (SOpenPost b W) :=
  sopen_any W A nx c b (RdV.of_win h) hl hb (fun e => by subst e; exact Win.nil_cap h) (win_capS h) (by omega)
end Go.Proofs.Ytchcimkmjoegdaa.C
namespace Go.Proofs.Ytchcimkmjoegdaa.C
open Go.RowKit Go.Proofs.YtchcimkmjoegdaaW.PrintWords Go.Proofs.YtchcimkmjoegdaaW.PrintMore Go.Proofs.Ytchcimkmjoegdaa.M
set_option linter.unusedVariables false
set_option linter.unusedSimpArgs false

def knD (g : Nat) : List (Value × Ent) := [(.slice none 0 0, ⟨⟨#[102]⟩, ⟨#[97, 98]⟩, []⟩), (.slice (some ⟨g, 0, none⟩) 2 2, ⟨⟨#[110]⟩, ByteArray.empty, [1, -1]⟩)]
def knE : List Ent := [⟨⟨#[102]⟩, ⟨#[97, 98]⟩, []⟩, ⟨⟨#[110]⟩, ByteArray.empty, [1, -1]⟩]
def knB : List Int := [1, 1, 1, 13, 2, 1, 102, 2, 97, 98, 0, 1, 110, 0, 2, 2, 1]
theorem knD_E (g : Nat) : (knD g).map Prod.snd = knE := rfl
theorem kn_ok : okDs [knE] = true := by decide +kernel
theorem kn_build : buildB [knE] = knB := by decide +kernel
theorem kn_nil : buildB [] = [0, 0] := by decide +kernel
theorem kn_ok0 : okDs [] = true := by decide +kernel
theorem kn_bad : storeF [0, 0, 0] = none := by
  have h : (storeF [0, 0, 0]).isNone = true := by decide +kernel
  exact Option.isNone_iff_eq_none.1 h
theorem kn_docR (w : World) (g1 g2 : Nat) (h1 : g1 = w.heap.size) (h2 : g2 = w.heap.size + 1) : DocR ((w.alloc (.cells #[.int .i64 1, .int .i64 (-1)] 2)).alloc (.cells #[.string ⟨#[102]⟩, .string ⟨#[97, 98]⟩, .slice none 0 0, .string ⟨#[110]⟩, .string ByteArray.empty, .slice (some ⟨g1, 0, none⟩) 2 2] 134)) (some ⟨g2, 0, none⟩) 2 2 (knD g1) := by
  refine ⟨rdv_lit_at (w.alloc (.cells #[.int .i64 1, .int .i64 (-1)] 2)) 134 [.string ⟨#[102]⟩, .string ⟨#[97, 98]⟩, .slice none 0 0, .string ⟨#[110]⟩, .string ByteArray.empty, .slice (some ⟨g1, 0, none⟩) 2 2] (by simpa using h2), rfl, Nat.le_refl _, by decide, fun p hp => ?_⟩
  simp only [knD, List.mem_cons, List.mem_nil_iff, or_false] at hp
  rcases hp with rfl | rfl
  · exact ⟨none, 0, rfl, Nat.le_refl _, fun h => absurd rfl h, (fun q hq => nomatch hq), by decide, by decide, by decide⟩
  · refine ⟨some ⟨g1, 0, none⟩, 2, rfl, Nat.le_refl _, ?_, ?_, (show (2 : Nat) ≤ 17592186043904 by decide), (show (⟨#[110]⟩ : ByteArray).size ≤ 140737488351232 by decide), (show (ByteArray.empty).size ≤ 140737488351232 by decide)⟩
    · exact RdV.below (rd_row_at w .i64 2 [1, -1] (0, 0) h1) (below_alloc (Below.refl _ _) _)
    · intro q hq
      have hq' : q = 1 ∨ q = -1 := by simpa using hq
      rcases hq' with rfl | rfl <;> decide
theorem kn_docs (w : World) (g1 g2 g3 : Nat) (h1 : g1 = w.heap.size) (h2 : g2 = w.heap.size + 1) (h3 : g3 = w.heap.size + 2) : DocsR (((w.alloc (.cells #[.int .i64 1, .int .i64 (-1)] 2)).alloc (.cells #[.string ⟨#[102]⟩, .string ⟨#[97, 98]⟩, .slice none 0 0, .string ⟨#[110]⟩, .string ByteArray.empty, .slice (some ⟨g1, 0, none⟩) 2 2] 134)).alloc (.cells #[.slice (some ⟨g2, 0, none⟩) 2 2] 52)) (some ⟨g3, 0, none⟩) 1 1 [(.slice (some ⟨g2, 0, none⟩) 2 2, knD g1)] := by
  refine ⟨rdv_lit_at _ 52 [.slice (some ⟨g2, 0, none⟩) 2 2] (by simpa using h3), rfl, Nat.le_refl _, by decide, fun p hp => ?_⟩
  simp only [List.mem_cons, List.mem_nil_iff, or_false] at hp
  subst hp
  exact ⟨_, _, rfl, (kn_docR w g1 g2 h1 h2).below (below_alloc (Below.refl _ _) _)⟩
theorem kn_fine : Fine [knE] := ⟨kn_ok, fun x hx e he => by
  simp only [List.mem_cons, List.mem_nil_iff, or_false] at hx
  subst hx
  simp only [knE, List.mem_cons, List.mem_nil_iff, or_false] at he
  rcases he with rfl | rfl
  · exact fun q hq => nomatch hq
  · intro q hq
    have hq' : q = 1 ∨ q = -1 := by simpa using hq
    rcases hq' with rfl | rfl <;> decide⟩
theorem kn_open_bad (W : World) : Calls Try.prog 40 #[.slice (some ⟨W.heap.size, 0, none⟩) 3 3] (W.alloc (.cells #[.int .u8 0, .int .u8 0, .int .u8 0] 5)) fun e W' => e = .returned (.tuple #[.pointer none, .int .i64 20]) ∧ Fr No (W.alloc (.cells #[.int .u8 0, .int .u8 0, .int .u8 0] 5)) W' := by
  refine (sopen_any _ (some ⟨W.heap.size, 0, none⟩) 3 3 [0, 0, 0] (rd_row_at W .u8 5 [0, 0, 0] (0, 0) rfl) rfl (byt_dec (by decide)) (fun h => nomatch h) (Nat.le_refl _) (by decide)).mono ?_
  rintro e W' ⟨hf, ⟨_, h⟩ | ⟨C, d, gs, v, h, _⟩⟩
  · exact ⟨h, hf⟩
  · rw [kn_bad] at h; cases h
theorem frNo {a b c : World} {o : Obj} (h : Fr No a b) (k : Fr No (b.alloc o) c) : Fr No a c := frt h (below_one k)
set_option maxRecDepth 100000 in
set_option maxHeartbeats 4000000 in
theorem known11_any (w : World) : Calls Try.prog 43 #[] w fun e w' => e = .returned (.bool true) ∧ Fr No w w' := by
  obtain ⟨W3, hW3⟩ : ∃ W3, W3 = (((w.alloc (.cells #[.int .i64 1, .int .i64 (-1)] 2)).alloc (.cells #[.string ⟨#[102]⟩, .string ⟨#[97, 98]⟩, .slice none 0 0, .string ⟨#[110]⟩, .string ⟨#[]⟩, .slice (some ⟨w.heap.size, 0, none⟩) 2 2] 134)).alloc (.cells #[.slice (some ⟨w.heap.size + 1, 0, none⟩) 2 2] 52)) := ⟨_, rfl⟩
  have HF3 := Aside0.mk (show Fr No w W3 from by rw [hW3]; exact fr3 w _ _ _)
  have HDOC := Aside0.mk (show DocR W3 (some ⟨w.heap.size + 1, 0, none⟩) 2 2 (knD w.heap.size) from by rw [hW3]; exact (kn_docR w _ _ rfl rfl).below (below_alloc (Below.refl _ _) _))
  have HB := build_any W3 (some ⟨w.heap.size + 1 + 1, 0, none⟩) 1 1 [(.slice (some ⟨w.heap.size + 1, 0, none⟩) 2 2, knD w.heap.size)] (by rw [hW3]; exact kn_docs w _ _ _ rfl rfl rfl)
  have HBLD := Aside0.mk (show Calls Try.prog 44 #[.slice (some ⟨w.heap.size + 1 + 1, 0, none⟩) 1 1] W3 fun e W' => (∃ A c, e = .returned (.slice A 17 c) ∧ Acc W' W3.heap.size (.slice A 17 c) knB) ∧ Fr No W3 W' from HB.mono fun e W' hq => ⟨by
    rcases hq.1 with ⟨_, v, h1, h2⟩ | ⟨h, _⟩
    · have h2' : Acc W' W3.heap.size v knB := by rw [← kn_build]; exact h2
      obtain ⟨A, c, e1, _⟩ := Win.shape h2'
      have e1' : v = .slice A 17 c := e1
      subst e1'
      exact ⟨A, c, h1, h2'⟩
    · exact absurd (kn_ok.symm.trans h) (by decide), hq.2⟩)
  have HNIL := Aside0.mk (fun (W : World) => (build_any W none 0 0 [] ⟨fun h => absurd rfl h, rfl, Nat.le_refl _, by decide, fun p hp => nomatch hp⟩).mono fun e W' hq => (show (∃ A c, e = .returned (.slice A 2 c) ∧ Acc W' W.heap.size (.slice A 2 c) [0, 0]) ∧ Fr No W W' from ⟨by
    rcases hq.1 with ⟨_, v, h1, h2⟩ | ⟨h, _⟩
    · have h2' : Acc W' W.heap.size v [0, 0] := by rw [← kn_nil]; exact h2
      obtain ⟨A, c, e1, _⟩ := Win.shape h2'
      have e1' : v = .slice A 2 c := e1
      subst e1'
      exact ⟨A, c, h1, h2'⟩
    · exact absurd (kn_ok0.symm.trans h) (by decide), hq.2⟩))
  clear HB
  have HW3 := Aside0.mk hW3
  clear hW3
  go_enter Try.func43, Try.ntmps43
  go_wp2_with (first | (go_at_call 24; refine (KBytes_any _ Az _ 2 2 cz 2 [0, 0] [0, 0] (RdV.of_win (Win.below Qz.out (below_alloc (Below.refl _ _) _))) (rd_row_at w7 .u8 5 [0, 0] (0, 0) rfl) rfl rfl (by decide) (by decide) (win_capS Qz.out) (Nat.le_refl _)).mono ?_; rw [decide_eq_true rfl]; rintro e' w8 ⟨rfl, m8, hm8⟩; have F8 := Aside0.mk (show Fr No w w8 from frNo F7.out (by rw [hm8]; exact Fr.drewN _ _)); clear hm8) | (go_at_call 44; refine (HNIL.out w6).mono ?_; rintro e' w7 ⟨⟨Az, cz, rfl, q1⟩, q2⟩; have Qz := Aside0.mk q1; have F7 := Aside0.mk (frt F6.out q2); clear q1 q2) | (go_at_call 42; refine (Entries_any w5 A5 _ 2 2 c5 2 xd (knD w.heap.size) Qd.out (HDOC.out.below (frt GS.out G5.out).no)).mono ?_; rintro e' w6 ⟨⟨r, rfl, hr⟩, m6, hm6⟩; have hr1 := hr.2 QX.out; subst hr1; have F6 := Aside0.mk (show Fr No w w6 from by rw [hm6]; exact frt F5.out (Fr.drewN _ _)); clear hm6 hr) | (go_at_call 38; refine (SDoc_in w4 _ gs v C [knE] QS4.out 0 knE rfl).mono ?_; rintro e' w5 ⟨⟨xv, xd, rfl, q1, q2⟩, q3⟩; obtain ⟨A5, c5, e5, q4⟩ : ∃ A5 c5, xv = .slice A5 2 c5 ∧ DocR w5 A5 2 c5 xd := (by obtain ⟨A5, c5, e5, _⟩ := q2.hdr.shape; have hl : xd.length = 2 := (by have := congrArg List.length q1; simpa [knE] using this); rw [hl] at e5; rw [e5] at q2; exact ⟨A5, c5, e5, (q2.docR (by rw [q1]; exact (kn_fine.doc (x := knE) (by simp)).1) (by rw [q1]; exact (kn_fine.doc (x := knE) (by simp)).2)).1⟩); subst e5; have Qd := Aside0.mk q4; have QX := Aside0.mk (show xd.map Prod.snd = (knD w.heap.size).map Prod.snd from q1); have G5 := Aside0.mk q3; have F5 := Aside0.mk (frt F4.out q3); clear q1 q2 q3 q4) | (go_at_call 37; refine (SLen_d w4 gs 1 v QS4.out.st).mono ?_; rintro e' wz ⟨rfl, hz⟩; have hz' := hz.symm; subst hz') | (go_at_call 24; refine (KBytes_any _ Ab _ 17 17 cb 17 knB knB (RdV.of_win (Win.below Qb.out (accAlloc (frt G2.out G3.out).no (Nat.le_refl _) _))) (rd_row_at w3 .u8 5 knB (0, 0) rfl) rfl rfl (by decide) (by decide) (win_capS Qb.out) (Nat.le_refl _)).mono ?_; rw [decide_eq_true rfl]; rintro e' w4 ⟨rfl, m4, hm4⟩; have G4 := Aside0.mk (show Fr No w3 w4 from below_one (by rw [hm4]; exact Fr.drewN _ _)); have F4 := Aside0.mk (frt F3.out G4.out); have QS4 := Aside0.mk ((QS.out.no G3.out).no G4.out); have GS := Aside0.mk (frt G1.out (frt G2.out (frt G3.out G4.out))); clear hm4) | (go_at_call 40; refine (kn_open_bad w2).mono ?_; rintro e' w3 ⟨rfl, q1⟩; have G3 := Aside0.mk (below_one q1); have F3 := Aside0.mk (frNo F2.out q1); clear q1) | (go_at_call 40; refine (sopen_acc (W := w1) (B := W3.heap.size) (nx := 17) (A := Ab) (c := cb) (b := knB) Qb.out rfl (byt_dec (by decide)) (by decide)).mono ?_; rintro e' w2 q; rw [← kn_build] at q; obtain ⟨q1, C, gs, v, rfl, q2, q3⟩ := q.build kn_fine; have QS := Aside0.mk q3; have G2 := Aside0.mk q1; have F2 := Aside0.mk (frt F1.out q1); clear q q1 q2 q3) | (go_at_call 44; rw [← HW3.out]; refine HBLD.out.mono ?_; rintro e' w1 ⟨⟨Ab, cb, rfl, q1⟩, q2⟩; have Qb := Aside0.mk q1; have G1 := Aside0.mk q2; have F1 := Aside0.mk (frt HF3.out q2); clear q1 q2))
  go_ret
  exact ⟨rfl, F8.out⟩
end Go.Proofs.Ytchcimkmjoegdaa.C
namespace Go.Proofs.Ytchcimkmjoegdaa.C
open Go.RowKit Go.Proofs.YtchcimkmjoegdaaW.PrintWords Go.Proofs.YtchcimkmjoegdaaW.PrintMore Go.Proofs.Ytchcimkmjoegdaa.M
set_option linter.unusedVariables false
set_option linter.unusedSimpArgs false

/-- Documents of their own memory, in a row. -/
structure BkS (W : World) (B : Nat) (v : Value) (M : List (Value × List (Value × Ent))) : Prop where
  hdr : Win W B 52 1 v M.length (M.map Prod.fst)
  part : ∀ x ∈ M, DocW W B x.1 x.2
section
variable {W W1 W2 W' : World} {B B' gs n : Nat} {v v2 u xv : Value} {M : List (Value × List (Value × Ent))} {xd : List (Value × Ent)} {C : List (Value × Chk)} {d : List (List Ent)} {xs : List Value}
theorem DocW.row (h : DocW W B v xd) (hv : Win W B' 52 1 u n xs) (f : Fr (At u) W W') : DocW W' B v xd :=
  ⟨h.hdr.fr f (fun k hk hs => win_apart h.hdr hv (by decide) hk hs), fun p hp => (h.part p hp).fr f (fun k hk hs => win_apart (h.part p hp) hv (by decide) hk hs), h.sep⟩
theorem StoD.row (h : StoD W B gs v C d) (hv : Win W B' 52 1 u n xs) (f : Fr (At u) W W') : StoD W' B gs v C d := by
  refine ⟨f.get h.st (fun hs => ?_), ⟨h.ch.hdr.fr f (fun k hk hs => win_apart h.ch.hdr hv (by decide) hk hs), fun p hp => Win.fr (h.ch.part p hp) f (fun k hk hs => win_apart (h.ch.part p hp) hv (by decide) hk hs)⟩, h.eq, h.fine⟩
  obtain ⟨_, _, cur, hcur⟩ := hv.at_ hs
  rw [h.st] at hcur
  injection hcur with hcur
  injection hcur with _ hcur
  exact absurd hcur (by decide)
theorem BkS.push (h : BkS W B v M) (hx : DocW W1 B' xv xd) (hb : B ≤ B') (f1 : Fr No W W1) (g1 : Win W2 B 52 1 v2 (M.length + 1) (M.map Prod.fst ++ [xv])) (g3 : Fr (At v) W1 W2) : BkS W2 B v2 (M ++ [(xv, xd)]) := by
  have hv1 := h.hdr.below f1.no
  refine ⟨by rw [List.length_append, List.map_append]; simpa using g1, fun x hxm => ?_⟩
  rcases List.mem_append.1 hxm with hxm | hxm
  · exact ((h.part x hxm).below f1.no).row hv1 g3
  · simp only [List.mem_cons, List.mem_nil_iff, or_false] at hxm
    subst hxm
    exact (hx.lower hb).row hv1 g3
theorem BkS.docsR {A : Option Addr} {c : Nat} (h : BkS W B (.slice A n c) M) (hd : Fine (M.map docOf)) (hl : M.length = n) : DocsR W A n c M := by
  have hw := h.hdr
  rw [hl] at hw
  refine ⟨RdV.of_win hw, hl, win_capS hw, hw.max, fun x hx => ?_⟩
  have hm : docOf x ∈ M.map docOf := List.mem_map.2 ⟨x, hx, rfl⟩
  obtain ⟨A2, c2, e, _⟩ := (h.part x hx).hdr.shape
  have hp := h.part x hx
  rw [e] at hp
  exact ⟨A2, c2, e, (hp.docR (hd.doc hm).1 (hd.doc hm).2).1⟩
end
/-- The state of the loop that asks for all documents. -/
structure LpS (w W : World) (v6 : Value) (M : List (Value × List (Value × Ent))) (D : List (List Ent)) (B4 gs : Nat) (v4 : Value) (C : List (Value × Chk)) (d : List (List Ent)) (B2 : Nat) (Ab : Option Addr) (nb cb : Nat) (b : List Int) : Prop where
  row : BkS W w.heap.size v6 M
  all : M.map docOf = D
  sto : StoD W B4 gs v4 C d
  bts : Win W B2 5 1 (.slice Ab nb cb) nb (nums .u8 b)
  fr : Fr No w W
theorem LpS.no {w W W' : World} {v6 v4 : Value} {M : List (Value × List (Value × Ent))} {D d : List (List Ent)} {B4 gs B2 nb cb : Nat} {C : List (Value × Chk)} {Ab : Option Addr} {b : List Int} (h : LpS w W v6 M D B4 gs v4 C d B2 Ab nb cb b) (f : Fr No W W') : LpS w W' v6 M D B4 gs v4 C d B2 Ab nb cb b :=
  ⟨⟨h.row.hdr.below f.no, fun x hx => (h.row.part x hx).below f.no⟩, h.all, h.sto.no f, h.bts.below f.no, frt h.fr f⟩
theorem LpS.push {w W W1 W2 : World} {v6 v4 v2 xv : Value} {M : List (Value × List (Value × Ent))} {xd : List (Value × Ent)} {x : List Ent} {D d : List (List Ent)} {B4 gs B2 nb cb : Nat} {C : List (Value × Chk)} {Ab : Option Addr} {b : List Int} (h : LpS w W v6 M D B4 gs v4 C d B2 Ab nb cb b)
    (hx : DocW W1 W.heap.size xv xd) (he : xd.map Prod.snd = x) (f1 : Fr No W W1) (g1 : Win W2 w.heap.size 52 1 v2 (M.length + 1) (M.map Prod.fst ++ [xv])) (g3 : Fr (At v6) W1 W2) : LpS w W2 v2 (M ++ [(xv, xd)]) (D ++ [x]) B4 gs v4 C d B2 Ab nb cb b := by
  have h1 := h.no f1
  refine ⟨h.row.push hx h.fr.size f1 g1 g3, by rw [List.map_append, h.all]; show _ ++ [docOf (xv, xd)] = _; unfold docOf; rw [he], h1.sto.row h1.row.hdr g3, h1.bts.fr g3 (fun k hk hs => win_apart h1.bts h1.row.hdr (by decide) hk hs), h1.fr.trans g3 (fun _ _ h => h) (fun k hk hs => by have := (h1.row.hdr.at_ hs).1; omega)⟩
theorem buildB_pos (d : List (List Ent)) : 0 < (buildB d).length := by
  unfold buildB
  simp only [List.length_append]
  have := uenc_pos d.length
  omega
end Go.Proofs.Ytchcimkmjoegdaa.C
namespace Go.Proofs.Ytchcimkmjoegdaa.C
open Go.RowKit Go.Proofs.YtchcimkmjoegdaaW.PrintWords Go.Proofs.YtchcimkmjoegdaaW.PrintMore Go.Proofs.Ytchcimkmjoegdaa.M
set_option linter.unusedVariables false
set_option linter.unusedSimpArgs false

/-- What Open reads, without its last checks. -/
def storeO (xs : List Int) : Option (List Chk × List (List Ent) × Nat) :=
  let n := rS xs 0 0 16384; let m := rS xs n.2.1 n.2.2 (n.1 : Nat)
  if m.2.2 = 0 then (headsO xs n.1 m.1 0 m.2.1).bind fun q => if q.2.1 = n.1 then bodiesO xs q.1 q.2.2 else none else none
theorem storeO_build {d : List (List Ent)} (h : Fine d) (xs post : List Int) (hx : xs = buildB d ++ post) : storeO xs = some (cutsF d, d, (buildB d).length) := by
  have hs := h.small
  have hn := h.len
  have hrow := (cutsF_row d).1
  have hlen := lk_len hrow
  have hpart : ∀ c ∈ cutsF d, c.b.length ≤ xs.length := fun c hc => by
    have h1 : c.b.length ≤ ((cutsF d).flatMap Chk.b).length := by
      have := mem_len_le (S := (cutsF d).map Chk.b) (s := c.b) (List.mem_map.2 ⟨c, hc, rfl⟩)
      rwa [← List.flatMap_def] at this
    rw [hx]
    unfold buildB
    simp only [List.length_append]
    omega
  have hch := fun c hc => chunk_back h.1 h.2 (c := c) hc
  have e0 : xs = uenc d.length ++ uenc (cutsF d).length ++ (cutsF d).flatMap chkH ++ ((cutsF d).flatMap Chk.b ++ post) := by rw [hx]; unfold buildB; simp only [List.append_assoc]
  have e1 : xs = [] ++ uenc d.length ++ (uenc (cutsF d).length ++ (cutsF d).flatMap chkH ++ ((cutsF d).flatMap Chk.b ++ post)) := by rw [e0]; simp only [List.append_assoc, List.nil_append]
  have e2 : xs = uenc d.length ++ uenc (cutsF d).length ++ ((cutsF d).flatMap chkH ++ ((cutsF d).flatMap Chk.b ++ post)) := by rw [e0]; simp only [List.append_assoc]
  have e3 : xs = (uenc d.length ++ uenc (cutsF d).length ++ (cutsF d).flatMap chkH) ++ (cutsF d).flatMap Chk.b ++ post := by rw [e0]; simp only [List.append_assoc]
  have r1 := rS_full [] (uenc (cutsF d).length ++ (cutsF d).flatMap chkH ++ ((cutsF d).flatMap Chk.b ++ post)) d.length 16384 (by rw [M64_eq]; omega) (by omega)
  have r2 := rS_full (uenc d.length) ((cutsF d).flatMap chkH ++ ((cutsF d).flatMap Chk.b ++ post)) (cutsF d).length (d.length : Nat) (by rw [M64_eq]; omega) (by omega)
  have r3 := headsO_full xs d.length hn (cutsF d) 0 d.length _ _ e0 hrow (Nat.le_refl _) (fun c hc => ⟨hpart c hc, by have := hs c hc; rw [M64_eq]; omega⟩)
  have r4 := bodiesO_full xs (fun c => (d.take c.t).drop c.f) (cutsF d) _ _ e3 (fun c hc => by
    unfold chunkO
    rw [hch c hc]
    simp)
  rw [← e1] at r1
  rw [← e2] at r2
  simp only [List.length_nil, Nat.zero_add] at r1
  simp only [List.length_append] at r3 r4
  have hl : (buildB d).length = (uenc d.length).length + (uenc (cutsF d).length).length + ((cutsF d).flatMap chkH).length + ((cutsF d).flatMap Chk.b).length := by unfold buildB; simp only [List.length_append]
  have hf : (cutsF d).flatMap (fun c => (d.take c.t).drop c.f) = d := by rw [(row_flat hrow (Nat.le_refl _)).1, List.take_length, List.drop_zero]
  unfold storeO
  simp only [r1, r2, if_true, r3, Option.bind_some, r4, hf, hl]
theorem build_prefix {d e : List (List Ent)} (hd : Fine d) (he : Fine e) {post : List Int} (h : buildB d ++ post = buildB e) : post = [] := by
  have h1 := storeO_build hd (buildB e) post h.symm
  have h2 := storeO_build he (buildB e) [] (by rw [List.append_nil])
  rw [h1] at h2
  injection h2 with h2
  injection h2 with _ h2
  injection h2 with _ h2
  have h3 := congrArg List.length h
  rw [List.length_append] at h3
  exact List.eq_nil_of_length_eq_zero (by omega)
theorem storeF_cut {d : List (List Ent)} (hd : Fine d) {k : Nat} (hk : k < (buildB d).length) : storeF ((buildB d).take k) = none := by
  rcases h : storeF ((buildB d).take k) with _ | ⟨C, e⟩
  · rfl
  · obtain ⟨h1, h2, _⟩ := storeF_some h
    have h3 := build_prefix h2 hd (post := (buildB d).drop k) (by rw [h1, List.take_append_drop])
    have h4 := congrArg List.length h3
    rw [List.length_drop, List.length_nil] at h4
    omega
theorem storeF_long {d : List (List Ent)} (hd : Fine d) (x : Int) : storeF (buildB d ++ [x]) = none := by
  rcases h : storeF (buildB d ++ [x]) with _ | ⟨C, e⟩
  · rfl
  · obtain ⟨h1, h2, _⟩ := storeF_some h
    exact nomatch build_prefix hd h2 (post := [x]) h1.symm
end Go.Proofs.Ytchcimkmjoegdaa.C
namespace Go.Proofs.Ytchcimkmjoegdaa.C
open Go.RowKit Go.Proofs.YtchcimkmjoegdaaW.PrintWords Go.Proofs.YtchcimkmjoegdaaW.PrintMore Go.Proofs.Ytchcimkmjoegdaa.M
set_option linter.unusedVariables false
set_option linter.unusedSimpArgs false
theorem row_bound {n : Nat} (h : n ≤ 16384) : n + 1 ≤ maxLen ∧ (n + 1 + (n + 1) / 4 + 700) * 24 ≤ 281474976710656 := by
  simp only [maxLen]; omega
set_option maxRecDepth 100000 in
set_option maxHeartbeats 4000000 in
theorem StoredBack_any (w : World) (A : Option Addr) (n c : Nat) (L : List (Value × List (Value × Ent))) (h : DocsR w A n c L) (h24 : n ≤ 5864062014634) :
    Calls Try.prog 7 #[.slice A n c] w fun e w' => e = .returned (.bool true) ∧ Fr No w w' := by
  have hN : n ≤ 9223372036854775807 := h.max
  have H := Aside0.mk h
  have HLENT := Aside0.mk (fun (W : World) (hW : Fr No w W) => lent_any W A n c L (h.below hW.no) h24)
  have HFINE := Aside0.mk (fun ho => h.fine ho)
  obtain ⟨d, hd⟩ : ∃ d, L.map docOf = d := ⟨_, rfl⟩
  have HD := Aside0.mk hd
  have HDL := Aside0.mk (show d.length = n from by rw [← hd, List.length_map]; exact h.len)
  rw [hd] at HFINE
  clear h h24 hd
  rcases hod : okDs d with _ | _
  · have HOD := Aside0.mk hod
    clear HFINE hod
    go_enter Try.func7, Try.ntmps7
    go_wp2_with (first | (go_at_call 44; go_must (refine (build_any w2 A3 n c3 M Q1.out.docs).mono ?_; rw [QM.out, HD.out, HOD.out]; rintro e' w3 ⟨q0, q1⟩; obtain rfl : e' = .returned (.slice none 0 0) := (by rcases q0 with ⟨h, _⟩ | ⟨_, h⟩ <;> first | exact h | exact absurd h (by decide)); have F3 := Aside0.mk (frt F2.out q1); clear q0 q1)) | (go_at_call 45; go_must (refine (HLENT.out w1 F1.out).mono ?_; rintro e' w2 ⟨v1, M, rfl, q1, q2, q3⟩; obtain ⟨A3, c3, e3, q4⟩ := q1.read H.out q2; subst e3; have Q1 := Aside0.mk q4; have QM := Aside0.mk q2; have F2 := Aside0.mk (frt F1.out q3); clear q1 q2 q3 q4)) | (go_at_call 43; go_must (refine (known11_any w).mono ?_; rintro e' w1 ⟨rfl, q1⟩; have F1 := Aside0.mk q1; clear q1)))
    go_ret
    exact ⟨rfl, F3.out⟩
  · have HFN := Aside0.mk (HFINE.out hod)
    have HOD := Aside0.mk hod
    obtain ⟨b, hb⟩ : ∃ b, buildB d = b := ⟨_, rfl⟩
    obtain ⟨nb, hnb⟩ : ∃ nb, b.length = nb := ⟨_, rfl⟩
    have HBB := Aside0.mk hb
    have HNB := Aside0.mk hnb
    have hnbm : nb ≤ 4915600020 := by rw [← hnb, ← hb]; exact buildB_len HFN.out
    have hnb0 : 0 < nb := by rw [← hnb, ← hb]; exact buildB_pos d
    have hnbz : ((nb : Int) == 0) = false := by rw [beq_eq_false_iff_ne]; omega
    have HBY := Aside0.mk (show Byt b from by rw [← hb]; exact byt_buildB d)
    clear HFINE hod hb hnb
    obtain ⟨K, hK⟩ : ∃ K, (cutsF d).length = K := ⟨_, rfl⟩
    have HK := Aside0.mk hK
    have hKm : K ≤ 16384 := by rw [← hK]; exact Nat.le_trans (cutN_len _ _) HFN.out.len
    clear hK
    have HDN := Aside0.mk (show n ≤ 16384 from by have := HFN.out.len; rwa [HDL.out] at this)
    go_enter Try.func7, Try.ntmps7
    go_wp2_with (first | (go_at_call 37; go_must (refine (SLen_d w4 gs n v QL.out).mono ?_; rintro e' wz ⟨rfl, hz⟩; have hz' := hz.symm; subst hz')) | (go_at_call 40; go_must (refine (sopen_acc (W := w3) (B := w2.heap.size) (nx := nb) (A := Ab) (c := cb) (b := b) Qb.out HNB.out HBY.out hnbm).mono ?_; rintro e' w4 q; rw [← HBB.out] at q; obtain ⟨q1, C, gs, v, rfl, q2, q3⟩ := q.build HFN.out; have QS := Aside0.mk (show StoD w4 w3.heap.size gs v C d from q3); have hlen := q3.st; rw [HDL.out] at hlen; have QL := Aside0.mk hlen; have G4 := Aside0.mk q1; have F4 := Aside0.mk (frt F3.out q1); clear q q1 q2 q3 hlen)) | (go_at_call 44; go_must (refine (build_any w2 A3 n c3 M Q1.out.docs).mono ?_; rw [QM.out, HD.out, HOD.out, HBB.out]; rintro e' w3 ⟨q0, q1⟩; obtain ⟨v2, rfl, q2⟩ : ∃ v2, e' = .returned v2 ∧ Acc w3 w2.heap.size v2 b := (by rcases q0 with ⟨_, h⟩ | ⟨h, _⟩ <;> first | exact h | exact absurd h (by decide)); obtain ⟨Ab, cb, eb, lb⟩ := Win.shape q2; rw [HNB.out] at eb lb; subst eb; have Qb := Aside0.mk (show Win w3 w2.heap.size 5 1 (.slice Ab nb cb) nb (nums .u8 b) from by have h := q2; unfold Acc at h; rwa [HNB.out] at h); have F3 := Aside0.mk (frt F2.out q1); clear q0 q1 q2)) | (go_at_call 45; go_must (refine (HLENT.out w1 F1.out).mono ?_; rintro e' w2 ⟨v1, M, rfl, q1, q2, q3⟩; obtain ⟨A3, c3, e3, q4⟩ := q1.read H.out q2; subst e3; have Q1 := Aside0.mk q4; have QM := Aside0.mk q2; have F2 := Aside0.mk (frt F1.out q3); clear q1 q2 q3 q4)) | (go_at_call 43; go_must (refine (known11_any w).mono ?_; rintro e' w1 ⟨rfl, q1⟩; have F1 := Aside0.mk q1; clear q1)))
    have HDM := Aside0.mk (show ∀ (i : Nat) (p : Value × List (Value × Ent)), L[i]? = some p → d[i]? = some (docOf p) from fun i p h => by rw [← HD.out, List.getElem?_map, h]; rfl)
    obtain ⟨B2, hB2⟩ : ∃ B2, B2 = w2.heap.size := ⟨_, rfl⟩
    obtain ⟨B4, hB4⟩ : ∃ B4, B4 = w3.heap.size := ⟨_, rfl⟩
    have HST := Aside0.mk (show LpS w w4 (.slice none 0 0) [] (d.take 0) B4 gs v C d B2 Ab nb cb b from ⟨⟨Win.nil _ _ _ _, fun p hp => (nomatch hp)⟩, rfl, by rw [hB4]; exact QS.out, by rw [hB2]; exact Qb.out.below G4.out.no, F4.out⟩)
    clear hB2 hB4
    go_loopw [6, 7] (fun v6 v7 wr => ∃ i : Nat, v7 = .int .i64 i ∧ i ≤ n ∧ Aside0 (∃ M, LpS w wr v6 M (d.take i) B4 gs v C d B2 Ab nb cb b)) (fun _ v7 _ => n - (intOf v7).toNat)
    case atStart => exact ⟨0, rfl, by omega, ⟨[], HST.out⟩⟩
    case round =>
      obtain ⟨i, rfl, hi, HI⟩ := hrel
      obtain ⟨M6, hM⟩ := HI.out
      obtain ⟨wo, rfl⟩ : ∃ wo : World, wo = wr := ⟨_, rfl⟩
      have HM := Aside0.mk hM
      have HML := Aside0.mk (show M6.length = i from by have := congrArg List.length hM.all; rw [List.length_map, List.length_take, HDL.out] at this; omega)
      clear hM
      by_cases hlt : i < n
      · obtain ⟨p, hp⟩ := get_some' (xs := L) (i := i) (by have := H.out.len; omega)
        have HX := Aside0.mk (HDM.out i p hp)
        obtain ⟨Ap, cp, ep, hdp⟩ := H.out.part _ (List.mem_of_getElem? hp)
        have HP := Aside0.mk hp
        have HDP := Aside0.mk hdp
        have HEP := Aside0.mk ep
        obtain ⟨ad, eA, hcell0⟩ := rdv_at H.out.hdr hp
        subst eA
        have hpl : p.2.length ≤ 2513169434845 := hdp.max
        have HBD := Aside0.mk (row_bound (n := i) (by have := HDN.out; omega))
        have HOX := Aside0.mk (HFN.out.doc (List.mem_of_getElem? HX.out))
        clear hp hdp ep hcell0
        obtain ⟨l, hl⟩ : ∃ l, p.2.length = l := ⟨_, rfl⟩
        have HL := Aside0.mk hl
        rw [hl] at hpl
        have HDP2 := Aside0.mk (show p.1 = .slice Ap l cp ∧ DocR w Ap l cp p.2 from by rw [← hl]; exact ⟨HEP.out, HDP.out⟩)
        clear hl
        go_wp2_with (first | ((with_reducible refine gate_builtin (b := .append) (xs := #[.tmp 51, .tmp 53]) rfl ?_); at_builtin; go_must (refine wpl_append1 w6 w.heap.size rfl (.tmp 51) (.tmp 53) 56 52 (.slice none 0 0) 1 24 rfl Try.underlying56 info52 rfl u6 i (M6.map Prod.fst) [.slice A5 l c5] rfl rfl (by have h := HM.out.row.hdr.below G6.out.no; rwa [HML.out] at h) rfl (by simp [Value.oneCell']) (Nat.le_trans HM.out.fr.size G6.out.size) HBD.out.1 HBD.out.2 ?_; intro v7 w7 g1 _ g3 _; have K1 := Aside0.mk g1; have K3 := Aside0.mk g3; clear g1 g3)) | (go_at_call 42; go_must (refine (Entries_any w5 A5 Ap l l c5 cp xd p.2 Qd.out (HDP2.out.2.below (frt HM.out.fr G5.out).no)).mono ?_; rintro e' w6 ⟨⟨r, rfl, hr⟩, m6, hm6⟩; have hr1 := hr.2 QX.out; subst hr1; have G6 := Aside0.mk (show Fr No wo w6 from by rw [hm6]; exact frt G5.out (Fr.drewN _ _)); have QW6 := Aside0.mk (show DocW w6 wo.heap.size (.slice A5 l c5) xd from by rw [hm6]; exact QW.out.below (Fr.drewN _ _).no); clear hm6 hr)) | (go_at_call 38; go_must (refine (SDoc_in wo _ gs v C d HM.out.sto i (docOf p) HX.out).mono ?_; rintro e' w5 ⟨⟨xv, xd, rfl, q1, q2⟩, q3⟩; obtain ⟨A5, c5, e5, q4⟩ : ∃ A5 c5, xv = .slice A5 l c5 ∧ DocR w5 A5 l c5 xd := (by obtain ⟨A5, c5, e5, _⟩ := q2.hdr.shape; have hl : xd.length = l := (by have := congrArg List.length q1; unfold docOf at this; simp at this; rw [this]; exact HL.out); rw [hl] at e5; rw [e5] at q2; exact ⟨A5, c5, e5, (q2.docR (by rw [q1]; exact HOX.out.1) (by rw [q1]; exact HOX.out.2)).1⟩); subst e5; have Qd := Aside0.mk q4; have QW := Aside0.mk q2; have QX := Aside0.mk (show xd.map Prod.snd = p.2.map Prod.snd from q1); have G5 := Aside0.mk q3; have hcell5 : w5.cell? (ad.add i) = some (.slice Ap l cp) := (by have h := rdv_some (H.out.hdr.below (frt HM.out.fr q3).no) HP.out; rwa [HDP2.out.1] at h); clear q1 q2 q3 q4)))
        go_roundw
        case rel => exact ⟨i + 1, by simp, by omega, ⟨_, by have h := HM.out.push QW6.out QX.out G6.out (by rw [HML.out]; exact K1.out) K3.out; rw [List.take_add_one, HX.out]; exact h⟩⟩
        case measure => simp [intOf]; omega
      · obtain rfl : n = i := by omega
        obtain ⟨A4, c4, e4, hsr⟩ := HM.out.sto.stoR
        subst e4
        rw [HK.out, HDL.out] at hsr
        have HSR := Aside0.mk hsr
        have HSTO := Aside0.mk HM.out.sto.eq
        clear hsr
        have hrow := HM.out.row.hdr
        rw [HML.out] at hrow
        obtain ⟨A6, c6, e6, _⟩ := hrow.shape
        subst e6
        have HALL := Aside0.mk (show M6.map docOf = d from by rw [HM.out.all, List.take_of_length_le (by have := HDL.out; omega)])
        have HRD := Aside0.mk (HM.out.row.docsR (by rw [HALL.out]; exact HFN.out) HML.out)
        clear hrow
        have HLK := Aside0.mk (cutsF_row d).1
        have hdn := HDN.out
        go_wp2_with fail
        go_loopw [9, 10] (fun v9 v10 wr => ∃ (i a : Nat), v9 = .int .i64 a ∧ v10 = .int .i64 i ∧ i ≤ K ∧ Aside0 (Lk a ((cutsF d).drop i) d.length ∧ Fr No wo wr)) (fun _ v10 _ => K - (intOf v10).toNat)
        case atStart => exact ⟨0, 0, rfl, rfl, by omega, ⟨HLK.out, Fr.refl _ _⟩⟩
        case round =>
          obtain ⟨i, a, rfl, rfl, hi2, HI2⟩ := hrel
          obtain ⟨wl, rfl⟩ : ∃ wl : World, wl = wr := ⟨_, rfl⟩
          have HC39 := Aside0.mk (SChunks_any wl gs K c4 n A4 C (HSR.out.below HI2.out.2.no))
          by_cases hlt : i < K
          · obtain ⟨⟨f, t, cb0⟩, hp⟩ := get_some' (xs := cutsF d) (i := i) (by have := HK.out; omega)
            obtain ⟨⟨u, ck⟩, hq⟩ := get_some' (xs := C) (i := i) (by have := congrArg List.length HSTO.out; rw [List.length_map, HK.out] at this; omega)
            have hck : ck = ⟨f, t, cb0⟩ := by
              have h1 : (C.map Prod.snd)[i]? = some ⟨f, t, cb0⟩ := by rw [HSTO.out]; exact hp
              rw [List.getElem?_map, hq] at h1
              exact Option.some.inj h1
            subst hck
            have hdr : (cutsF d).drop i = ⟨f, t, cb0⟩ :: (cutsF d).drop (i + 1) := by
              obtain ⟨hlt', e⟩ := List.getElem?_eq_some_iff.1 hp
              rw [List.drop_eq_getElem_cons hlt', e]
            have hl := HI2.out.1
            rw [hdr] at hl
            obtain ⟨l1, l2, l3⟩ := hl
            have l1' : f = a := l1
            have l2' : f < t := l2
            subst l1'
            have htn : t ≤ n := by have := (cutsF_ft (List.mem_of_getElem? hp)).2; have e := HDL.out; simp only at this; omega
            have HCH := Aside0.mk (SChunk_in wl gs K c4 n A4 C (HSR.out.below HI2.out.2.no) i u f t cb0 hq)
            have HL3 := Aside0.mk l3
            clear hp hq hdr l1 l2 l3
            go_wp2_with (first | (go_at_call 36; go_must (refine HCH.out.mono ?_; rintro e' w9 ⟨rfl, m9, hm9⟩; have F9 := Aside0.mk (show Fr No wl w9 from by rw [hm9]; exact Fr.drewN _ _); clear hm9)) | (go_at_call 39; go_must (refine HC39.out.mono ?_; rintro e' wz ⟨rfl, hz⟩; have hz' := hz.symm; subst hz')))
            go_roundw
            case rel => exact ⟨i + 1, t, by simp, by simp, by omega, ⟨HL3.out, frt HI2.out.2 F9.out⟩⟩
            case measure => simp [intOf]; omega
          · obtain rfl : K = i := by omega
            have han : a = n := by
              have h1 := HI2.out.1
              rw [List.drop_of_length_le (by have := HK.out; omega), HDL.out] at h1
              exact h1
            subst han
            have HBF := Aside0.mk (build_any wl A6 a c6 M6 (HRD.out.below HI2.out.2.no))
            go_wp2_with (first | (go_at_call 24; go_must (refine (KBytes_any wm Af Ab nb nb cf cb b b (RdV.of_win Qf.out) (RdV.of_win (HM.out.bts.below (frt HI2.out.2 FM.out).no)) HNB.out HNB.out (by omega) (by omega) lf (win_capS HM.out.bts)).mono ?_; rw [decide_eq_true rfl]; rintro e' wn ⟨rfl, mn, hmn⟩; have FN := Aside0.mk (show Fr No wm wn from by rw [hmn]; exact Fr.drewN _ _); clear hmn)) | (go_at_call 44; go_must (refine HBF.out.mono ?_; rw [HALL.out, HOD.out, HBB.out]; rintro e' wm ⟨q0, q1⟩; obtain ⟨v2, rfl, q2⟩ : ∃ v2, e' = .returned v2 ∧ Acc wm wl.heap.size v2 b := (by rcases q0 with ⟨_, h⟩ | ⟨h, _⟩ <;> first | exact h | exact absurd h (by decide)); obtain ⟨Af, cf, ef, lf⟩ := Win.shape q2; rw [HNB.out] at ef lf; subst ef; have Qf := Aside0.mk q2; have FM := Aside0.mk q1; clear q0 q1 q2)) | (go_at_call 39; go_must (refine HC39.out.mono ?_; rintro e' wz ⟨rfl, hz⟩; have hz' := hz.symm; subst hz')))
            go_ret
            exact ⟨rfl, frt HM.out.fr (frt HI2.out.2 (frt FM.out FN.out))⟩
end Go.Proofs.Ytchcimkmjoegdaa.C
namespace Go.Proofs.Ytchcimkmjoegdaa.C
open Go.RowKit Go.Proofs.YtchcimkmjoegdaaW.PrintWords Go.Proofs.YtchcimkmjoegdaaW.PrintMore Go.Proofs.Ytchcimkmjoegdaa.M
set_option linter.unusedVariables false
set_option linter.unusedSimpArgs false
theorem lentB_any (w : World) (A : Option Addr) (n c : Nat) (xs : List Int) (hr : RdV w A (nums .u8 xs)) (hl : xs.length = n) (hc : n ≤ c) (hn : n ≤ 4915600020) :
    Calls Try.prog 27 #[.slice A n c] w fun e w' => ∃ A' c', e = .returned (.slice A' n c') ∧ Win w' w.heap.size 5 1 (.slice A' n c') n (nums .u8 xs) ∧ Fr No w w' := by
  refine (LentBytes_any w A n c xs hr hl hc (by omega)).mono ?_
  rintro e w' ⟨A', c', h1, h2, h3⟩
  have h4 := h2.take (m := n) (by omega)
  rw [Nat.mul_one, nums_take, ← hl, List.take_left, hl] at h4
  exact ⟨A', c', h1, h4, h3⟩
theorem sopen_bad {W : World} {B nx : Nat} {A : Option Addr} {c : Nat} {b : List Int} (h : Win W B 5 1 (.slice A nx c) nx (nums .u8 b)) (hl : b.length = nx) (hb : Byt b) (hn : nx ≤ 4915600021) (hbad : storeF b = none) : Calls Try.prog 40 #[.slice A nx c] W fun e W' => e = .returned (.tuple #[.pointer none, .int .i64 20]) ∧ Fr No W W' := by
  refine (sopen_any W A nx c b (RdV.of_win h) hl hb (fun e => by subst e; exact Win.nil_cap h) (win_capS h) (by omega)).mono ?_
  rintro e W' ⟨hf, ⟨_, h⟩ | ⟨C, d, gs, v, h, _⟩⟩
  · exact ⟨h, hf⟩
  · rw [hbad] at h; cases h
theorem cut_place_any (a : Int) (n : Nat) (hn : 0 < n) (hn2 : n ≤ 4915600020) : ∃ f : Nat, f < n ∧ ((a.tmod n < 0 ∧ wrap64 (a.tmod n + n) = f) ∨ (0 ≤ a.tmod n ∧ a.tmod n = f)) := by
  have h1 : a.tmod n < n := Int.tmod_lt_of_pos a (by omega)
  have h2 : -(n : Int) < a.tmod n := by
    have h := Int.tmod_lt_of_pos (-a) (b := (n : Int)) (by omega)
    rw [Int.neg_tmod] at h
    omega
  by_cases h3 : a.tmod n < 0
  · exact ⟨(a.tmod n + n).toNat, by omega, .inl ⟨h3, by unfold wrap64; omega⟩⟩
  · exact ⟨(a.tmod n).toNat, by omega, .inr ⟨by omega, by omega⟩⟩
set_option maxRecDepth 100000 in
set_option maxHeartbeats 4000000 in
theorem StoredCut_any (w : World) (A : Option Addr) (n c : Nat) (L : List (Value × List (Value × Ent))) (at_ x : Int) (h : DocsR w A n c L) (h24 : n ≤ 5864062014634) (ha0 : -9223372036854775808 ≤ at_) (ha1 : at_ ≤ 9223372036854775807) (hx : 0 ≤ x ∧ x ≤ 255) :
    Calls Try.prog 16 #[.slice A n c, .int .i64 at_, .int .u8 x] w fun e w' => e = .returned (.bool true) ∧ Fr No w w' := by
  have hN : n ≤ 9223372036854775807 := h.max
  have H := Aside0.mk h
  have HLENT := Aside0.mk (fun (W : World) (hW : Fr No w W) => lent_any W A n c L (h.below hW.no) h24)
  have HFINE := Aside0.mk (fun ho => h.fine ho)
  have HXX := Aside0.mk hx
  obtain ⟨d, hd⟩ : ∃ d, L.map docOf = d := ⟨_, rfl⟩
  have HD := Aside0.mk hd
  rw [hd] at HFINE
  clear h h24 hd hx
  rcases hod : okDs d with _ | _
  · have HOD := Aside0.mk hod
    clear HFINE hod ha0 ha1
    go_enter Try.func16, Try.ntmps16
    go_wp2_with (first | (go_at_call 44; go_must (refine (build_any w2 A3 n c3 M Q1.out.docs).mono ?_; rw [QM.out, HD.out, HOD.out]; rintro e' w3 ⟨q0, q1⟩; obtain rfl : e' = .returned (.slice none 0 0) := (by rcases q0 with ⟨h, _⟩ | ⟨_, h⟩ <;> first | exact h | exact absurd h (by decide)); have F3 := Aside0.mk (frt F2.out q1); clear q0 q1)) | (go_at_call 45; go_must (refine (HLENT.out w1 F1.out).mono ?_; rintro e' w2 ⟨v1, M, rfl, q1, q2, q3⟩; obtain ⟨A3, c3, e3, q4⟩ := q1.read H.out q2; subst e3; have Q1 := Aside0.mk q4; have QM := Aside0.mk q2; have F2 := Aside0.mk (frt F1.out q3); clear q1 q2 q3 q4)) | (go_at_call 43; go_must (refine (known11_any w).mono ?_; rintro e' w1 ⟨rfl, q1⟩; have F1 := Aside0.mk q1; clear q1)))
    go_ret
    exact ⟨rfl, F3.out⟩
  · have HFN := Aside0.mk (HFINE.out hod)
    have HOD := Aside0.mk hod
    obtain ⟨b, hb⟩ : ∃ b, buildB d = b := ⟨_, rfl⟩
    obtain ⟨nb, hnb⟩ : ∃ nb, b.length = nb := ⟨_, rfl⟩
    have HBB := Aside0.mk hb
    have HNB := Aside0.mk hnb
    have hnbm : nb ≤ 4915600020 := by rw [← hnb, ← hb]; exact buildB_len HFN.out
    have hnb0 : 0 < nb := by rw [← hnb, ← hb]; exact buildB_pos d
    have hnbz : ((nb : Int) == 0) = false := by rw [beq_eq_false_iff_ne]; omega
    have hnbp : (0 : Int) < (nb : Int) := by omega
    have HBY := Aside0.mk (show Byt b from by rw [← hb]; exact byt_buildB d)
    obtain ⟨f, hf, hcase⟩ := cut_place_any at_ nb hnb0 hnbm
    have HF := Aside0.mk hf
    have HCUTS := Aside0.mk (show storeF (b.take f) = none from by rw [← hb]; exact storeF_cut HFN.out (by rw [hb, hnb]; exact hf))
    have HLONG := Aside0.mk (show storeF (b ++ [x]) = none from by rw [← hb]; exact storeF_long HFN.out x)
    obtain ⟨i0, hi0, _⟩ := info_parts info5
    have CU := Aside0.mk (fun (A : Option Addr) (c : Nat) (hc : nb ≤ c) => cuth (P := Try.prog) 22 5 .i64 Try.underlying22 hi0 A nb c f (by omega))
    clear HFINE hod hb hnb hi0
    go_enter Try.func16, Try.ntmps16
    rcases hcase with ⟨hneg, hw⟩ | ⟨hneg, hw⟩
    all_goals
      have HW := Aside0.mk hw
      go_wp2_with (first | (go_at_call 44; go_must (refine (build_any w2 A3 n c3 M Q1.out.docs).mono ?_; rw [QM.out, HD.out, HOD.out, HBB.out]; rintro e' w3 ⟨q0, q1⟩; obtain ⟨v2, rfl, q2⟩ : ∃ v2, e' = .returned v2 ∧ Acc w3 w2.heap.size v2 b := (by rcases q0 with ⟨_, h⟩ | ⟨h, _⟩ <;> first | exact h | exact absurd h (by decide)); obtain ⟨Ab, cb, eb, lb⟩ := Win.shape q2; rw [HNB.out] at eb lb; subst eb; have Qb := Aside0.mk (show Win w3 w2.heap.size 5 1 (.slice Ab nb cb) nb (nums .u8 b) from by have h := q2; unfold Acc at h; rwa [HNB.out] at h); have F3 := Aside0.mk (frt F2.out q1); have hcut := CU.out Ab cb lb; rw [← HW.out] at hcut; clear q0 q1 q2)) | (go_at_call 45; go_must (refine (HLENT.out w1 F1.out).mono ?_; rintro e' w2 ⟨v1, M, rfl, q1, q2, q3⟩; obtain ⟨A3, c3, e3, q4⟩ := q1.read H.out q2; subst e3; have Q1 := Aside0.mk q4; have QM := Aside0.mk q2; have F2 := Aside0.mk (frt F1.out q3); clear q1 q2 q3 q4)) | (go_at_call 43; go_must (refine (known11_any w).mono ?_; rintro e' w1 ⟨rfl, q1⟩; have F1 := Aside0.mk q1; clear q1)))
      try rw [HW.out]
      clear hcut hneg hw HW
      have hfi : (f : Int) < (nb : Int) := by omega
      have HLB := Aside0.mk (small_bound (n := nb + 1) (by omega))
      have HBX := Aside0.mk (show Byt (b.set f x) from fun y hy => by
        rcases List.mem_or_eq_of_mem_set hy with h | h
        · exact HBY.out y h
        · subst h; exact HXX.out)
      go_wp2_with (go_at_call 27; go_must (refine (lentB_any w3 Ab f cb (b.take f) (by have h := (RdV.of_win Qb.out).take f; rwa [nums_take] at h) (by rw [List.length_take, HNB.out]; omega) (by have := win_capS Qb.out; omega) (by omega)).mono ?_; rintro e' w4 ⟨A4, c4, rfl, q1, q2⟩; have Q4 := Aside0.mk q1; have G4 := Aside0.mk q2; have F4 := Aside0.mk (frt F3.out q2); clear q1 q2))
      go_wp2_with (go_at_call 40; go_must (refine (sopen_bad Q4.out (by rw [List.length_take, HNB.out]; omega) (fun y hy => HBY.out y (List.mem_of_mem_take hy)) (by omega) HCUTS.out).mono ?_; rintro e' w5 ⟨rfl, q1⟩; have G5 := Aside0.mk q1; have F5 := Aside0.mk (frt F4.out q1); clear q1))
      go_wp2_with (first | ((with_reducible refine gate_builtin (b := .append) (xs := #[.tmp 47, .tmp 49]) rfl ?_); at_builtin; go_must (refine wpl_append1 w6 w.heap.size rfl (.tmp 47) (.tmp 49) 22 5 (.int .u8 0) 1 1 rfl Try.underlying22 info5 rfl (.slice A6 nb c6) nb (nums .u8 b) [.int .u8 x] rfl rfl (Q6.out.lower F5.out.size) rfl (by simp [Value.oneCell']) F6.out.size HLB.out.1 HLB.out.2 ?_; intro v7 w7 g1 _ g3 _; obtain ⟨A7, c7, e7, l7⟩ := g1.shape; subst e7; have Q7 := Aside0.mk (show Win w7 w.heap.size 5 1 (.slice A7 (nb + 1) c7) (nb + 1) (nums .u8 (b ++ [x])) from by rw [nums_append]; exact g1); have G7 := Aside0.mk (show Fr No w5 w7 from G6.out.trans g3 (fun _ _ h => h) (fun k hk hs => by have := (Q6.out.at_ hs).1; omega)); have F7 := Aside0.mk (frt F5.out G7.out); clear g1 g3)) | (go_at_call 27; go_must (refine (lentB_any w5 Ab nb cb b (RdV.of_win (Qb.out.below (frt G4.out G5.out).no)) HNB.out (win_capS Qb.out) hnbm).mono ?_; rintro e' w6 ⟨A6, c6, rfl, q1, q2⟩; have Q6 := Aside0.mk q1; have G6 := Aside0.mk q2; have F6 := Aside0.mk (frt F5.out q2); clear q1 q2)))
      go_wp2_with (go_at_call 40; go_must (refine (sopen_bad Q7.out (by rw [List.length_append, HNB.out]; rfl) (Byt.app HBY.out (fun y hy => by obtain rfl : y = x := (by simpa using hy); exact HXX.out)) (by omega) HLONG.out).mono ?_; rintro e' w8 ⟨rfl, q1⟩; have G8 := Aside0.mk q1; have F8 := Aside0.mk (frt F7.out q1); clear q1))
      go_wp2_with (go_at_call 27; go_must (refine (lentB_any w8 Ab nb cb b (RdV.of_win (Qb.out.below (frt G4.out (frt G5.out (frt G7.out G8.out))).no)) HNB.out (win_capS Qb.out) hnbm).mono ?_; rintro e' w9 ⟨A9, c9, rfl, q1, q2⟩; have Q9 := Aside0.mk q1; have F9 := Aside0.mk (frt F8.out q2); clear q1 q2; obtain ⟨g9, o9, c9', e9, _⟩ := Win.shape1 Q9.out hnb0; injection e9 with ea9 _ ec9; subst ea9; subst ec9; obtain ⟨x9, hx9⟩ := get_some (xs := b) (i := f) (by rw [HNB.out]; exact HF.out); obtain ⟨hc9, hf9⟩ := Q9.out.cell (j := f) (u := .int .u8 x9) (by simp [nums, hx9])))
      obtain ⟨hst, hfst⟩ := Q9.out.store f HF.out (.int .u8 x)
      have hset : (nums .u8 b).set f (.int .u8 x) = nums .u8 (b.set f x) := by simp [nums, List.map_set]
      rw [hset] at hst
      have FX := Aside0.mk (show Fr No w (w9.setCell ⟨g9, o9 + f, none⟩ (.int .u8 x)) from F9.out.trans hfst (fun _ _ h => h) (fun k hk hs => by have := (Q9.out.at_ hs).1; have := F8.out.size; omega))
      generalize w9.setCell ⟨g9, o9 + f, none⟩ (.int .u8 x) = wx at hst hfst FX ⊢
      have QX := Aside0.mk hst
      have HXL := Aside0.mk (show (b.set f x).length = nb from by rw [List.length_set]; exact HNB.out)
      clear hst hfst hset
      refine (sopen_any wx (some ⟨g9, o9, none⟩) nb c9 (b.set f x) (RdV.of_win QX.out) HXL.out HBX.out (fun e => nomatch e) (win_capS QX.out) (by omega)).mono ?_
      rintro e' wy q
      rcases q.sto with ⟨q1, ⟨_, rfl⟩ | ⟨C, d', gs, v, hbd, rfl, hgs, hsd⟩⟩
      · have FY := Aside0.mk (frt FX.out q1)
        clear q q1
        go_wp2_with fail
        go_ret
        exact ⟨rfl, FY.out⟩
      · have FY := Aside0.mk (frt FX.out q1)
        obtain ⟨n', hn'⟩ : ∃ n', d'.length = n' := ⟨_, rfl⟩
        have HDL := Aside0.mk hn'
        have HFN' := Aside0.mk hsd.fine
        have hnm : n' ≤ 16384 := by rw [← hn']; exact hsd.fine.len
        have HBD := Aside0.mk hbd
        obtain ⟨B2, hB2⟩ : ∃ B2, B2 = w8.heap.size := ⟨_, rfl⟩
        obtain ⟨B4, hB4⟩ : ∃ B4, B4 = wx.heap.size := ⟨_, rfl⟩
        have HST := Aside0.mk (show LpS w wy (.slice none 0 0) [] (d'.take 0) B4 gs v C d' B2 (some ⟨g9, o9, none⟩) nb c9 (b.set f x) from ⟨⟨Win.nil _ _ _ _, fun p hp => (nomatch hp)⟩, rfl, by rw [hB4]; exact hsd, by rw [hB2]; exact QX.out.below q1.no, FY.out⟩)
        clear q q1 hbd hsd hgs hB2 hB4 hn'
        go_wp2_with fail
        go_loopw [16, 17] (fun v16 v17 wr => ∃ i : Nat, v17 = .int .i64 i ∧ i ≤ n' ∧ Aside0 (∃ M, LpS w wr v16 M (d'.take i) B4 gs v C d' B2 (some ⟨g9, o9, none⟩) nb c9 (b.set f x))) (fun _ v17 _ => n' - (intOf v17).toNat)
        case atStart => exact ⟨0, rfl, by omega, ⟨[], HST.out⟩⟩
        case round =>
          obtain ⟨i, rfl, hi, HI⟩ := hrel
          obtain ⟨M6, hM⟩ := HI.out
          obtain ⟨wo, rfl⟩ : ∃ wo : World, wo = wr := ⟨_, rfl⟩
          have HM := Aside0.mk hM
          have HML := Aside0.mk (show M6.length = i from by have := congrArg List.length hM.all; rw [List.length_map, List.length_take, HDL.out] at this; omega)
          have HSL := Aside0.mk (SLen_d wo gs n' v (by have h := hM.sto.st; rwa [HDL.out] at h))
          clear hM
          by_cases hlt : i < n'
          · obtain ⟨y, hy⟩ := get_some' (xs := d') (i := i) (by have := HDL.out; omega)
            have HX := Aside0.mk hy
            have HOX := Aside0.mk (HFN'.out.doc (List.mem_of_getElem? hy))
            have HBD2 := Aside0.mk (row_bound (n := i) (by omega))
            clear hy
            obtain ⟨l, hl⟩ : ∃ l, y.length = l := ⟨_, rfl⟩
            have HL := Aside0.mk hl
            clear hl
            go_wp2_with (first | ((with_reducible refine gate_builtin (b := .append) (xs := #[.tmp 88, .tmp 90]) rfl ?_); at_builtin; go_must (refine wpl_append1 w5 w.heap.size rfl (.tmp 88) (.tmp 90) 56 52 (.slice none 0 0) 1 24 rfl Try.underlying56 info52 rfl u16 i (M6.map Prod.fst) [.slice A5 l c5] rfl rfl (by have h := HM.out.row.hdr.below G5.out.no; rwa [HML.out] at h) rfl (by simp [Value.oneCell']) (Nat.le_trans HM.out.fr.size G5.out.size) HBD2.out.1 HBD2.out.2 ?_; intro v7 w7 g1 _ g3 _; have K1 := Aside0.mk g1; have K3 := Aside0.mk g3; clear g1 g3)) | (go_at_call 38; go_must (refine (SDoc_in wo _ gs v C d' HM.out.sto i y HX.out).mono ?_; rintro e' w5 ⟨⟨xv, xd, rfl, q1, q2⟩, q3⟩; obtain ⟨A5, c5, e5⟩ : ∃ A5 c5, xv = .slice A5 l c5 := (by obtain ⟨A5, c5, e5, _⟩ := q2.hdr.shape; have hl : xd.length = l := (by have := congrArg List.length q1; simp at this; rw [this]; exact HL.out); rw [hl] at e5; exact ⟨A5, c5, e5⟩); subst e5; have QW := Aside0.mk q2; have QE := Aside0.mk q1; have G5 := Aside0.mk q3; clear q1 q2 q3)) | (go_at_call 37; go_must (refine HSL.out.mono ?_; rintro e' wz ⟨rfl, hz⟩; have hz' := hz.symm; subst hz')))
            go_roundw
            case rel => exact ⟨i + 1, by simp, by omega, ⟨_, by have h := HM.out.push QW.out QE.out G5.out (by rw [HML.out]; exact K1.out) K3.out; rw [List.take_add_one, HX.out]; exact h⟩⟩
            case measure => simp [intOf]; omega
          · obtain rfl : n' = i := by omega
            have hrow := HM.out.row.hdr
            rw [HML.out] at hrow
            obtain ⟨A6', c6', e6, _⟩ := hrow.shape
            subst e6
            have HALL := Aside0.mk (show M6.map docOf = d' from by rw [HM.out.all, List.take_of_length_le (by have := HDL.out; omega)])
            have HRD := Aside0.mk (HM.out.row.docsR (by rw [HALL.out]; exact HFN'.out) HML.out)
            have HOD' := Aside0.mk HFN'.out.1
            have HBF := Aside0.mk (build_any wo A6' n' c6' M6 HRD.out)
            clear hrow
            go_wp2_with (first | (go_at_call 24; go_must (refine (KBytes_any wm Af (some ⟨g9, o9, none⟩) nb nb cf c9 (b.set f x) (b.set f x) (RdV.of_win Qf.out) (RdV.of_win (HM.out.bts.below FM.out.no)) HXL.out HXL.out (by omega) (by omega) lf (win_capS HM.out.bts)).mono ?_; rw [decide_eq_true rfl]; rintro e' wn ⟨rfl, mn, hmn⟩; have FN := Aside0.mk (show Fr No wm wn from by rw [hmn]; exact Fr.drewN _ _); clear hmn)) | (go_at_call 44; go_must (refine HBF.out.mono ?_; rw [HALL.out, HOD'.out, HBD.out]; rintro e' wm ⟨q0, q1⟩; obtain ⟨v2, rfl, q2⟩ : ∃ v2, e' = .returned v2 ∧ Acc wm wo.heap.size v2 (b.set f x) := (by rcases q0 with ⟨_, h⟩ | ⟨h, _⟩ <;> first | exact h | exact absurd h (by decide)); obtain ⟨Af, cf, ef, lf⟩ := Win.shape q2; rw [HXL.out] at ef lf; subst ef; have Qf := Aside0.mk q2; have FM := Aside0.mk q1; clear q0 q1 q2)) | (go_at_call 37; go_must (refine HSL.out.mono ?_; rintro e' wz ⟨rfl, hz⟩; have hz' := hz.symm; subst hz')))
            go_ret
            exact ⟨rfl, frt HM.out.fr (frt FM.out FN.out)⟩
end Go.Proofs.Ytchcimkmjoegdaa.C
