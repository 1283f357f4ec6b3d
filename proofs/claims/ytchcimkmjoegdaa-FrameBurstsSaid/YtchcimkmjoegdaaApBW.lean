/- kit.ApartBytes, its walk. Conditions: as the theorem states. -/
import Derived.Test.YtchcimkmjoegdaaApB
namespace Go.Proofs.Ytchcimkmjoegdaa.ApB
open Go.RowKit Go.Proofs.YtchcimkmjoegdaaW.PrintWords Go.Proofs.YtchcimkmjoegdaaW.PrintMore Go.Proofs.Ytchcimkmjoegdaa.M Go.Proofs.Ytchcimkmjoegdaa.C
set_option linter.unusedVariables false
set_option linter.unusedSimpArgs false

theorem add_block (ad : Addr) (i : Nat) : (ad.add i).block = ad.block := by unfold Addr.add; split <;> rfl
theorem hdr_cell {S : Nat → Prop} {w W : World} {A : Option Addr} {vals : List Value} {i : Nat} {v : Value} (h : RdV w A vals) (hi : vals[i]? = some v) (hf : Fr S w W) (hS : ∀ k ad, S k → A = some ad → k ≠ ad.block) : ∃ ad, A = some ad ∧ W.cell? (ad.add i) = some v := by
  obtain ⟨ad, e, hc⟩ := h (by intro h0; subst h0; simp at hi)
  refine ⟨ad, e, ?_⟩
  have h1 := hc i v hi
  have h2 := World.block_lt_of_cell? w _ h1
  rw [add_block] at h2
  rw [← h1]
  apply World.cell?_of_block
  rw [add_block]
  exact hf.block _ h2 (fun hs => hS _ _ hs e rfl)
theorem info22 : (Try.prog.info? 22).map (fun i => (i.zero, i.size, i.bytes)) = some (some (.slice none 0 0), 1, 24) := by kernel_rfl
theorem win_pos {W : World} {base n c : Nat} {e : TypeId} {A : Option Addr} {xs : List Value} (h : Win W base e 1 (.slice A n c) n xs) (h0 : 0 < n) : ∃ g off, A = some ⟨g, off, none⟩ := by
  rcases h.2 with ⟨h1, _⟩ | ⟨g, off, cap, cur, he, _⟩
  · omega
  · injection he with h1
    exact ⟨g, off, h1⟩
set_option maxRecDepth 100000 in
set_option maxHeartbeats 8000000 in
theorem any (w : World) (base : Nat) (A : Option Addr) (c N : Nat) (L : List (Value × Nat)) (hN : L.length = N) (hH : RdV w A (L.map Prod.fst)) (hL : ∀ (j : Nat) (v : Value) (n : Nat), L[j]? = some (v, n) → n ≤ 70368744177664 ∧ ∃ xs, Win w base 5 1 v n xs) (hS : SepL L)
    (hA : ∀ k ad, UL L k → A = some ad → k ≠ ad.block) (hc : N ≤ c) (hlen : N ≤ 1000000) (hb : base ≤ w.heap.size) :
    Calls Try.prog 33 #[.slice A N c] w fun e w' => e = .returned (.bool true) ∧ Fr (UL L) w w' := by
  have HNL := Aside0.mk hN
  have HH := Aside0.mk hH
  have HL := Aside0.mk hL
  have HS := Aside0.mk hS
  have HA := Aside0.mk hA
  have hlt : ∀ k, UL L k → k < w.heap.size := fun k hk => by
    obtain ⟨j, v, n, hj, hk⟩ := hk
    obtain ⟨_, xs, hw⟩ := hL j v n hj
    exact (hw.at_ hk).2.1
  have HLT := Aside0.mk hlt
  have hrow : ∀ i, i < N → ∃ Ai ni ci, L[i]? = some (.slice Ai ni ci, ni) ∧ ni ≤ 70368744177664 := fun i hi => by
    obtain ⟨⟨v, n⟩, hj⟩ : ∃ p, L[i]? = some p := ⟨_, List.getElem?_eq_getElem (by omega)⟩
    obtain ⟨h1, xs, hw⟩ := hL i v n hj
    obtain ⟨Ai, ci, rfl, _⟩ := hw.shape
    exact ⟨Ai, n, ci, hj, h1⟩
  have HROW := Aside0.mk hrow
  have HB := Aside0.mk hb
  clear hN hH hL hS hA hlt hrow hb
  go_enter Try.func33, Try.ntmps33
  go_wp2_with fail
  go_loopw [3] (fun v3 wr => ∃ i : Nat, v3 = .int .i64 i ∧ i ≤ N ∧ Aside0 (AllA base L i 0 wr) ∧ Aside0 (Fr (UL L) w wr)) (fun v3 _ => N - (intOf v3).toNat)
  case atStart => exact ⟨0, rfl, by omega, ⟨fun j v n hj => by obtain ⟨_, xs, hw⟩ := HL.out j v n hj; exact ⟨xs, hw, fun h => absurd h (Nat.not_lt_zero _), fun _ q h => absurd h (Nat.not_lt_zero _)⟩⟩, ⟨Fr.refl _ _⟩⟩
  case round =>
    obtain ⟨i, rfl, hi, HW, HF⟩ := hrel
    by_cases hin : i < N
    · obtain ⟨Ai, ni, ci, hri, hni⟩ := HROW.out i hin
      have HRI := Aside0.mk hri
      clear hri
      obtain ⟨wo, rfl⟩ : ∃ wo : World, wo = wr := ⟨_, rfl⟩
      go_wp2_with fail
      go_loopw [4] (fun v4 wr => ∃ k : Nat, v4 = .int .i64 k ∧ k ≤ ni ∧ Aside0 (AllA base L i k wr) ∧ Aside0 (Fr (UL L) w wr)) (fun v4 _ => ni - (intOf v4).toNat)
      case atStart => exact ⟨0, rfl, by omega, HW, HF⟩
      case round =>
        obtain ⟨k, rfl, hk, HWk, HFk⟩ := hrel
        obtain ⟨ad, eA, hcell⟩ := hdr_cell HH.out (i := i) (v := .slice Ai ni ci) (by simp [HRI.out]) HFk.out HA.out
        by_cases hkn : k < ni
        · obtain ⟨xs, hw, _, _⟩ := HWk.out i _ ni HRI.out
          obtain ⟨g, off, rfl⟩ := win_pos hw (by omega)
          obtain ⟨u, hu⟩ : ∃ u, xs[k]? = some u := ⟨_, List.getElem?_eq_getElem (by have := hw.1; omega)⟩
          obtain ⟨hc1, hf1⟩ := hw.cell hu
          have HST := Aside0.mk (HWk.out.store HS.out HRI.out hkn)
          clear hw hu
          go_wp2_with fail
          go_roundw
          case rel => exact ⟨k + 1, by simp, by omega, ⟨HST.out.1⟩, ⟨HFk.out.trans HST.out.2 (fun _ _ h => h) (fun _ _ h => h)⟩⟩
          case measure => simp [intOf]; omega
        · have HNX := Aside0.mk (HWk.out.next HRI.out (by omega))
          go_wp2_with fail
          go_roundw
          case rel => exact ⟨i + 1, by simp, by omega, HNX, HFk⟩
          case measure => simp [intOf]; omega
    · -- the second loop
      obtain rfl : N = i := by omega
      have HD := Aside0.mk (fun (j n : Nat) (v : Value) (hj : L[j]? = some (v, n)) => HW.out.done (by have := HNL.out; omega) hj)
      clear HW
      obtain ⟨wo, rfl⟩ : ∃ wo : World, wo = wr := ⟨_, rfl⟩
      go_wp2_with fail
      go_loopw [5, 6] (fun v5 v6 wr => ∃ (i : Nat) (M : List Value), v6 = .int .i64 i ∧ i ≤ N ∧ Aside0 (M.length = i) ∧ Aside0 (AfterB (base := base) (L := L) w.heap.size w M v5 wr)) (fun _ v6 _ => N - (intOf v6).toNat)
      case atStart => exact ⟨0, [], rfl, by omega, ⟨rfl⟩, ⟨⟨fun j v n hj => HD.out j n v hj, fun j m v n hm => by simp at hm, fun i j m m' k _ hm => by simp at hm, Win.nil _ _ _ _, HF.out⟩⟩⟩
      case round =>
        obtain ⟨i, M, rfl, hi, HM, HAB⟩ := hrel
        by_cases hin : i < N
        · obtain ⟨Ai, ni, ci, hri, hni⟩ := HROW.out i hin
          have HRI := Aside0.mk hri
          clear hri
          obtain ⟨ad, eA, hcell⟩ := hdr_cell HH.out (i := i) (v := .slice Ai ni ci) (by simp [HRI.out]) HAB.out.fr HA.out
          obtain ⟨wq, rfl⟩ : ∃ wq : World, wq = wr := ⟨_, rfl⟩
          go_wp2_with fail
          clear eA hcell
          go_loopw [7, 8] (fun v7 v8 wr => ∃ k : Nat, v8 = .int .i64 k ∧ k ≤ 70 ∧ Aside0 (AfterB (base := base) (L := L) w.heap.size w M u5 wr) ∧ Aside0 (LRow w.heap.size M u5 (.slice Ai ni ci) ni k v7) ∧ Aside0 (Win wr base 5 1 v7 (ni + k) (nums .u8 (mkA i ni ++ mkB i k)))) (fun _ v8 _ => 70 - (intOf v8).toNat)
          case atStart => exact ⟨0, rfl, by omega, HAB, ⟨.inl ⟨Ai, ci, rfl, rfl⟩⟩, ⟨by simpa [mkB] using HAB.out.all i _ ni HRI.out⟩⟩
          case round =>
            obtain ⟨k, rfl, hk, HABk, HLR, HLW⟩ := hrel
            by_cases hkn : k < 70
            · have H6 := Aside0.mk (small_bound (n := ni + k + 1) (by omega))
              have HBS := Aside0.mk (Nat.le_trans HB.out HABk.out.fr.size)
              go_wp2_with (at_builtin; go_must (refine wpl_append1b wr base rfl (.tmp 53) (.tmp 59) 22 5 (.int .u8 0) 1 1 rfl Try.underlying22 info5 rfl u7 (ni + k) _ [.int .u8 ((11 * (i : Int) + k) % 256)] rfl rfl HLW.out rfl (by simp [Value.oneCell']) HBS.out H6.out.1 H6.out.2 ?_; intro v1 w1 g1 g3 g4; have G := Aside0.mk (HABk.out.grow HS.out (fun k hk => HLT.out k hk) HRI.out HM.out rfl HLR.out HLW.out g1 rfl g3 g4); clear g1 g3 g4))
              go_roundw
              case rel => exact ⟨k + 1, by simp, by omega, ⟨G.out.1⟩, ⟨G.out.2.1⟩, ⟨G.out.2.2⟩⟩
              case measure => simp [intOf]; omega
            · obtain rfl : k = 70 := by omega
              obtain ⟨A7, c7, e7, l7⟩ := HLW.out.shape
              subst e7
              have H6 := Aside0.mk (show M.length + 1 ≤ maxLen ∧ (M.length + 1 + (M.length + 1) / 4 + 700) * 24 ≤ 281474976710656 from by have := HM.out; simp only [maxLen]; omega)
              go_wp2_with (at_builtin; go_must (refine wpl_append1 wr w.heap.size rfl (.tmp 61) (.tmp 63) 42 22 (.slice none 0 0) 1 24 rfl Try.underlying42 info22 rfl u5 M.length M [.slice A7 (ni + 70) c7] rfl rfl HABk.out.hdr rfl (by simp [Value.oneCell']) HABk.out.fr.size H6.out.1 H6.out.2 ?_; intro v1 w1 g1 _ g3 _; have G := Aside0.mk (HABk.out.snoc HS.out (fun k hk => HLT.out k hk) HRI.out HM.out rfl HLR.out HLW.out g1 g3); clear g1 g3))
              go_roundw
              case rel => exact ⟨i + 1, M ++ [.slice A7 (ni + 70) c7], by simp, by omega, ⟨by simp [HM.out]⟩, G⟩
              case measure => simp [intOf]; omega
        · -- the third loop
          obtain rfl : N = i := by omega
          obtain ⟨A5, c5, e5, l5⟩ := HAB.out.hdr.shape
          rw [HM.out] at e5 l5
          subst e5
          go_wp2_with fail
          go_loop [9] (fun v9 => ∃ i : Nat, v9 = .int .i64 i ∧ i ≤ N) (fun v9 => N - (intOf v9).toNat)
          case atStart => exact ⟨0, rfl, by omega⟩
          case round =>
            obtain ⟨i, rfl, hi⟩ := hrel
            by_cases hin : i < N
            · obtain ⟨Ai, ni, ci, hri, hni⟩ := HROW.out i hin
              have HRI := Aside0.mk hri
              clear hri
              obtain ⟨m, hm⟩ : ∃ m, M[i]? = some m := ⟨_, List.getElem?_eq_getElem (by have := HM.out; omega)⟩
              have HMI := Aside0.mk hm
              have HWA := Aside0.mk (HAB.out.all i _ ni HRI.out)
              have HWM := Aside0.mk (HAB.out.more i m _ ni hm HRI.out).1
              obtain ⟨Am, cm, em, lm⟩ := HWM.out.shape
              subst em
              obtain ⟨ad, eA, hcell⟩ := hdr_cell HH.out (i := i) (v := .slice Ai ni ci) (by simp [HRI.out]) HAB.out.fr HA.out
              obtain ⟨ad5, eA5, hcell5⟩ : ∃ ad5, A5 = some ad5 ∧ wr.cell? (ad5.add i) = some (.slice Am (ni + 70) cm) := by
                obtain ⟨ad5, e, hc⟩ := HAB.out.hdr.cells (by have := HM.out; omega)
                exact ⟨ad5, e, hc i _ HMI.out⟩
              have EA := Aside0.mk eA
              have EA5 := Aside0.mk eA5
              have HC := Aside0.mk hcell
              have HC5 := Aside0.mk hcell5
              clear hcell5 eA5 hm
              go_wp2_with fail
              clear eA hcell
              go_loop [11] (fun v11 => ∃ k : Nat, v11 = .int .i64 k ∧ k ≤ ni) (fun v11 => ni - (intOf v11).toNat)
              case atStart => exact ⟨0, rfl, by omega⟩
              case round =>
                obtain ⟨k, rfl, hk⟩ := hrel
                by_cases hkn : k < ni
                · obtain ⟨a1, e1, h1⟩ := HWA.out.cells (by omega)
                  have k1 := h1 k (.int .u8 ((37 * (i : Int) + k) % 256)) (by simp [nums, mkA_get _ _ _ hkn]; rfl)
                  obtain ⟨a2, e2, h2⟩ := HWM.out.cells (by omega)
                  have k2 := h2 k (.int .u8 ((37 * (i : Int) + k) % 256)) (by rw [nums_append, List.getElem?_append_left (by rw [nums_length, mkA_len]; exact hkn)]; simp [nums, mkA_get _ _ _ hkn]; rfl)
                  have eA := EA.out
                  have eA5 := EA5.out
                  have hcell := HC.out
                  have hcell5 := HC5.out
                  clear h1 h2
                  go_wp2_with fail
                  go_round
                  case rel => exact ⟨k + 1, by simp, by omega⟩
                  case measure => simp [intOf]; omega
                · go_wp2_with fail
                  go_loop [12] (fun v12 => ∃ k : Nat, v12 = .int .i64 k ∧ k ≤ 70) (fun v12 => 70 - (intOf v12).toNat)
                  case atStart => exact ⟨0, rfl, by omega⟩
                  case round =>
                    obtain ⟨k, rfl, hk⟩ := hrel
                    by_cases hkn : k < 70
                    · obtain ⟨a2, e2, h2⟩ := HWM.out.cells (by omega)
                      have k2 := h2 (ni + k) (.int .u8 ((11 * (i : Int) + k) % 256)) (by rw [nums_append, List.getElem?_append_right (by rw [nums_length, mkA_len]; omega), nums_length, mkA_len, Nat.add_sub_cancel_left]; simp [nums, mkB_get _ _ _ hkn]; rfl)
                      have eA5 := EA5.out
                      have hcell5 := HC5.out
                      clear h2
                      go_wp2_with fail
                      go_round
                      case rel => exact ⟨k + 1, by simp, by omega⟩
                      case measure => simp [intOf]; omega
                    · go_wp2_with fail
                      exact ⟨⟨u2, .int .i64 ((i : Int) + 1), ⟨i + 1, by simp, by omega⟩, EA.out.symm, rfl, rfl, EA.out.symm⟩, by simp [intOf]; omega⟩
            · go_wp2_with fail
              go_ret
              exact ⟨rfl, HAB.out.fr⟩
end Go.Proofs.Ytchcimkmjoegdaa.ApB
