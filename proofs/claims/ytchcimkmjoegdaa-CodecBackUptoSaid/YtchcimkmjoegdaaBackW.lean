/- CodecBack's walk: true for any values put and read back, whole and cut short. Conditions: at most 2^20 of each; texts of at most 2^20 bytes. -/
import Derived.Test.YtchcimkmjoegdaaBackB
import Derived.Deep.RegionWith
namespace Go.Proofs.Ytchcimkmjoegdaa.C
open Go.RowKit Go.Proofs.YtchcimkmjoegdaaW.PrintWords Go.Proofs.YtchcimkmjoegdaaW.PrintMore Go.Proofs.Ytchcimkmjoegdaa.M
set_option linter.unusedVariables false
set_option linter.unusedSimpArgs false

set_option maxRecDepth 100000 in
set_option maxHeartbeats 1000000 in
theorem CodecBack_long (w : World) (A1 A2 A3 : Option Addr) (n1 n2 n3 c1 c2 c3 : Nat) (at_ : Int) (h1 : n1 ≤ 1048576) (h2 : n2 ≤ 1048576) (h3 : n3 ≤ 1048576) (hl : 200 < n1 + n2 + n3) :
    Calls Try.prog 5 #[.slice A1 n1 c1, .slice A2 n2 c2, .slice A3 n3 c3, .int .i64 at_] w fun e w' => e = .returned (.bool true) ∧ Below w.heap.size w w' := by
  go_enter Try.func5, Try.ntmps5
  go_wp2_with (first | (go_at_call 23; go_must (refine (awake2_any _).mono ?_; rintro e' w1 ⟨rfl, q1⟩; have F1 := Aside0.mk q1; clear q1)))
  go_ret
  exact ⟨rfl, F1.out.no⟩
def HidR (w : World) (wr : World) (v : Value) (ys : List Int) : Prop := Acc wr w.heap.size v ys ∧ Fr No w wr
set_option maxRecDepth 100000 in
set_option maxHeartbeats 8000000 in
theorem CodecBack_short (w : World) (A1 A2 A3 : Option Addr) (n1 n2 n3 c1 c2 c3 : Nat) (us is : List Int) (ts : List ByteArray) (at_ : Int)
    (r1 : RdV w A1 (nums .u64 us)) (r2 : RdV w A2 (nums .i64 is)) (r3 : RdV w A3 (ts.map .string)) (l1 : us.length = n1) (l2 : is.length = n2) (l3 : ts.length = n3) (k1 : n1 ≤ c1) (k2 : n2 ≤ c2) (k3 : n3 ≤ c3)
    (b1 : ∀ u ∈ us, 0 ≤ u ∧ u < 18446744073709551616) (b2 : ∀ q ∈ is, -9223372036854775808 ≤ q ∧ q ≤ 9223372036854775807) (b3 : ∀ s ∈ ts, s.size ≤ 1048576) (ha0 : -9223372036854775808 ≤ at_) (ha1 : at_ ≤ 9223372036854775807) (hl : n1 + n2 + n3 ≤ 200) :
    Calls Try.prog 5 #[.slice A1 n1 c1, .slice A2 n2 c2, .slice A3 n3 c3, .int .i64 at_] w fun e w' => e = .returned (.bool true) ∧ Below w.heap.size w w' := by
  have R1 := Aside0.mk r1
  have R2 := Aside0.mk r2
  have R3 := Aside0.mk r3
  have L1 := Aside0.mk l1
  have L2 := Aside0.mk l2
  have L3 := Aside0.mk l3
  have B1 := Aside0.mk b1
  have B2 := Aside0.mk b2
  have B3 := Aside0.mk b3
  have T1 := Aside0.mk (fun i => show (bU (us.take i)).length ≤ 2000 from by
    have h := flat_len (fun u : Int => uenc u.toNat) 10 (us.take i) (fun x hx => uenc_10 _ (by have := b1 x (List.mem_of_mem_take hx); omega))
    rw [List.length_take] at h
    unfold bU
    omega)
  have T2 := Aside0.mk (fun i => show (bI (is.take i)).length ≤ 2000 from by
    have h := flat_len (fun q : Int => uenc (Lib.zigzag q)) 10 (is.take i) (fun x hx => uenc_10 _ (by have := b2 x (List.mem_of_mem_take hx); exact zig_64 x this.1 this.2))
    rw [List.length_take] at h
    unfold bI
    omega)
  have T3 := Aside0.mk (fun i => show (bT (ts.take i)).length ≤ 209717200 from by
    have h := flat_len (fun s : ByteArray => uenc s.size ++ bytesOf s) 1048586 (ts.take i) (fun x hx => by
      have hb := b3 x (List.mem_of_mem_take hx)
      have := uenc_10 x.size (by omega)
      rw [List.length_append, bytesOf_length]
      omega)
    rw [List.length_take] at h
    unfold bT
    omega)
  clear r1 r2 r3 l1 l2 l3 b1 b2 b3
  go_enter Try.func5, Try.ntmps5
  go_wp2_with (first | (go_at_call 23; go_must (refine (awake2_any _).mono ?_; rintro e' w0 ⟨rfl, q1⟩; have F0 := Aside0.mk q1; clear q1)))
  go_loopw [9, 10] (fun v9 v10 wr => ∃ i : Nat, v10 = .int .i64 i ∧ i ≤ n1 ∧ Aside0 (HidR w wr v9 (bU (us.take i)))) (fun _ v10 _ => n1 - (intOf v10).toNat)
  case atStart => exact ⟨0, rfl, by omega, ⟨Acc.of (Win.nil _ _ _ _), F0.out⟩⟩
  case round =>
    obtain ⟨i, rfl, hi, HR⟩ := hrel
    by_cases hlt : i < n1
    · obtain ⟨x, hx⟩ := get_some (xs := us) (i := i) (by have := L1.out; omega)
      obtain ⟨ad, eA, hcell⟩ := rd_at (R1.out.below HR.out.2.no) hx
      subst eA
      have HX := Aside0.mk hx
      clear hx
      go_wp2_with (first | (go_at_call 25; go_must (refine (put_step_u wr w.heap.size u9 _ x HR.out.1 HR.out.2.size (B1.out x (List.mem_of_getElem? HX.out)) (by have := T1.out i; omega)).mono ?_; rintro e' w1 ⟨v', rfl, q1, q2⟩; have Q1 := Aside0.mk q1; have Q2 := Aside0.mk q2; clear q1 q2)))
      go_roundw
      case rel => exact ⟨i + 1, by simp, by omega, ⟨by unfold bU; rw [flat_take _ HX.out]; exact Q1.out, HR.out.2.trans Q2.out (fun _ _ h => h) (fun _ _ h => h)⟩⟩
      case measure => simp [intOf]; omega
    · obtain rfl : n1 = i := by omega
      obtain ⟨wo, rfl⟩ : ∃ wo : World, wo = wr := ⟨_, rfl⟩
      have HR0 := Aside0.mk (show HidR w wo u9 (bU us) from by have := HR.out; rwa [List.take_of_length_le (by have := L1.out; omega)] at this)
      clear HR
      go_wp2_with fail
      go_loopw [9, 11] (fun v9 v11 wr => ∃ i : Nat, v11 = .int .i64 i ∧ i ≤ n2 ∧ Aside0 (HidR w wr v9 (bU us ++ bI (is.take i)))) (fun _ v11 _ => n2 - (intOf v11).toNat)
      case atStart => exact ⟨0, rfl, by omega, ⟨by have := HR0.out; simpa [bI] using this⟩⟩
      case round =>
        obtain ⟨i, rfl, hi2, HR⟩ := hrel
        by_cases hlt2 : i < n2
        · obtain ⟨x, hx⟩ := get_some (xs := is) (i := i) (by have := L2.out; omega)
          obtain ⟨ad, eA, hcell⟩ := rd_at (R2.out.below HR.out.2.no) hx
          subst eA
          have HX := Aside0.mk hx
          clear hx
          go_wp2_with (first | (go_at_call 26; go_must (refine (put_step_i wr w.heap.size u9 _ x HR.out.1 HR.out.2.size (B2.out x (List.mem_of_getElem? HX.out)) (by have := T2.out i; have := T1.out n1; rw [List.take_of_length_le (by have := L1.out; omega)] at this; rw [List.length_append]; omega)).mono ?_; rintro e' w1 ⟨v', rfl, q1, q2⟩; have Q1 := Aside0.mk q1; have Q2 := Aside0.mk q2; clear q1 q2)))
          go_roundw
          case rel => exact ⟨i + 1, by simp, by omega, ⟨by unfold bI; rw [flat_take _ HX.out, ← List.append_assoc]; exact Q1.out, HR.out.2.trans Q2.out (fun _ _ h => h) (fun _ _ h => h)⟩⟩
          case measure => simp [intOf]; omega
        · obtain rfl : n2 = i := by omega
          obtain ⟨wp, rfl⟩ : ∃ wp : World, wp = wr := ⟨_, rfl⟩
          have HR1 := Aside0.mk (show HidR w wp u9 (bU us ++ bI is) from by have := HR.out; rwa [List.take_of_length_le (l := is) (by have := L2.out; omega)] at this)
          clear HR HR0
          go_wp2_with fail
          go_loopw [9, 12] (fun v9 v12 wr => ∃ i : Nat, v12 = .int .i64 i ∧ i ≤ n3 ∧ Aside0 (HidR w wr v9 (bU us ++ bI is ++ bT (ts.take i)))) (fun _ v12 _ => n3 - (intOf v12).toNat)
          case atStart => exact ⟨0, rfl, by omega, ⟨by have := HR1.out; simpa [bT] using this⟩⟩
          case round =>
            obtain ⟨i, rfl, hi3, HR⟩ := hrel
            by_cases hlt3 : i < n3
            · obtain ⟨x, hx⟩ := get_some' (xs := ts) (i := i) (by have := L3.out; omega)
              obtain ⟨ad, eA, hcell⟩ := rdv_at (R3.out.below HR.out.2.no) hx
              subst eA
              have HX := Aside0.mk hx
              clear hx
              go_wp2_with (first | (go_at_call 28; go_must (refine (put_step_t wr w.heap.size u9 _ x HR.out.1 HR.out.2.size (by have := B3.out x (List.mem_of_getElem? HX.out); omega) (by have := T3.out i; have t2 := T2.out n2; have t1 := T1.out n1; rw [List.take_of_length_le (by have := L1.out; omega)] at t1; rw [List.take_of_length_le (by have := L2.out; omega)] at t2; simp only [List.length_append]; omega)).mono ?_; rintro e' w1 ⟨v', rfl, q1, q2⟩; have Q1 := Aside0.mk q1; have Q2 := Aside0.mk q2; clear q1 q2)))
              go_roundw
              case rel => exact ⟨i + 1, by simp, by omega, ⟨by unfold bT; rw [flat_take _ HX.out, ← List.append_assoc]; exact Q1.out, HR.out.2.trans Q2.out (fun _ _ h => h) (fun _ _ h => h)⟩⟩
              case measure => simp [intOf]; omega
            · obtain rfl : n3 = i := by omega
              obtain ⟨wq, rfl⟩ : ∃ wq : World, wq = wr := ⟨_, rfl⟩
              have HR2 := Aside0.mk (show HidR w wq u9 (bU us ++ bI is ++ bT ts) from by have := HR.out; rwa [List.take_of_length_le (l := ts) (by have := L3.out; omega)] at this)
              clear HR HR1
              obtain ⟨A, c, rfl, hc⟩ := HR2.out.1.shape
              obtain ⟨xs, hxs⟩ : ∃ xs, xs = bU us ++ bI is ++ bT ts := ⟨_, rfl⟩
              rw [← hxs] at HR2 hc ⊢
              have HXS := Aside0.mk hxs
              clear hxs
              obtain ⟨n, hn⟩ : ∃ n, n = xs.length := ⟨_, rfl⟩
              rw [← hn] at hc ⊢
              have HN := Aside0.mk hn
              have hmax : n ≤ 9223372036854775807 := by rw [hn]; exact HR2.out.1.max
              clear hn
              by_cases hbig : 20000 < n
              · go_wp2_with fail
                go_ret
                exact ⟨rfl, HR2.out.2.no⟩
              have hle : n ≤ 20000 := by omega
              clear hbig
              obtain ⟨k, hk, hcase⟩ := cut_place at_ n ha0 ha1 hle
              obtain ⟨i0, hi0, _⟩ := info_parts info5
              have HA := Aside0.mk (RdV.of_win HR2.out.1)
              have HC0 := Aside0.mk (show A = none → c = 0 from fun e => by subst e; exact Win.nil_cap HR2.out.1)
              have CU := Aside0.mk (cuth (P := Try.prog) 22 5 .i64 Try.underlying22 hi0 A n c k (by omega))
              have BX := Aside0.mk (show Byt xs from by rw [HXS.out]; exact ((byt_flat _ (fun _ => byt_uenc _) _).app (byt_flat _ (fun _ => byt_uenc _) _)).app (byt_flat (fun s : ByteArray => uenc s.size ++ bytesOf s) (fun x => (byt_uenc x.size).app (byt_str x)) ts))
              have N1 := Aside0.mk (NewReader_any wq A k c (xs.take k) (by have := HA.out.take k; rwa [nums_take] at this) (by rw [List.length_take, ← HN.out]; omega) HC0.out (by omega) (by omega))
              have N2 := Aside0.mk (fun W (h : Fr No wq W) => NewReader_any W A n c xs (HA.out.below h.no) HN.out.symm HC0.out hc (by omega))
              have HKN := Aside0.mk (show n = 0 ∨ (0 < n ∧ k < n) from hcase.imp (fun h => h.1) (fun h => ⟨h.1, h.2.1⟩))
              clear hi0
              rcases hcase with ⟨hz, hw⟩ | ⟨hz, hkn, ⟨hneg, hw⟩ | ⟨hneg, hw⟩⟩
              case' inl => subst hz; have hcut : ∀ W : World, (Instr.slice 22 (.slice A 0 c) none (some (.int .i64 0)) none).run Try.prog W = .ok (.slice A k c) W := fun W => (by have h := CU.out W; rw [show ((k : Nat) : Int) = 0 from by omega] at h; exact h); clear hw hk
              case' inr.inl => have hcut := CU.out; rw [← hw] at hcut; clear hw
              case' inr.inr => have hcut := CU.out; rw [← hw] at hcut; clear hw
              all_goals
                go_wp2_with (first | (go_at_call 18; refine (N2.out w1 Q1.out.2).mono ?_; rintro e' w2 ⟨g2, rfl, q1, q2⟩; have Q2 := Aside0.mk (show HidT w w2 g1 g2 xs k [] from ⟨two_start HR2.out.2.size Q1.out.1 Q1.out.2 q1 q2, accNo (accNo HR2.out.2.no (Nat.le_refl _) Q1.out.2) (Nat.le_refl _) q2⟩); clear q1 q2) | (go_at_call 18; go_must (refine N1.out.mono ?_; rintro e' w1 ⟨g1, rfl, q1⟩; have Q1 := Aside0.mk q1; clear q1)))
              all_goals
                go_loopw [17, 18] (fun v17 v18 wr => ∃ i : Nat, v17 = .bool true ∧ v18 = .int .i64 i ∧ i ≤ n1 ∧ Aside0 (HidT w wr g1 g2 xs k (bU (us.take i)))) (fun _ v18 _ => n1 - (intOf v18).toNat)
                case atStart => exact ⟨0, rfl, rfl, by omega, ⟨by have := Q2.out; simpa [bU] using this⟩⟩
                case round =>
                  obtain ⟨i, rfl, rfl, hj1, HR⟩ := hrel
                  by_cases hlu1 : i < n1
                  · obtain ⟨x, hx⟩ := get_some (xs := us) (i := i) (by have := L1.out; omega)
                    obtain ⟨ad, eA, hcell⟩ := rd_at (R1.out.below HR.out.2) hx
                    subst eA
                    have HX := Aside0.mk hx
                    clear hx
                    have hsp := split_u HXS.out HX.out
                    obtain ⟨post, hpost⟩ := hsp
                    have HP := Aside0.mk hpost
                    clear hpost
                    go_wp2_with (first | (go_at_call 19; go_must (refine (two_cut_u HR.out.1 BX.out HR.out.2.size x.toNat (by rw [M64_eq]; have := (B1.out x (List.mem_of_getElem? HX.out)); omega) HP.out rfl).mono ?_; rintro e' w3 ⟨⟨z, rfl⟩, q1, q2⟩; have Q1 := Aside0.mk q1; have Q2 := Aside0.mk (show Below w.heap.size w w3 from HR.out.2.trans q2); have hc3 := rd_some (R1.out.below Q2.out) HX.out; clear q1 q2)))
                    go_region_held3 (fun w' => w'.cell? (ad.add i) = some (.int .u64 x)) (first | exact (by simpa using hc3) | assumption) (first | (go_at_call 19; refine (two_full_x (Q1.out.below (below_drew (Below.refl _ _))) BX.out (show w.heap.size ≤ w3.drew.heap.size from (below_drew Q2.out).size) x (B1.out x (List.mem_of_getElem? HX.out)) HP.out rfl).mono ?_; rintro e' w4 ⟨rfl, q1, q2⟩; have Q4 := Aside0.mk q1; have Q5 := Aside0.mk (show Below w.heap.size w w4 from (below_drew Q2.out).trans q2); have hc4 := rd_some (R1.out.below Q5.out) HX.out; clear q1 q2))
                    go_wp2_with fail
                    go_roundw
                    case rel => exact ⟨i + 1, rfl, by simp, by omega, ⟨by unfold bU; rw [flat_take _ HX.out]; exact hidT_step Q4.out Q5.out⟩⟩
                    case measure => simp [intOf]; omega
                  · obtain rfl : n1 = i := by omega
                    obtain ⟨wa, rfl⟩ : ∃ wz : World, wz = wr := ⟨_, rfl⟩
                    have Q2' := Aside0.mk (show HidT w wa g1 g2 xs k (bU us) from by have := HR.out; rwa [List.take_of_length_le (l := us) (by have := L1.out; omega)] at this)
                    clear HR
                    go_wp2_with fail
                    go_loopw [17, 19] (fun v17 v19 wr => ∃ i : Nat, v17 = .bool true ∧ v19 = .int .i64 i ∧ i ≤ n2 ∧ Aside0 (HidT w wr g1 g2 xs k (bU us ++ bI (is.take i)))) (fun _ v19 _ => n2 - (intOf v19).toNat)
                    case atStart => exact ⟨0, rfl, rfl, by omega, ⟨by have := Q2'.out; simpa [bI] using this⟩⟩
                    case round =>
                      obtain ⟨i, rfl, rfl, hj2, HR⟩ := hrel
                      by_cases hlu2 : i < n2
                      · obtain ⟨x, hx⟩ := get_some (xs := is) (i := i) (by have := L2.out; omega)
                        obtain ⟨ad, eA, hcell⟩ := rd_at (R2.out.below HR.out.2) hx
                        subst eA
                        have HX := Aside0.mk hx
                        clear hx
                        have hsp := split_i HXS.out HX.out
                        obtain ⟨post, hpost⟩ := hsp
                        have HP := Aside0.mk hpost
                        clear hpost
                        go_wp2_with (first | (go_at_call 21; go_must (refine (two_cut_i HR.out.1 BX.out HR.out.2.size _ (by have := (B2.out x (List.mem_of_getElem? HX.out)); exact zig_64 x this.1 this.2) HP.out rfl).mono ?_; rintro e' w3 ⟨⟨z, rfl⟩, q1, q2⟩; have Q1 := Aside0.mk q1; have Q2 := Aside0.mk (show Below w.heap.size w w3 from HR.out.2.trans q2); have hc3 := rd_some (R2.out.below Q2.out) HX.out; clear q1 q2)))
                        go_region_held3 (fun w' => w'.cell? (ad.add i) = some (.int .i64 x)) (first | exact (by simpa using hc3) | assumption) (first | (go_at_call 21; refine (two_full_i (Q1.out.below (below_drew (Below.refl _ _))) BX.out (show w.heap.size ≤ w3.drew.heap.size from (below_drew Q2.out).size) x (by have := (B2.out x (List.mem_of_getElem? HX.out)); exact zig_64 x this.1 this.2) HP.out rfl).mono ?_; rintro e' w4 ⟨rfl, q1, q2⟩; have Q4 := Aside0.mk q1; have Q5 := Aside0.mk (show Below w.heap.size w w4 from (below_drew Q2.out).trans q2); have hc4 := rd_some (R2.out.below Q5.out) HX.out; clear q1 q2))
                        go_wp2_with fail
                        go_roundw
                        case rel => exact ⟨i + 1, rfl, by simp, by omega, ⟨by unfold bI; rw [flat_take _ HX.out, ← List.append_assoc]; exact hidT_step Q4.out Q5.out⟩⟩
                        case measure => simp [intOf]; omega
                      · obtain rfl : n2 = i := by omega
                        obtain ⟨wb, rfl⟩ : ∃ wz : World, wz = wr := ⟨_, rfl⟩
                        have Q2'' := Aside0.mk (show HidT w wb g1 g2 xs k (bU us ++ bI is) from by have := HR.out; rwa [List.take_of_length_le (l := is) (by have := L2.out; omega)] at this)
                        clear HR
                        go_wp2_with fail
                        go_loopw [17, 20] (fun v17 v20 wr => ∃ i : Nat, v17 = .bool true ∧ v20 = .int .i64 i ∧ i ≤ n3 ∧ Aside0 (HidT w wr g1 g2 xs k (bU us ++ bI is ++ bT (ts.take i)))) (fun _ v20 _ => n3 - (intOf v20).toNat)
                        case atStart => exact ⟨0, rfl, rfl, by omega, ⟨by have := Q2''.out; simpa [bT] using this⟩⟩
                        case round =>
                          obtain ⟨i, rfl, rfl, hj3, HR⟩ := hrel
                          by_cases hlu3 : i < n3
                          · obtain ⟨x, hx⟩ := get_some' (xs := ts) (i := i) (by have := L3.out; omega)
                            obtain ⟨ad, eA, hcell⟩ := rdv_at (R3.out.below HR.out.2) hx
                            subst eA
                            have HX := Aside0.mk hx
                            clear hx
                            have hsp := split_t HXS.out HX.out
                            obtain ⟨post, hpost⟩ := hsp
                            have HP := Aside0.mk hpost
                            clear hpost
                            go_wp2_with (first | (go_at_call 34; go_must (refine (two_cut_t HR.out.1 BX.out HR.out.2.size x (by rw [M64_eq]; have := (B3.out x (List.mem_of_getElem? HX.out)); omega) HP.out rfl).mono ?_; rintro e' w3 ⟨⟨z, rfl⟩, q1, q2⟩; have Q1 := Aside0.mk q1; have Q2 := Aside0.mk (show Below w.heap.size w w3 from HR.out.2.trans q2); have hc3 := rdv_some (R3.out.below Q2.out) HX.out; clear q1 q2)))
                            go_region_held3 (fun w' => w'.cell? (ad.add i) = some (.string x)) (first | exact (by simpa using hc3) | assumption) (first | (go_at_call 34; refine (two_full_t (Q1.out.below (below_drew (Below.refl _ _))) BX.out (show w.heap.size ≤ w3.drew.heap.size from (below_drew Q2.out).size) x (by rw [M64_eq]; have := (B3.out x (List.mem_of_getElem? HX.out)); omega) (text_small HXS.out HX.out (by have := HN.out; omega)) HP.out rfl).mono ?_; rintro e' w4 ⟨rfl, q1, q2⟩; have Q4 := Aside0.mk q1; have Q5 := Aside0.mk (show Below w.heap.size w w4 from (below_drew Q2.out).trans q2); have hc4 := rdv_some (R3.out.below Q5.out) HX.out; clear q1 q2))
                            go_wp2_with fail
                            go_roundw
                            case rel => exact ⟨i + 1, rfl, by simp, by omega, ⟨by unfold bT; rw [flat_take _ HX.out, ← List.append_assoc]; exact hidT_step Q4.out Q5.out⟩⟩
                            case measure => simp [intOf]; omega
                          · obtain rfl : n3 = i := by omega
                            obtain ⟨wc, rfl⟩ : ∃ wz : World, wz = wr := ⟨_, rfl⟩
                            have Q2''' := Aside0.mk (show HidT w wc g1 g2 xs k (bU us ++ bI is ++ bT ts) from by have := HR.out; rwa [List.take_of_length_le (l := ts) (by have := L3.out; omega)] at this)
                            clear HR
                            rw [← HXS.out] at Q2'''
                            have hLeft := Aside0.mk (two_left Q2'''.out.1)
                            have hEnd := Aside0.mk (fun m => two_end (Q2'''.out.1.drewN m) (show w.heap.size ≤ (wc.drewN m).heap.size from (accDrew Q2'''.out.2 m).size))
                            go_wp2_with (first | (go_at_call 20; go_must (refine hLeft.out.mono ?_; rintro e' w5 ⟨rfl, m, rfl⟩)) | (go_at_call 35; go_must (refine (hEnd.out m).mono ?_; rintro e' w6 ⟨rfl, q1, q2⟩; have Q6 := Aside0.mk q1; have Q7 := Aside0.mk q2; clear q1 q2)) | (go_at_call 22; go_must (refine (two_err Q6.out (by have := HKN.out; have := HN.out; omega)).mono ?_; rintro e' w7 ⟨rfl, rfl⟩)))
                            go_ret
                            exact ⟨rfl, (accDrew Q2'''.out.2 m).trans Q7.out⟩
end Go.Proofs.Ytchcimkmjoegdaa.C
