/- The reference of chapter 2: Uint, Turned, Text: what each call hands back. Conditions: the bounds that each theorem states. -/
import Derived.Test.YtchcimkmjoegdaaKitA
namespace Go.Proofs.Ytchcimkmjoegdaa.C
open Go.RowKit Go.Proofs.YtchcimkmjoegdaaW.PrintWords Go.Proofs.YtchcimkmjoegdaaW.PrintMore Go.Proofs.Ytchcimkmjoegdaa.M
set_option linter.unusedVariables false
set_option linter.unusedSimpArgs false

/-- The i-th group of a form of k bytes. -/
def gr (u k i : Nat) : Int := ((u / 128 ^ i % 128 + (if i + 1 < k then 128 else 0) : Nat) : Int)
def grs (u k i : Nat) : List Int := (List.range i).map (gr u k)
theorem grs_succ (u k i : Nat) : grs u k (i + 1) = grs u k i ++ [gr u k i] := by simp [grs, List.range_succ]
theorem gr_shift (u k i : Nat) : gr u (k + 1) (i + 1) = gr (u / 128) k i := by
  unfold gr
  rw [Nat.pow_succ', ← Nat.div_div_eq_div_mul]
  simp
/-- The groups are the number's form. -/
theorem grs_uenc : ∀ (k u : Nat), u < 128 ^ (k + 1) → (k = 0 ∨ 128 ^ k ≤ u) → grs u (k + 1) (k + 1) = uenc u
  | 0, u, h, _ => by
    rw [uenc, if_pos (by simpa using h)]
    have : u % 128 = u := Nat.mod_eq_of_lt (by simpa using h)
    simp [grs, gr, this]
  | k + 1, u, h, h' => by
    have hk : 128 ^ (k + 1) ≤ u := by omega
    have h1 : 128 ^ 1 ≤ 128 ^ (k + 1) := Nat.pow_le_pow_right (by decide) (by omega)
    rw [uenc, if_neg (by omega)]
    have ih := grs_uenc k (u / 128) (Nat.div_lt_of_lt_mul (by rw [Nat.pow_succ] at h; omega)) (by
      rcases Nat.eq_zero_or_pos k with h0 | h0
      · exact .inl h0
      · right
        rw [Nat.le_div_iff_mul_le (by decide), ← Nat.pow_succ]
        exact hk)
    rw [← ih]
    unfold grs
    rw [List.range_succ_eq_map]
    simp only [List.map_cons, List.map_map]
    congr 1
    · simp [gr]
    · apply List.map_congr_left
      intro i _
      exact gr_shift u (k + 1) i
theorem sh128 (u i : Nat) : (u : Int) / 2 ^ (7 * i) = ((u / 128 ^ i : Nat) : Int) := by
  rw [show (2 : Int) ^ (7 * i) = ((128 ^ i : Nat) : Int) by rw [Int.pow_mul]; norm_cast]
  norm_cast
theorem gr_mid (u k i : Nat) (h : i + 1 < k) : (u : Int) / 2 ^ (7 * i) % 128 + 128 = gr u k i := by
  rw [sh128, gr, if_pos h]
  omega
theorem gr_last (u k i : Nat) (h : ¬ i + 1 < k) : (u : Int) / 2 ^ (7 * i) % 128 = gr u k i := by
  rw [sh128, gr, if_neg h]
  omega
set_option maxRecDepth 100000 in
set_option maxHeartbeats 2000000 in
theorem refUint_any (w : World) (u : Nat) (hu : u < M64) :
    Calls Try.prog 29 #[.int .u64 u] w fun e w' => ∃ v, e = .returned v ∧ Win w' w.heap.size 5 1 v (uenc u).length (nums .u8 (uenc u)) ∧ Fr No w w' := by
  have HU := Aside0.mk hu
  clear hu
  go_enter Try.func29, Try.ntmps29
  go_wp2_with fail
  go_loop [3] (fun v3 => ∃ k : Nat, v3 = .int .i64 k ∧ 1 ≤ k ∧ k ≤ 10 ∧ Aside0 (k = 1 ∨ 128 ^ (k - 1) ≤ u)) (fun v3 => 10 - (intOf v3).toNat)
  case atStart => exact ⟨1, rfl, by omega, by omega, ⟨.inl rfl⟩⟩
  case round =>
    obtain ⟨k, rfl, hk1, hk2, HK⟩ := hrel
    by_cases hgo : k < 10 ∧ 128 ^ k ≤ u
    · obtain ⟨hlt, hle⟩ := hgo
      have hpos : 0 < (u : Int) / 2 ^ (7 * k) := by
        rw [sh128]
        have := Nat.div_pos hle (Nat.pow_pos (by decide))
        omega
      have HLE := Aside0.mk hle
      clear hle
      go_wp2_with fail
      go_round
      case rel => exact ⟨k + 1, by simp, by omega, by omega, ⟨.inr HLE.out⟩⟩
      case measure => simp [intOf]; omega
    · have HN := Aside0.mk (show grs u k k = uenc u from by
        obtain ⟨k, rfl⟩ : ∃ j, k = j + 1 := ⟨k - 1, by omega⟩
        refine grs_uenc k u ?_ (by have := HK.out; simp at this; omega)
        rcases Nat.lt_or_ge (k + 1) 10 with h | h
        · exact Nat.lt_of_not_le fun h' => hgo ⟨h, h'⟩
        · obtain rfl : k = 9 := by omega
          have := HU.out
          rw [M64_eq] at this
          omega)
      have hcase : (k < 10 ∧ ¬ (0 < (u : Int) / 2 ^ (7 * k))) ∨ ¬ k < 10 := by
        rcases Nat.lt_or_ge k 10 with h | h
        · refine .inl ⟨h, ?_⟩
          rw [sh128, Nat.div_eq_of_lt (Nat.lt_of_not_le fun h' => hgo ⟨h, h'⟩)]
          simp
        · exact .inr (by omega)
      clear hgo
      have HL := Aside0.mk (show (uenc u).length = k from by rw [← HN.out]; simp [grs])
      rcases hcase with ⟨h1, h2⟩ | h1
      all_goals
        go_wp2_with fail
        go_loopw [4, 5] (fun v4 v5 wr => ∃ i : Nat, v5 = .int .i64 i ∧ i ≤ k ∧ Aside0 (Win wr w.heap.size 5 1 v4 i (nums .u8 (grs u k i))) ∧ Aside0 (Fr No w wr)) (fun _ v5 _ => k - (intOf v5).toNat)
        case atStart => exact ⟨0, rfl, by omega, ⟨Win.nil w w.heap.size 5 1⟩, ⟨Fr.refl _ _⟩⟩
        case round =>
          obtain ⟨i, rfl, hi, HW, HF⟩ := hrel
          by_cases hlt : i < k
          · have H6 := Aside0.mk (small_bound (n := i + 1) (by omega))
            by_cases hb : i + 1 < k
            · have HG := Aside0.mk (gr_mid u k i hb)
              go_wp2_with (at_builtin; go_must (refine wpl_append1 wr w.heap.size rfl (.tmp 37) (.tmp 39) 22 5 (.int .u8 0) 1 1 rfl Try.underlying22 info5 rfl u4 i _ [.int .u8 ((u : Int) / 2 ^ (7 * i) % 128 + 128)] rfl rfl HW.out rfl (by simp [Value.oneCell']) HF.out.size H6.out.1 H6.out.2 ?_; intro v1 w1 g1 _ g3 _; have G1 := Aside0.mk g1; have G3 := Aside0.mk g3; clear g1 g3))
              go_roundw
              case rel =>
                refine ⟨i + 1, by simp, by omega, ⟨?_⟩, ⟨own_step HF.out HW.out G3.out⟩⟩
                have g := G1.out
                rw [nums_snoc, HG.out, ← grs_succ] at g
                exact g
              case measure => simp [intOf]; omega
            · have HG := Aside0.mk (gr_last u k i hb)
              go_wp2_with (at_builtin; go_must (refine wpl_append1 wr w.heap.size rfl (.tmp 37) (.tmp 39) 22 5 (.int .u8 0) 1 1 rfl Try.underlying22 info5 rfl u4 i _ [.int .u8 ((u : Int) / 2 ^ (7 * i) % 128)] rfl rfl HW.out rfl (by simp [Value.oneCell']) HF.out.size H6.out.1 H6.out.2 ?_; intro v1 w1 g1 _ g3 _; have G1 := Aside0.mk g1; have G3 := Aside0.mk g3; clear g1 g3))
              go_roundw
              case rel =>
                refine ⟨i + 1, by simp, by omega, ⟨?_⟩, ⟨own_step HF.out HW.out G3.out⟩⟩
                have g := G1.out
                rw [nums_snoc, HG.out, ← grs_succ] at g
                exact g
              case measure => simp [intOf]; omega
          · go_wp2_with fail
            go_ret
            obtain rfl : i = k := by omega
            exact ⟨_, rfl, by rw [HL.out, ← HN.out]; exact HW.out, HF.out⟩
set_option maxHeartbeats 400000 in
theorem refTurned_any (w : World) (q : Int) (h0 : -9223372036854775808 ≤ q) (h1 : q ≤ 9223372036854775807) :
    Calls Try.prog 30 #[.int .i64 q] w fun e w' => e = .returned (.int .u64 (Lib.zigzag q : Nat)) ∧ w' = w := by
  by_cases h : 0 ≤ q
  · go_enter Try.func30, Try.ntmps30
    go_wp2_with fail
    go_ret
    exact ⟨ret_int (by unfold Lib.zigzag; rw [if_pos h]; omega), rfl⟩
  · go_enter Try.func30, Try.ntmps30
    go_wp2_with fail
    go_ret
    exact ⟨ret_int (by unfold Lib.zigzag; rw [if_neg (by omega)]; omega), rfl⟩
set_option maxRecDepth 100000 in
set_option maxHeartbeats 1000000 in
theorem refText_any (w : World) (s : ByteArray) (hs : s.size ≤ 140737488355000) :
    Calls Try.prog 31 #[.string s] w fun e w' => ∃ v, e = .returned v ∧ Win w' w.heap.size 5 1 v ((uenc s.size).length + s.size) (nums .u8 (uenc s.size ++ bytesOf s)) ∧ Fr No w w' := by
  have hu : s.size < M64 := by rw [M64_eq]; omega
  have H := Aside0.mk (refUint_any w s.size hu)
  have hS : (s.size : Int) ≤ 9223372036854775807 := by omega
  have HB := Aside0.mk (small_bound (n := (uenc s.size).length + s.size) (by have := uenc_10 s.size hu; omega))
  clear hu hs
  go_enter Try.func31, Try.ntmps31
  go_wp2_with (first | (go_at_call 29; go_must (refine H.out.mono ?_; rintro e w1 ⟨v, rfl, hq, hf⟩; have Q := Aside0.mk hq; have F := Aside0.mk hf; clear hq hf)) | (at_builtin; go_must (refine wpl_append w1 w.heap.size rfl (.tmp 8) (.tmp 9) 22 9 5 (.int .u8 0) 1 1 .string rfl Try.underlying22 Try.underlying9 (.inr rfl) info5 rfl v _ _ (.string s) s.size (nums .u8 (bytesOf s)) rfl rfl Q.out (by rw [← strCells_nums]; exact Src.of_string _ _) F.out.size HB.out.1 HB.out.2 ?_; intro v1 w2 g1 _ g3 _; have G1 := Aside0.mk g1; have G3 := Aside0.mk g3; clear g1 g3)))
  go_ret
  exact ⟨_, rfl, by rw [nums_append]; exact G1.out, own_step F.out Q.out G3.out⟩
end Go.Proofs.Ytchcimkmjoegdaa.C
