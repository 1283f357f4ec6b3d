/- frame.Sum (58), its walk. Conditions: as the theorem states. -/
import Derived.Test.YtchcimkmjoegdaaSumC
import Derived.Test.YtchcimkmjoegdaaBackB
namespace Go.Proofs.Ytchcimkmjoegdaa.C
open Go.RowKit Go.Proofs.YtchcimkmjoegdaaW.PrintWords Go.Proofs.YtchcimkmjoegdaaW.PrintMore Go.Proofs.Ytchcimkmjoegdaa.M
set_option linter.unusedVariables false
set_option linter.unusedSimpArgs false

theorem crc_lt {c : Nat} (h : c < 4294967296) {l : List Int} (hl : Byt l) : crc c l < 4294967296 := Crc.run_lt _ h (fun b hb => by
  obtain ⟨x, hx, rfl⟩ := List.mem_map.1 hb
  have := hl x hx
  omega)
theorem crc_append (c : Nat) (a b : List Int) : crc c (a ++ b) = crc (crc c a) b := by unfold crc; rw [List.map_append, Crc.run_append]
theorem crc_one (c : Nat) (x : Int) : crc c [x] = Crc.half (Crc.half (c ^^^ x.toNat)) := by unfold crc Crc.run; simp only [List.map_cons, List.map_nil, List.foldl_cons, List.foldl_nil]; exact Crc.byte_half _ _
theorem wrap_byte {x : Int} (h0 : 0 ≤ x) (h1 : x ≤ 255) : IntKind.u32.wrap x = x := by rw [IntKind.wrap_u32]; omega
theorem flat_take' {L : List (Value × List Int)} {i : Nat} {p : Value × List Int} (h : L[i]? = some p) : flat (L.take (i + 1)) = flat (L.take i) ++ p.2 := by
  unfold flat
  rw [List.take_add_one, h]
  simp
theorem byt_flatL {L : List (Value × List Int)} (h : ∀ p ∈ L, Byt p.2) : Byt (flat L) := fun x hx => by
  obtain ⟨p, hp, hxp⟩ := List.mem_flatMap.1 hx
  exact h p hp x hxp
theorem ones32 (x : Nat) (h : x < 4294967296) : 4294967295 ^^^ x = 4294967295 - x := by
  have e : 4294967295 - x = 2 ^ 32 - (x + 1) := by omega
  rw [e]
  apply Nat.eq_of_testBit_eq
  intro i
  rw [Nat.testBit_two_pow_sub_succ (by omega), Nat.testBit_xor, show (4294967295 : Nat) = 2 ^ 32 - 1 from rfl, Nat.testBit_two_pow_sub_one]
  by_cases hi : i < 32
  · simp [hi]
  · have : x.testBit i = false := Nat.testBit_lt_two_pow (Nat.lt_of_lt_of_le h (by rw [show (4294967296 : Nat) = 2 ^ 32 from rfl]; exact Nat.pow_le_pow_right (by decide) (by omega)))
    simp [hi, this]
theorem not_u32 (c : Nat) (h : c < 4294967296) : Go.bits .xor .u32 IntKind.u32.max (c : Int) = 4294967295 - (c : Int) := by
  have := bits_xor_u32_nat 4294967295 c (by decide) h
  rw [ones32 c h] at this
  refine Eq.trans this ?_
  omega
theorem half_step {W : World} {g : Nat} (h : W.heap[g]? = some (.cells (nums .u32 (tab 16)).toArray 145 (0, 0))) (y : Nat) (hy : y < 4294967296) :
    ∃ m b z : Nat, Go.bits .and .u32 (y : Int) 15 = (m : Int) ∧ m < 16 ∧ W.cell? ⟨g, m, none⟩ = some (.int .u32 (b : Int)) ∧ Go.bits .xor .u32 ((y : Int) / 16) (b : Int) = (z : Int) ∧ Aside0 (z = Crc.half y) ∧ z < 4294967296 :=
  ⟨y % 16, Crc.bits 4 (y % 16), Crc.half y, and15_u32 y hy, Nat.mod_lt _ (by decide), tab_cell h _ (Nat.mod_lt _ (by decide)), half_val y hy, ⟨rfl⟩, half_lt hy⟩
set_option maxRecDepth 100000 in
set_option maxHeartbeats 4000000 in
theorem sum_any (w : World) (A : Option Addr) (N c : Nat) (L : List (Value × List Int)) (hr : RdV w A (L.map Prod.fst)) (hl : L.length = N) (hp : ∀ p ∈ L, Part w p) (hc : N ≤ c) (hn : N ≤ 9223372036854775807) :
    Calls Try.prog 58 #[.slice A N c] w fun e w' => e = .returned (.int .u32 (4294967295 - (crc 4294967295 (flat L) : Nat) : Int)) ∧ Fr No w w' := by
  have HR := Aside0.mk hr
  have HL := Aside0.mk hl
  have HP := Aside0.mk hp
  clear hr hl hp
  go_enter Try.func58, Try.ntmps58
  go_wp2_with (go_at_call 104; go_must (refine (table_lit w).mono ?_; rintro e' w1 ⟨rfl, q1⟩; have F1 := Aside0.mk q1; clear q1))
  generalize hW : World.alloc w1 _ = W
  have HW := Aside0.mk (show W.heap[w1.heap.size]? = some (.cells (nums .u32 (tab 16)).toArray 145 (0, 0)) from by rw [← hW]; exact heap_alloc_new w1 _)
  have HF := Aside0.mk (show Fr No w W from by rw [← hW]; exact F1.out.trans (Fr.alloc (S := No) w1 _) (fun _ _ h => h) (fun _ _ h => h))
  clear hW
  go_loop [4, 12] (fun v4 v12 => ∃ (i cc : Nat), v4 = .int .u32 cc ∧ v12 = .int .i64 i ∧ i ≤ N ∧ Aside0 (cc = crc 4294967295 (flat (L.take i)) ∧ cc < 4294967296)) (fun _ v12 => N - (intOf v12).toNat)
  case atStart => exact ⟨0, 4294967295, rfl, rfl, by omega, ⟨rfl, by decide⟩⟩
  case round =>
    obtain ⟨i, cc, rfl, rfl, hi, HC⟩ := hrel
    by_cases hlt : i < N
    · obtain ⟨p, hp⟩ := get_some' (xs := L) (i := i) (by have := HL.out; omega)
      obtain ⟨Ai, ci, he, hlc, hmx, hrd, hby⟩ := HP.out p (List.mem_of_getElem? hp)
      obtain ⟨ad, eA, hh⟩ := rdv_at (HR.out.below HF.out.no) hp
      rw [he] at hh
      subst eA
      have hcell := hh
      have HP1 := Aside0.mk hp
      have HRD := Aside0.mk (hrd.below HF.out.no)
      have HBY := Aside0.mk hby
      obtain ⟨n, hn2⟩ : ∃ n, n = p.2.length := ⟨_, rfl⟩
      rw [← hn2] at hcell hlc hmx
      have HN := Aside0.mk hn2
      have hnn : n ≤ 9223372036854775807 := by omega
      clear hp he hrd hby hh hn2
      go_wp2_with fail
      go_loop [4, 18] (fun v4 v18 => ∃ (j c2 : Nat), v4 = .int .u32 c2 ∧ v18 = .int .i64 j ∧ j ≤ n ∧ Aside0 (c2 = crc cc (p.2.take j) ∧ c2 < 4294967296)) (fun _ v18 => n - (intOf v18).toNat)
      case atStart => exact ⟨0, cc, rfl, rfl, by omega, ⟨rfl, HC.out.2⟩⟩
      case round =>
        obtain ⟨j, c2, rfl, rfl, hj, HC2⟩ := hrel
        by_cases hlt2 : j < n
        · obtain ⟨x, hx⟩ := get_some (xs := p.2) (i := j) (by have := HN.out; omega)
          obtain ⟨ad2, eA2, hx2⟩ := rd_at HRD.out hx
          subst eA2
          obtain ⟨hx0, hx1⟩ := HBY.out x (List.mem_of_getElem? hx)
          have HX := Aside0.mk hx
          clear hx
          have hb : x.toNat < 4294967296 := by omega
          obtain ⟨y, hy, hyl⟩ : ∃ y, c2 ^^^ x.toNat = y ∧ y < 4294967296 := ⟨_, rfl, Nat.xor_lt_two_pow (n := 32) HC2.out.2 hb⟩
          have e1 : Go.bits .xor .u32 (c2 : Int) x = (y : Int) := by have := bits_xor_u32_nat c2 x.toNat HC2.out.2 hb; rw [hy] at this; rwa [show ((x.toNat : Nat) : Int) = x from by omega] at this
          have HY := Aside0.mk hy
          obtain ⟨m, a1, z1, e2, hm, hc1, e3, H3, hzl⟩ := half_step (W := W) (g := w1.heap.size) HW.out y hyl
          obtain ⟨m2, a2, z, e4, hm2, hc2, e5, H5, hzl2⟩ := half_step (W := W) (g := w1.heap.size) HW.out z1 hzl
          clear hy
          go_wp2_with fail
          go_round
          case rel => exact ⟨j + 1, z, rfl, by simp, by omega, ⟨by rw [take_succ_of HX.out, crc_append, ← HC2.out.1, crc_one, HY.out, ← H3.out]; exact H5.out, hzl2⟩⟩
          case measure => simp [intOf]; omega
        · obtain rfl : n = j := by omega
          have HE := Aside0.mk (show c2 = crc 4294967295 (flat (L.take (i + 1))) from by rw [flat_take' HP1.out, crc_append, ← HC.out.1, HC2.out.1, List.take_of_length_le (by have := HN.out; omega)])
          go_wp2_with fail
          go_round
          case rel => exact ⟨i + 1, c2, rfl, by simp, by omega, ⟨HE.out, HC2.out.2⟩⟩
          case measure => simp [intOf]; omega
    · obtain rfl : N = i := by omega
      go_wp2_with fail
      go_ret
      have hc := HC.out
      rw [List.take_of_length_le (by have := HL.out; omega)] at hc
      exact ⟨ret_int (by rw [← hc.1]; exact not_u32 cc hc.2), HF.out⟩
end Go.Proofs.Ytchcimkmjoegdaa.C
