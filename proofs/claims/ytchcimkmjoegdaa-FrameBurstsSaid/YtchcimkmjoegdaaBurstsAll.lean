/- The reference's check (59), bit by bit. Conditions: as the theorem states. | The frame's helpers: ref Sealed (103), Clip (106), Grow (117), Concat (101), bytes.Equal (105). Conditions: as each theorem states. | bytes.Equal (105), frame.Kind (62), the reference's Kind (63). Conditions: as each theorem states. | frame.Seal (56). Conditions: as the theorem states. | The reference's Seal (57). Conditions: as the theorem states. | What opening a file answers, in plain Lean; frame.Open (60) where the file is refused ahead of reading. Conditions: as each theorem states. | frame.Open (60): the check does not fit. Conditions: as each theorem states. | The states of Open's two loops: sizes read, blocks read. Conditions: as each theorem states. | frame.Open (60): the file is read. Conditions: as each theorem states. | frame.Open (60) whole; the reference's Open (61), where the file is refused ahead of reading. Conditions: as each theorem states. | The reference's Open (61): the check does not fit. Conditions: as each theorem states. | The reference's Open (61): the file is read. Conditions: as each theorem states. | The frame's plain law: what was sealed is opened again, what is opened is sealed in the same bytes. No program here. Conditions: bytes are 0 to 255. | The statements' helpers of chapter 4: kit.Blocks (64), sealed (65), bad (66). Conditions: as each theorem states. | Chapter 4's awake (55) is true, in memory of its own. Conditions: none. | FrameSeals' state: what was lent, what was gathered. Conditions: as each theorem states. | FrameSeals' walk: true for any sections. Conditions: the sizes of what was read. | A row's slices of bytes, as the walks take them; FrameSeals under its row's names. Conditions: those of the row. | FrameOpens' walk: true for any bytes. Conditions: the sizes of what was read. | FrameOpens' walk: true for any bytes. Conditions: the sizes of what was read. | FrameBack's walk: true for any sections and bytes. Conditions: the sizes of what was read. | The checksum's plain law at a burst: a list whose bits were turned within 32 in a row has another checksum; a file so altered is refused. No program here. Conditions: bytes are 0 to 255. | FrameBursts' walk: a sealed file that a burst has turned is refused. Conditions: the sizes of what was read. (Several texts of mine laid into one by merge.py.) -/
import Derived.Test.YtchcimkmjoegdaaSumD
import Derived.Lib.Bytes
import Derived.Lib.SlBytesConst
import Derived.Test.YtchcimkmjoegdaaRefA
import Derived.Test.YtchcimkmjoegdaaOneA
import Derived.Deep.RegionHeld3
import Derived.Laws.MakeOwn
import Derived.Test.YtchcimkmjoegdaaPureA
import Derived.Test.YtchcimkmjoegdaaLawA
import Derived.Test.YtchcimkmjoegdaaApBW
import Derived.Test.YtchcimkmjoegdaaWSized
import Derived.Deep.Matrix
import Derived.Test.YtchcimkmjoegdaaLawPuts
namespace Go.Proofs.Ytchcimkmjoegdaa.C
open Go.RowKit Go.Proofs.YtchcimkmjoegdaaW.PrintWords Go.Proofs.YtchcimkmjoegdaaW.PrintMore Go.Proofs.Ytchcimkmjoegdaa.M
set_option linter.unusedVariables false
set_option linter.unusedSimpArgs false

/-- The check of bytes. -/
def csum (b : List Int) : Nat := 4294967295 - crc 4294967295 b
theorem csum_lt (b : List Int) : csum b < 4294967296 := by unfold csum; omega
theorem csum_int {b : List Int} (h : Byt b) : (4294967295 : Int) - (crc 4294967295 b : Nat) = (csum b : Nat) := by
  have := crc_lt (c := 4294967295) (by decide) h
  unfold csum
  omega
theorem rbits_lt : ∀ (k : Nat) {c d : Nat}, c < 4294967296 → Crc.rbits k c d < 4294967296
  | 0, _, _, h => h
  | k + 1, c, d, h => by
    have := rbits_lt k (d := d) h
    rw [Crc.rbits]
    unfold Crc.rstep
    split
    · exact Nat.xor_lt_two_pow (n := 32) (by omega) (by decide)
    · omega
theorem crc_byte (c : Nat) (x : Int) (h : x.toNat < 256) : crc c [x] = Crc.rbits 8 c x.toNat := by
  rw [Crc.rbyte c _ h]
  rfl
theorem bit_of (x : Int) (k : Nat) (h0 : 0 ≤ x) (h1 : x ≤ 255) : Go.bits .and .u32 (x / 2 ^ k % 4294967296) 1 = ((x.toNat / 2 ^ k % 2 : Nat) : Int) := by
  have e : x / 2 ^ k = ((x.toNat / 2 ^ k : Nat) : Int) := by
    obtain ⟨n, rfl⟩ := Int.eq_ofNat_of_zero_le h0
    simp
  have hlt : x.toNat / 2 ^ k < 4294967296 := Nat.lt_of_le_of_lt (Nat.div_le_self _ _) (by omega)
  have e2 : x / 2 ^ k % 4294967296 = ((x.toNat / 2 ^ k : Nat) : Int) := by rw [e]; generalize x.toNat / 2 ^ k = q at hlt ⊢; omega
  rw [e2, and1_u32 _ hlt]
set_option maxRecDepth 100000 in
set_option maxHeartbeats 4000000 in
theorem rsum_any (w : World) (A : Option Addr) (n c : Nat) (b : List Int) (hr : RdV w A (nums .u8 b)) (hl : b.length = n) (hb : Byt b) (hc : n ≤ c) (hn : n ≤ 9223372036854775807) :
    Calls Try.prog 59 #[.slice A n c] w fun e w' => e = .returned (.int .u32 (csum b : Nat)) ∧ w = w' := by
  have HR := Aside0.mk hr
  have HL := Aside0.mk hl
  have HB := Aside0.mk hb
  clear hr hl hb
  go_enter Try.func59, Try.ntmps59
  go_wp2_with fail
  go_loop [3, 4] (fun v3 v4 => ∃ (i cc : Nat), v3 = .int .u32 cc ∧ v4 = .int .i64 i ∧ i ≤ n ∧ Aside0 (cc = crc 4294967295 (b.take i) ∧ cc < 4294967296)) (fun _ v4 => n - (intOf v4).toNat)
  case atStart => exact ⟨0, 4294967295, rfl, rfl, by omega, ⟨rfl, by decide⟩⟩
  case round =>
    obtain ⟨i, cc, rfl, rfl, hi, HC⟩ := hrel
    by_cases hlt : i < n
    · obtain ⟨x, hx⟩ := get_some (xs := b) (i := i) (by have := HL.out; omega)
      obtain ⟨ad, eA, hx2⟩ := rd_at HR.out hx
      subst eA
      obtain ⟨hx0, hx1⟩ := HB.out x (List.mem_of_getElem? hx)
      have HX := Aside0.mk hx
      clear hx
      go_wp2_with fail
      go_loop [3, 5] (fun v3 v5 => ∃ (k c2 : Nat), v3 = .int .u32 c2 ∧ v5 = .int .i64 k ∧ k ≤ 8 ∧ Aside0 (c2 = Crc.rbits k cc x.toNat ∧ c2 < 4294967296)) (fun _ v5 => 8 - (intOf v5).toNat)
      case atStart => exact ⟨0, cc, rfl, rfl, by omega, ⟨rfl, HC.out.2⟩⟩
      case round =>
        obtain ⟨k, c2, rfl, rfl, hk, HC2⟩ := hrel
        by_cases hlt2 : k < 8
        · obtain ⟨m2, e2, hm2⟩ : ∃ m : Nat, Go.bits .and .u32 (x / 2 ^ k % 4294967296) 1 = (m : Int) ∧ Aside0 (m = x.toNat / 2 ^ k % 2) := ⟨_, bit_of x k hx0 hx1, ⟨rfl⟩⟩
          obtain ⟨m1, e1, hm1⟩ : ∃ m : Nat, Go.bits .and .u32 (c2 : Int) 1 = (m : Int) ∧ Aside0 (m = c2 % 2) := ⟨_, and1_u32 c2 HC2.out.2, ⟨rfl⟩⟩
          obtain ⟨z, e3, hz⟩ : ∃ z : Nat, Go.bits .xor .u32 ((c2 : Int) / 2) 3988292384 = (z : Int) ∧ Aside0 (z = (c2 / 2) ^^^ 3988292384) := ⟨_, by have := bits_xor_u32_nat (c2 / 2) 3988292384 (by have := HC2.out.2; omega) (by decide); rwa [show ((c2 / 2 : Nat) : Int) = (c2 : Int) / 2 from by omega] at this, ⟨rfl⟩⟩
          have HS := Aside0.mk (show Crc.rbits (k + 1) cc x.toNat = Crc.rstep c2 (x.toNat / 2 ^ k) from by rw [Crc.rbits, ← HC2.out.1])
          have HLT := Aside0.mk (rbits_lt (k + 1) (d := x.toNat) HC.out.2)
          by_cases hne : m1 = m2
          · have hb : ((m1 : Int) != (m2 : Int)) = false := by simp [hne]
            have HNE := Aside0.mk hne
            clear hne
            go_wp2_with fail
            go_round
            case rel => exact ⟨k + 1, c2 / 2, by simp, by simp, by omega, ⟨by rw [HS.out, Crc.rstep, if_neg (by rw [← hm1.out, ← hm2.out]; exact fun h => h HNE.out)], by have := HC2.out.2; omega⟩⟩
            case measure => simp [intOf]; omega
          · have hb : ((m1 : Int) != (m2 : Int)) = true := by simp; omega
            have HNE := Aside0.mk hne
            clear hne
            go_wp2_with fail
            go_round
            case rel => exact ⟨k + 1, z, rfl, by simp, by omega, ⟨by rw [HS.out, Crc.rstep, if_pos (by rw [← hm1.out, ← hm2.out]; exact HNE.out)]; exact hz.out, by rw [hz.out]; exact Nat.xor_lt_two_pow (n := 32) (by have := HC2.out.2; omega) (by decide)⟩⟩
            case measure => simp [intOf]; omega
        · obtain rfl : k = 8 := by omega
          have HE := Aside0.mk (show c2 = crc 4294967295 (b.take (i + 1)) from by rw [take_succ_of HX.out, crc_append, ← HC.out.1, HC2.out.1, crc_byte _ _ (by omega)])
          go_wp2_with fail
          go_round
          case rel => exact ⟨i + 1, c2, rfl, by simp, by omega, ⟨HE.out, HC2.out.2⟩⟩
          case measure => simp [intOf]; omega
    · obtain rfl : n = i := by omega
      go_wp2_with fail
      go_ret
      have hc := HC.out
      rw [List.take_of_length_le (by have := HL.out; omega)] at hc
      exact ⟨ret_int (by have h1 := bits_xor_u32_nat cc 4294967295 hc.2 (by decide); rw [Nat.xor_comm, ones32 cc hc.2] at h1; unfold csum; rw [← hc.1]; exact h1), rfl⟩
end Go.Proofs.Ytchcimkmjoegdaa.C
namespace Go.Proofs.Ytchcimkmjoegdaa.C
open Go.RowKit Go.Proofs.YtchcimkmjoegdaaW.PrintWords Go.Proofs.YtchcimkmjoegdaaW.PrintMore Go.Proofs.Ytchcimkmjoegdaa.M
set_option linter.unusedVariables false
set_option linter.unusedSimpArgs false

/-- Bytes with their check behind them. -/
def sealedB (b : List Int) : List Int := b ++ four (csum b)
set_option maxRecDepth 100000 in
set_option maxHeartbeats 1000000 in
theorem rsealed_any (w : World) (base : Nat) (v : Value) (b : List Int) (h : Win w base 5 1 v b.length (nums .u8 b)) (hb : Byt b) (hB : base ≤ w.heap.size) (hn : b.length ≤ 140737488355000) :
    Calls Try.prog 103 #[v] w fun e w' => ∃ v', e = .returned v' ∧ Win w' base 5 1 v' (sealedB b).length (nums .u8 (sealedB b)) ∧ Fr (At v) w w' := by
  obtain ⟨A, c, rfl, hc⟩ := h.shape
  obtain ⟨n, hl⟩ : ∃ n, b.length = n := ⟨_, rfl⟩
  rw [hl] at h hc hn ⊢
  have H := Aside0.mk h
  have HS := Aside0.mk (rsum_any w A n c b (RdV.of_win h) hl hb hc (by omega))
  obtain ⟨s, hs⟩ : ∃ s, csum b = s := ⟨_, rfl⟩
  have hlt : s < 4294967296 := by rw [← hs]; exact csum_lt b
  rw [hs] at HS
  have HB := Aside0.mk (small_bound (n := n + 4) (by omega))
  have HE := Aside0.mk hs
  have HL := Aside0.mk hl
  clear h hc hn hs hl hb
  go_enter Try.func103, Try.ntmps103
  go_wp2_with (first | (at_builtin; go_must (refine wpl_append _ base rfl (.tmp 6) (.tmp 18) 22 22 5 (.int .u8 0) 1 1 (.slice 5) rfl Try.underlying22 Try.underlying22 (.inl ⟨_, rfl⟩) info5 rfl (.slice A n c) n (nums .u8 b) (.slice (some ⟨w.heap.size, 0, none⟩) 4 4) 4 (nums .u8 (four s)) rfl rfl (H.out.below (below_alloc (Below.refl _ _) _)) (Src.of_rd (rd_lit w .u8 5 (four s)) rfl (nums_one _ _)) (by simp; omega) HB.out.1 HB.out.2 ?_; intro v1 w1 g1 _ g3 _; have G1 := Aside0.mk g1; have G3 := Aside0.mk g3; clear g1 g3)) | (go_at_call 59; go_must (refine HS.out.mono ?_; rintro e' w1 ⟨rfl, rfl⟩)))
  go_ret
  refine ⟨v1, rfl, ?_, below_one G3.out⟩
  have g := G1.out
  rw [← nums_append] at g
  unfold sealedB
  rw [List.length_append, HL.out, HE.out]
  exact g
set_option maxHeartbeats 400000 in
theorem clipB_any (w : World) (A : Option Addr) (n c : Nat) (hc : n ≤ c) (hn : n ≤ 9223372036854775807) :
    Calls Try.prog 106 #[.slice A n c] w fun e w' => e = .returned (.slice A n n) ∧ w' = w := by
  go_enter Try.func106, Try.ntmps106
  go_wp2_with fail
  go_ret
  exact ⟨rfl, rfl⟩
theorem run_append_zeros {P : Program} (w : World) {t tx ty e : TypeId} {i : TypeInfo} {z : Value} (ht : P.underlying t = some (.slice e)) (htx : P.underlying tx = some (.int .i64)) (hi : P.info? e = some i) (hz : i.zero = some z) (hs : 0 < i.size)
    (n : Nat) (hn : 0 < n) (h63 : n ≤ 281474976710656) (hbytes : (n + n / 4 + 700) * i.bytes ≤ 281474976710656) :
    (Builtin.append_ #[t, tx] ty #[.slice none 0 0, .int .i64 n]).run P w = .ok (.slice (some ⟨w.heap.size, 0, none⟩) n (grownCap w n 0 e))
      (w.drew.alloc (.cells (Builtin.zeroCells z.cells n ++ Builtin.zeroCells z.cells (grownCap w n 0 e - n)) e)) := by
  have hn' : ¬ (n ≤ 0) := by omega
  have hn0 : n ≠ 0 := by omega
  have hs0 : i.size ≠ 0 := by omega
  have h1 : IntKind.i64.wrap (n : Int) = (n : Int) := by rw [IntKind.wrap_i64]; omega
  have h2 : ¬ ((n : Int) < 0) := by omega
  have h63' : ¬ (9223372036854775807 < (n : Int)) := by omega
  have hle : n * i.bytes ≤ 281474976710656 := Nat.le_trans (Nat.mul_le_mul_right _ (by omega)) hbytes
  have hle' : ¬ ((281474976710656 : Int) < (n : Int) * (i.bytes : Int)) := by
    have : ((n * i.bytes : Nat) : Int) ≤ 281474976710656 := by have h := Int.ofNat_le.2 hle; simpa using h
    rw [Int.natCast_mul] at this
    exact Int.not_lt.2 this
  have h48' : ¬ (281474976710656 < Builtin.nextslicecap n 0 * i.bytes) := by
    have := Nat.mul_le_mul_right i.bytes (nextcap_room (need := n) (old := 0) hn)
    omega
  simp [Builtin.append_, run_underlying ht, run_underlying htx, sizeOf, typeInfo, zeroValue, hi, hz, hn0, hs0, h1, h2, h63', h48', hle', Question.forced, newRow, grownCap, Builtin.firstCells, asInt, asIntOf]
  exact fun h => absurd h (by have := Nat.mul_pos hn hs; omega)
section
variable {P : Program} {ops : Array Oper} {rest : List Oper} {o : Oper} {a : Act} {Q : Exit → Act → World → Prop} {K : Act → World → Prop}
theorem wpl_append_zeros (w : World) (hgd : o.guard = none) (s x : Operand) (t tx e : TypeId) (z : Value) (size bytes : Nat)
    (ho : o.op = .call { callee := .builtin .append, args := #[s, x], argTypes := #[t, tx] })
    (ht : P.underlying t = some (.slice e)) (htx : P.underlying tx = some (.int .i64)) (hinfo : (P.info? e).map (fun i => (i.zero, i.size, i.bytes)) = some (some z, size, bytes)) (hs0 : 0 < size)
    (n : Nat) (hs : a.eval s = .slice none 0 0) (hx : a.eval x = .int .i64 n) (hn : 0 < n) (h63 : n ≤ 281474976710656) (hl : (n + n / 4 + 700) * bytes ≤ 281474976710656)
    (h : wpList P ops Q rest (a.put o.dst (.slice (some ⟨w.heap.size, 0, none⟩) n (grownCap w n 0 e))) (w.drew.alloc (.cells (Builtin.zeroCells z.cells n ++ Builtin.zeroCells z.cells (grownCap w n 0 e - n)) e))) :
    wpList P ops Q (o :: rest) a w := by
  obtain ⟨i0, hi, hzz⟩ := Option.map_eq_some_iff.1 hinfo
  simp only [Prod.mk.injEq] at hzz
  obtain ⟨hz0, hz1, hz2⟩ := hzz
  subst hz1
  subst hz2
  have hr := run_append_zeros (ty := o.type) w ht htx hi hz0 hs0 n hn h63 hl
  refine wpList_plain hgd fun K hK => ?_
  unfold Oper.wp execOp
  simp only [ho, resolve, invoke, builtin, Sem.run_bind, Sem.run_pure, Result.andThen_ok, List.map_toArray, List.map_cons, List.map_nil, hs, hx, hr]
  exact hK _ _ h
end
set_option maxRecDepth 100000 in
set_option maxHeartbeats 1000000 in
theorem grow_nil (w : World) (n : Nat) (hn : n ≤ 140737488355000) :
    Calls Try.prog 117 #[.slice none 0 0, .int .i64 n] w fun e w' => ∃ v, e = .returned v ∧ Win w' w.heap.size 5 1 v 0 [] ∧ Fr No w w' := by
  by_cases h0 : n = 0
  · subst h0
    go_enter Try.func117, Try.ntmps117
    go_wp2_with fail
    go_ret
    exact ⟨_, rfl, Win.nil _ _ _ _, Fr.refl _ _⟩
  · have hpos : 0 < n := by omega
    have hposi : 0 < (n : Int) := by omega
    have HB := Aside0.mk (small_bound (n := n) (by omega))
    have hge := grownCap_ge w n 0 5
    have hm := grownCap_le_maxLen w n 0 5 HB.out.1
    obtain ⟨C, hC⟩ : ∃ C, grownCap w n 0 5 = C := ⟨_, rfl⟩
    rw [hC] at hge hm
    have HC := Aside0.mk hC
    have HM := Aside0.mk hm
    have hCi : C ≤ 9223372036854775807 := by simp only [maxLen] at hm; omega
    obtain ⟨i0, hi0, _⟩ := info_parts info5
    have hcut := fun (A : Option Addr) => cuth (P := Try.prog) 22 5 .i64 Try.underlying22 hi0 A n C 0 (by omega)
    clear h0 hi0 hC hm
    go_enter Try.func117, Try.ntmps117
    go_wp2_with (at_builtin; go_must (refine wpl_append_zeros w rfl (.tmp 20) (.tmp 21) 22 3 5 (.int .u8 0) 1 1 rfl Try.underlying22 Try.underlying3 info5 (by decide) n rfl rfl hpos (by omega) HB.out.2 ?_; rw [HC.out]))
    go_ret
    refine ⟨_, rfl, ⟨rfl, .inr ⟨w.heap.size, 0, C, _, rfl, Nat.le_refl _, heap_alloc_new w.drew _, Nat.zero_le _, HM.out, ?_, by simp⟩⟩, (Fr.of_below (below_drew (Below.refl _ _)) No).trans (Fr.alloc (S := No) w.drew _) (fun _ _ h => h) (fun _ _ h => h)⟩
    simp [Builtin.zeroCells]
    omega
theorem flat_len_le (L : List (Value × List Int)) (i : Nat) : (flat (L.take i)).length ≤ (flat L).length := by
  have : flat L = flat (L.take i) ++ flat (L.drop i) := by unfold flat; rw [← List.flatMap_append, List.take_append_drop]
  rw [this, List.length_append]
  omega
set_option maxRecDepth 100000 in
set_option maxHeartbeats 4000000 in
theorem concat_any (w : World) (A : Option Addr) (N c : Nat) (L : List (Value × List Int)) (hr : RdV w A (L.map Prod.fst)) (hl : L.length = N) (hp : ∀ p ∈ L, Part w p) (hc : N ≤ c) (hn : N ≤ 9223372036854775807) (hf : (flat L).length ≤ 140737488355000) :
    Calls Try.prog 101 #[.slice A N c] w fun e w' => ∃ v, e = .returned v ∧ Win w' w.heap.size 5 1 v (flat L).length (nums .u8 (flat L)) ∧ Fr No w w' := by
  have HR := Aside0.mk hr
  have HL := Aside0.mk hl
  have HP := Aside0.mk hp
  have HLEN := Aside0.mk (flat_len_le L)
  clear hr hl hp
  go_enter Try.func101, Try.ntmps101
  go_wp2_with fail
  go_loop [3, 11] (fun v3 v11 => ∃ (i m : Nat), v3 = .int .i64 m ∧ v11 = .int .i64 i ∧ i ≤ N ∧ Aside0 (m = (flat (L.take i)).length)) (fun _ v11 => N - (intOf v11).toNat)
  case atStart => exact ⟨0, 0, rfl, rfl, by omega, ⟨rfl⟩⟩
  case round =>
    obtain ⟨i, m, rfl, rfl, hi, HM⟩ := hrel
    by_cases hlt : i < N
    · obtain ⟨p, hp⟩ := get_some' (xs := L) (i := i) (by have := HL.out; omega)
      obtain ⟨Ai, ci, he, hlc, hmx, hrd, hby⟩ := HP.out p (List.mem_of_getElem? hp)
      obtain ⟨ad, eA, hh⟩ := rdv_at HR.out hp
      rw [he] at hh
      subst eA
      have hcell := hh
      have HP1 := Aside0.mk hp
      obtain ⟨n, hn2⟩ : ∃ n, n = p.2.length := ⟨_, rfl⟩
      rw [← hn2] at hcell hlc hmx
      have HN := Aside0.mk hn2
      have hm : m ≤ 140737488355000 := by have := HM.out; have := HLEN.out i; omega
      clear hp he hrd hby hh hn2
      go_wp2_with fail
      go_round
      case rel => exact ⟨i + 1, m + n, by simp, by simp, by omega, ⟨by rw [flat_take' HP1.out, List.length_append, ← HM.out, HN.out]⟩⟩
      case measure => simp [intOf]; omega
    · obtain rfl : N = i := by omega
      have hM := HM.out
      rw [List.take_of_length_le (by have := HL.out; omega)] at hM
      have hmle : m ≤ 140737488355000 := by omega
      have HM2 := Aside0.mk hM
      clear hM HM
      have HG := Aside0.mk (grow_nil w m hmle)
      go_wp2_with (go_at_call 117; go_must (refine HG.out.mono ?_; rintro e' w1 ⟨v, rfl, q1, q2⟩; have Q1 := Aside0.mk q1; have Q2 := Aside0.mk q2; clear q1 q2))
      go_loopw [6, 27] (fun v6 v27 wr => ∃ j : Nat, v27 = .int .i64 j ∧ j ≤ N ∧ Aside0 (Acc wr w.heap.size v6 (flat (L.take j)) ∧ Fr No w wr)) (fun _ v27 _ => N - (intOf v27).toNat)
      case atStart => exact ⟨0, rfl, by omega, ⟨Acc.of Q1.out, Q2.out⟩⟩
      case round =>
        obtain ⟨j, rfl, hj, HR2⟩ := hrel
        by_cases hlt2 : j < N
        · obtain ⟨p, hp⟩ := get_some' (xs := L) (i := j) (by have := HL.out; omega)
          obtain ⟨Ai, ci, he, hlc, hmx, hrd, hby⟩ := HP.out p (List.mem_of_getElem? hp)
          obtain ⟨ad, eA, hh⟩ := rdv_at (HR.out.below HR2.out.2.no) hp
          rw [he] at hh
          subst eA
          have hcell := hh
          have HP1 := Aside0.mk hp
          have HS := Aside0.mk (Src.of_rd (P := Try.prog) (size := 1) (m := p.2.length) (c := ci) (hrd.below HR2.out.2.no) (by simp [nums]) (nums_one _ _))
          have HB := Aside0.mk (small_bound (n := (flat (L.take j)).length + p.2.length) (by have := HLEN.out (j + 1); rw [flat_take' hp, List.length_append] at this; omega))
          obtain ⟨n, hn2⟩ : ∃ n, n = p.2.length := ⟨_, rfl⟩
          rw [← hn2] at hcell hlc hmx HS HB
          have HN := Aside0.mk hn2
          clear hp he hrd hby hh hn2
          go_wp2_with (at_builtin; go_must (refine wpl_append wr w.heap.size rfl (.tmp 31) (.tmp 32) 22 22 5 (.int .u8 0) 1 1 (.slice 5) rfl Try.underlying22 Try.underlying22 (.inl ⟨_, rfl⟩) info5 rfl u6 _ _ (.slice Ai n ci) n (nums .u8 p.2) rfl rfl HR2.out.1 HS.out HR2.out.2.size HB.out.1 HB.out.2 ?_; intro v1 w2 g1 _ g3 _; have G1 := Aside0.mk g1; have G3 := Aside0.mk g3; clear g1 g3))
          go_roundw
          case rel => exact ⟨j + 1, by simp, by omega, ⟨by rw [flat_take' HP1.out]; have g := G1.out; rw [← nums_append] at g; exact Acc.of g, own_step HR2.out.2 HR2.out.1 G3.out⟩⟩
          case measure => simp [intOf]; omega
        · obtain rfl : N = j := by omega
          go_wp2_with fail
          go_ret
          have h := HR2.out
          rw [List.take_of_length_le (by have := HL.out; omega)] at h
          exact ⟨_, rfl, h.1, h.2⟩
end Go.Proofs.Ytchcimkmjoegdaa.C
namespace Go.Proofs.Ytchcimkmjoegdaa.C
open Go.RowKit Go.Proofs.YtchcimkmjoegdaaW.PrintWords Go.Proofs.YtchcimkmjoegdaaW.PrintMore Go.Proofs.Ytchcimkmjoegdaa.M
set_option linter.unusedVariables false
set_option linter.unusedSimpArgs false

theorem nums_back {xs : List Int} (h : Byt xs) : bytesOf (strOfNums xs) = xs := by
  show ((xs.map fun n => UInt8.ofNat n.toNat).toArray.toList.map fun b => (b.toNat : Int)) = xs
  simp only [List.map_map]
  conv => rhs; rw [← List.map_id xs]
  apply List.map_congr_left
  intro x hx
  have := h x hx
  simp only [Function.comp_apply, UInt8.toNat_ofNat', id]
  omega
theorem list_back {xs : List Int} (h : Byt xs) : (strOfNums xs).toList.map (fun b => (b.toNat : Int)) = xs := by
  rw [Lib.strOfNums_toList]
  exact nums_back h
theorem str_eq {xs ys : List Int} (hx : Byt xs) (hy : Byt ys) : ((strOfNums xs).toList == (strOfNums ys).toList) = decide (xs = ys) := by
  rw [Bool.eq_iff_iff, beq_iff_eq, decide_eq_true_iff]
  exact ⟨fun h => by rw [← list_back hx, ← list_back hy, h], fun h => by rw [h]⟩
set_option maxHeartbeats 1000000 in
theorem bequal_any (w : World) (A B : Option Addr) (n n' c d : Nat) (xs ys : List Int) (hx : RdV w A (nums .u8 xs)) (hy : RdV w B (nums .u8 ys)) (hl : xs.length = n) (hl' : ys.length = n') (bx : Byt xs) (by' : Byt ys) :
    Calls Try.prog 105 #[.slice A n c, .slice B n' d] w fun e w' => e = .returned (.bool (decide (xs = ys))) ∧ w = w' := by
  have h1 := conv_rd (P := Try.prog) w 22 9 5 Try.underlying22 Try.underlying5 Try.underlying9 A n c xs hl hx
  have h2 := conv_rd (P := Try.prog) w 22 9 5 Try.underlying22 Try.underlying5 Try.underlying9 B n' d ys hl' hy
  have HE := Aside0.mk (str_eq bx by')
  clear hx hy hl hl' bx by'
  go_enter Try.func105, Try.ntmps105
  go_wp2_with fail
  go_ret
  exact ⟨by rw [← HE.out]; rfl, rfl⟩
theorem magic_list : (strOfNums [76, 84, 1]).toList = [76, 84, 1] := by rw [Lib.strOfNums_toList]; rfl
/-- A file's kind. -/
def kindF (xs : List Int) : Int × Bool := if 4 ≤ xs.length ∧ xs.take 3 = [76, 84, 1] then (xs.getD 3 0, true) else (0, false)
theorem Byt.take' {xs : List Int} (h : Byt xs) (k : Nat) : Byt (xs.take k) := fun x hx => h x (List.mem_of_mem_take hx)
theorem Byt.drop' {xs : List Int} (h : Byt xs) (k : Nat) : Byt (xs.drop k) := fun x hx => h x (List.mem_of_mem_drop hx)
theorem byt_magic : Byt [76, 84, 1] := by unfold Byt; decide
set_option maxRecDepth 100000 in
set_option maxHeartbeats 1000000 in
theorem kind_any (w : World) (A : Option Addr) (n c : Nat) (xs : List Int) (hr : RdV w A (nums .u8 xs)) (hl : xs.length = n) (hb : Byt xs) (hc : n ≤ c) (hn : n ≤ 9223372036854775807) :
    Calls Try.prog 62 #[.slice A n c] w fun e w' => e = .returned (.tuple #[.int .u8 (kindF xs).1, .bool (kindF xs).2]) ∧ w = w' := by
  by_cases h4 : n < 4
  · have HK := Aside0.mk (show kindF xs = (0, false) from by unfold kindF; rw [if_neg (by omega)])
    go_enter Try.func62, Try.ntmps62
    go_wp2_with fail
    go_ret2
    exact ⟨by rw [HK.out]; rfl, rfl⟩
  · obtain ⟨i0, hi0, _⟩ := info_parts info5
    have hcut := cuth (P := Try.prog) 22 5 .i64 Try.underlying22 hi0 A n c 3 (by omega)
    have hcv := conv_rd (P := Try.prog) w 22 9 5 Try.underlying22 Try.underlying5 Try.underlying9 A 3 c (xs.take 3) (by rw [List.length_take]; omega) (by have := hr.take 3; rwa [nums_take] at this)
    have HE := Aside0.mk (str_eq (hb.take' 3) byt_magic)
    obtain ⟨x, hx⟩ := get_some (xs := xs) (i := 3) (by omega)
    obtain ⟨ad, eA, hx2⟩ := rd_at hr hx
    subst eA
    have HX := Aside0.mk (show xs.getD 3 0 = x from by rw [List.getD_eq_getElem?_getD, hx]; rfl)
    have h3n : (3 : Int) < n := by omega
    have hd4 : decide ((n : Int) < 4) = false := by simp; omega
    have hx3 : w.cell? ⟨ad.block, ad.off + 3, none⟩ = some (.int .u8 x) := hx2
    clear hx2
    by_cases hm : xs.take 3 = [76, 84, 1]
    · have hbb : ((strOfNums (xs.take 3)).toList == [76, 84, 1]) = true := by have := HE.out; rw [decide_eq_true hm] at this; rw [magic_list] at this; exact this
      have HK := Aside0.mk (show kindF xs = (x, true) from by unfold kindF; rw [if_pos ⟨by omega, hm⟩, HX.out])
      generalize strOfNums (xs.take 3) = s3 at *
      clear hm hx hl hb hr hi0
      go_enter Try.func62, Try.ntmps62
      go_wp2_with fail
      go_ret2
      exact ⟨by rw [HK.out]; rfl, rfl⟩
    · have hbb : ((strOfNums (xs.take 3)).toList == [76, 84, 1]) = false := by have := HE.out; rw [decide_eq_false hm] at this; rw [magic_list] at this; exact this
      have HK := Aside0.mk (show kindF xs = (0, false) from by unfold kindF; rw [if_neg (fun h => hm h.2)])
      generalize strOfNums (xs.take 3) = s3 at *
      clear hm hx hl hb hr hi0
      go_enter Try.func62, Try.ntmps62
      go_wp2_with fail
      go_ret2
      exact ⟨by rw [HK.out]; rfl, rfl⟩
/-- The head's bytes, by cases. -/
theorem kind_cases (xs : List Int) (h : 4 ≤ xs.length) : ∃ a b c d r, xs = a :: b :: c :: d :: r := by
  match xs, h with
  | a :: b :: c :: d :: r, _ => exact ⟨a, b, c, d, r, rfl⟩
set_option maxRecDepth 100000 in
set_option maxHeartbeats 1000000 in
theorem rkind_any (w : World) (A : Option Addr) (n c : Nat) (xs : List Int) (hr : RdV w A (nums .u8 xs)) (hl : xs.length = n) (hb : Byt xs) (hc : n ≤ c) (hn : n ≤ 9223372036854775807) :
    Calls Try.prog 63 #[.slice A n c] w fun e w' => e = .returned (.tuple #[.int .u8 (kindF xs).1, .bool (kindF xs).2]) ∧ w = w' := by
  by_cases h4 : n < 4
  · have HK := Aside0.mk (show kindF xs = (0, false) from by unfold kindF; rw [if_neg (by omega)])
    go_enter Try.func63, Try.ntmps63
    go_wp2_with fail
    go_ret2
    exact ⟨by rw [HK.out]; rfl, rfl⟩
  · have hd4 : decide ((n : Int) < 4) = false := by simp; omega
    obtain ⟨x0, x1, x2, x3, r, rfl⟩ := kind_cases xs (by omega)
    obtain ⟨ad, eA, hcell⟩ := hr (by simp [nums])
    subst eA
    have c0 : w.cell? ad = some (.int .u8 x0) := hcell 0 (.int .u8 x0) rfl
    have c1 : w.cell? ⟨ad.block, ad.off + 1, none⟩ = some (.int .u8 x1) := hcell 1 (.int .u8 x1) rfl
    have c2 : w.cell? ⟨ad.block, ad.off + 2, none⟩ = some (.int .u8 x2) := hcell 2 (.int .u8 x2) rfl
    have c3 : w.cell? ⟨ad.block, ad.off + 3, none⟩ = some (.int .u8 x3) := hcell 3 (.int .u8 x3) rfl
    have h0n : (0 : Int) < n := by omega
    have h1n : (1 : Int) < n := by omega
    have h2n : (2 : Int) < n := by omega
    have h3n : (3 : Int) < n := by omega
    have hk : kindF (x0 :: x1 :: x2 :: x3 :: r) = if x0 = 76 ∧ x1 = 84 ∧ x2 = 1 then (x3, true) else (0, false) := by
      unfold kindF
      simp
    have HK := Aside0.mk hk
    clear hr hcell hl hb hk
    have hcase : ((x0 != 76) = false ∧ (x1 != 84) = false ∧ (x2 != 1) = false) ∨ (x0 != 76) = true ∨ ((x0 != 76) = false ∧ (x1 != 84) = true) ∨ ((x0 != 76) = false ∧ (x1 != 84) = false ∧ (x2 != 1) = true) := by
      cases (x0 != 76) <;> cases (x1 != 84) <;> cases (x2 != 1) <;> simp
    rcases hcase with ⟨b0, b1, b2⟩ | b0 | ⟨b0, b1⟩ | ⟨b0, b1, b2⟩
    · have HB := Aside0.mk (show x0 = 76 ∧ x1 = 84 ∧ x2 = 1 from ⟨by simpa using b0, by simpa using b1, by simpa using b2⟩)
      go_enter Try.func63, Try.ntmps63
      go_wp2_with fail
      go_ret2
      exact ⟨by rw [HK.out, if_pos HB.out]; rfl, rfl⟩
    · have HB := Aside0.mk (show ¬ (x0 = 76 ∧ x1 = 84 ∧ x2 = 1) from fun h => by rw [h.1] at b0; cases b0)
      go_enter Try.func63, Try.ntmps63
      go_wp2_with fail
      go_ret2
      exact ⟨by rw [HK.out, if_neg HB.out]; rfl, rfl⟩
    · have HB := Aside0.mk (show ¬ (x0 = 76 ∧ x1 = 84 ∧ x2 = 1) from fun h => by rw [h.2.1] at b1; cases b1)
      go_enter Try.func63, Try.ntmps63
      go_wp2_with fail
      go_ret2
      exact ⟨by rw [HK.out, if_neg HB.out]; rfl, rfl⟩
    · have HB := Aside0.mk (show ¬ (x0 = 76 ∧ x1 = 84 ∧ x2 = 1) from fun h => by rw [h.2.2] at b2; cases b2)
      go_enter Try.func63, Try.ntmps63
      go_wp2_with fail
      go_ret2
      exact ⟨by rw [HK.out, if_neg HB.out]; rfl, rfl⟩
end Go.Proofs.Ytchcimkmjoegdaa.C
namespace Go.Proofs.Ytchcimkmjoegdaa.C
open Go.RowKit Go.Proofs.YtchcimkmjoegdaaW.PrintWords Go.Proofs.YtchcimkmjoegdaaW.PrintMore Go.Proofs.Ytchcimkmjoegdaa.M
set_option linter.unusedVariables false
set_option linter.unusedSimpArgs false

/-- A sealed file's head with the lengths of its first i sections. -/
def hd (k : Int) (S : List (List Int)) (i : Nat) : List Int := [76, 84, 1, k] ++ uenc S.length ++ (S.take i).flatMap fun s => uenc s.length
def bodyS (k : Int) (S : List (List Int)) : List Int := hd k S S.length ++ S.flatten
/-- What Seal answers: none: too long. -/
def sealF (k : Int) (S : List (List Int)) : Option (List Int) := if 1024 < S.length ∨ 16777216 < (bodyS k S).length + 4 then none else some (sealedB (bodyS k S))
theorem hd_succ {k : Int} {S : List (List Int)} {i : Nat} {s : List Int} (h : S[i]? = some s) : hd k S (i + 1) = hd k S i ++ uenc s.length := by
  unfold hd
  rw [List.take_add_one, h]
  simp
theorem hd_len (k : Int) (S : List (List Int)) (hs : S.length ≤ 1024) (hl : ∀ s ∈ S, s.length < M64) (i : Nat) : (hd k S i).length ≤ 20000 := by
  unfold hd
  have h1 := uenc_10 S.length (by omega)
  have h2 := flat_len (fun s : List Int => uenc s.length) 10 (S.take i) (fun x hx => uenc_10 _ (hl x (List.mem_of_mem_take hx)))
  rw [List.length_take] at h2
  simp only [List.length_append, List.length_cons, List.length_nil]
  omega
theorem hd_le (k : Int) (S : List (List Int)) (i : Nat) : (hd k S i).length ≤ (hd k S S.length).length := by
  unfold hd
  have e : S.take S.length = S.take i ++ S.drop i := by rw [List.take_length, List.take_append_drop]
  rw [e]
  simp only [List.length_append, List.flatMap_append]
  omega
theorem hd_byt {k : Int} (hk : 0 ≤ k ∧ k ≤ 255) (S : List (List Int)) (i : Nat) : Byt (hd k S i) := by
  unfold hd
  refine Byt.app (Byt.app ?_ (byt_uenc _)) (byt_flat (fun s : List Int => uenc s.length) (fun x => byt_uenc _) _)
  intro x hx
  simp only [List.mem_cons, List.mem_nil_iff, or_false] at hx
  rcases hx with rfl | rfl | rfl | rfl <;> omega
theorem byt_flatten {S : List (List Int)} (h : ∀ s ∈ S, Byt s) : Byt S.flatten := fun x hx => by
  obtain ⟨s, hs, hxs⟩ := List.mem_flatten.1 hx
  exact h s hs x hxs
theorem take_flatten_len (S : List (List Int)) (i : Nat) : (S.take i).flatten.length ≤ S.flatten.length := by
  have : S.flatten = (S.take i).flatten ++ (S.drop i).flatten := by rw [← List.flatten_append, List.take_append_drop]
  rw [this, List.length_append]
  omega
theorem flat_map (L : List (Value × List Int)) : flat L = (L.map Prod.snd).flatten := by unfold flat; rw [List.flatMap_def]
/-- How Seal ends. -/
def SealPost (k : Int) (S : List (List Int)) (w : World) (e : Ending) (w' : World) : Prop :=
  ((sealF k S = none ∧ e = .returned (.tuple #[.slice none 0 0, .int .i64 3])) ∨ ∃ b v, sealF k S = some b ∧ e = .returned (.tuple #[v, .int .i64 0]) ∧ Acc w' w.heap.size v b) ∧ Fr No w w'
theorem Part.below {W W' : World} {p : Value × List Int} (h : Part W p) (hb : Below W.heap.size W W') : Part W' p := by
  obtain ⟨A, c, h1, h2, h3, h4, h5⟩ := h
  exact ⟨A, c, h1, h2, h3, h4.below hb, h5⟩
theorem Part.of_acc {W : World} {B : Nat} {v : Value} {b : List Int} (h : Acc W B v b) (hb : Byt b) (hn : b.length ≤ 140737488355328) : Part W (v, b) := by
  obtain ⟨A, c, rfl, hc⟩ := Win.shape h
  exact ⟨A, c, rfl, hc, hn, RdV.of_win h, hb⟩
section
variable {P : Program} {ops : Array Oper} {rest : List Oper} {o : Oper} {a : Act} {Q : Exit → Act → World → Prop}
/-- An append that has no room: what it appends to is only read. -/
theorem wpl_append_new (w : World) (hgd : o.guard = none) (s x : Operand) (t tx e : TypeId) (z : Value) (size bytes : Nat) (dx : TypeDesc)
    (ho : o.op = .call { callee := .builtin .append, args := #[s, x], argTypes := #[t, tx] })
    (ht : P.underlying t = some (.slice e)) (htx : P.underlying tx = some dx) (hnx : (∃ q, dx = .slice q) ∨ dx = .string) (hinfo : (P.info? e).map (fun i => (i.zero, i.size, i.bytes)) = some (some z, size, bytes)) (hzs : z.cells.size = size)
    (A : Option Addr) (n c : Nat) (xs : List Value) (y : Value) (m : Nat) (news : List Value) (hs : a.eval s = .slice A n c) (hx : a.eval x = y)
    (HR : RdV w A xs) (hxl : xs.length = n * size) (HS : Src P w size y m news) (hroom : c < n + m) (hm : n + m ≤ maxLen) (hl : (n + m + (n + m) / 4 + 700) * bytes ≤ 281474976710656)
    (h : ∀ v1 w1, Win w1 w.heap.size e size v1 (n + m) (xs ++ news) → Fr No w w1 → wpList P ops Q rest (a.put o.dst v1) w1) :
    wpList P ops Q (o :: rest) a w := by
  obtain ⟨i0, hi, hzz⟩ := Option.map_eq_some_iff.1 hinfo
  simp only [Prod.mk.injEq] at hzz
  obtain ⟨hz0, hz1, hz2⟩ := hzz
  subst hz1
  subst hz2
  have hr := run_append_new (ty := o.type) w ht htx hnx hi hz0 A n c m xs HR hxl y news HS hroom (by simp only [maxLen] at hm; omega) hl
  have hge := grownCap_ge w (n + m) c e
  have hcm : grownCap w (n + m) c e ≤ maxLen := grownCap_le_maxLen w (n + m) c e hm
  have hlen : (xs ++ news).length = (n + m) * i0.size := by rw [List.length_append, hxl, HS.len, Nat.add_mul]
  refine wpList_plain hgd fun K hK => ?_
  unfold Oper.wp execOp
  simp only [ho, resolve, invoke, builtin, Sem.run_bind, Sem.run_pure, Result.andThen_ok, List.map_toArray, List.map_cons, List.map_nil, hs, hx, hr]
  refine hK _ _ (h _ _ ⟨hlen, .inr ⟨w.heap.size, 0, _, _, rfl, Nat.le_refl _, heap_alloc_new w.drew _, hge, hcm, ?_, ?_⟩⟩ ⟨rfl, rfl, rfl, by simp, fun k hk _ => Go.heap_alloc_old w.drew _ hk⟩)
  · simp only [Array.size_append, List.size_toArray, size_zeroCells, hzs, hxl, HS.len, ← Nat.add_mul]
    have : n + m + (grownCap w (n + m) c e - (n + m)) = grownCap w (n + m) c e := by omega
    rw [this]
    omega
  · simp only [Array.toList_append, List.append_assoc, List.drop_zero]
    rw [← List.append_assoc, ← hlen]
    exact List.take_left
end
/-- A row that is read, whatever its mark. -/
theorem rd_row (w : World) (k : IntKind) (t : TypeId) (xs : List Int) (fr : Nat × Nat) : RdV (w.alloc (.cells (nums k xs).toArray t fr)) (some ⟨w.heap.size, 0, none⟩) (nums k xs) :=
  fun _ => ⟨_, rfl, by simpa using World.news_of_block (cs := (nums k xs).toArray) (t := t) (fr := fr) (heap_alloc_new w (.cells (nums k xs).toArray t fr))⟩
theorem rd_lit_at (w : World) (k : IntKind) (t : TypeId) (xs : List Int) {g : Nat} (h : g = w.heap.size) : RdV (w.alloc (.cells (nums k xs).toArray t)) (some ⟨g, 0, none⟩) (nums k xs) := by
  subst h
  exact rd_lit w k t xs
theorem sum_one (w : World) (B : Nat) (v : Value) (b : List Int) (h : Acc w B v b) (hb : Byt b) (hn : b.length ≤ 140737488355328) :
    Calls Try.prog 58 #[.slice (some ⟨w.heap.size, 0, none⟩) 1 1] (w.alloc (.cells #[v] 22)) fun e w' => e = .returned (.int .u32 (csum b : Nat)) ∧ Fr No w w' := by
  refine (sum_any (w.alloc (.cells #[v] 22)) (some ⟨w.heap.size, 0, none⟩) 1 1 [(v, b)] (fun _ => ⟨_, rfl, by simpa using World.news_of_block (cs := #[v]) (t := 22) (fr := (0, 0)) (heap_alloc_new w (.cells #[v] 22))⟩) rfl (fun p hp => by
    simp only [List.mem_cons, List.mem_nil_iff, or_false] at hp
    subst hp
    exact (Part.of_acc h hb hn).below (below_alloc (Below.refl _ _) _)) (Nat.le_refl _) (by decide)).mono ?_
  rintro e w' ⟨rfl, h2⟩
  refine ⟨?_, below_one h2⟩
  have hf : flat [(v, b)] = b := by simp [flat]
  rw [hf]
  exact ret_int (csum_int hb)
set_option maxRecDepth 100000 in
set_option maxHeartbeats 4000000 in
theorem seal_any (w : World) (k : Int) (A : Option Addr) (N c : Nat) (L : List (Value × List Int)) (hk : 0 ≤ k ∧ k ≤ 255) (hr : RdV w A (L.map Prod.fst)) (hl : L.length = N) (hp : ∀ p ∈ L, Part w p) (hc : N ≤ c) (hn : N ≤ 9223372036854775807) :
    Calls Try.prog 56 #[.int .u8 k, .slice A N c] w (SealPost k (L.map Prod.snd) w) := by
  by_cases hbig : 1024 < N
  · have HS := Aside0.mk (show sealF k (L.map Prod.snd) = none from by unfold sealF; rw [if_pos (.inl (by rw [List.length_map]; omega))])
    clear hr hp hl
    go_enter Try.func56, Try.ntmps56
    go_wp2_with fail
    go_ret2
    exact ⟨.inl ⟨HS.out, rfl⟩, Fr.refl _ _⟩
  have hn2 : N ≤ 1024 := by omega
  have HR := Aside0.mk hr
  have HL := Aside0.mk hl
  have HP := Aside0.mk hp
  have HK := Aside0.mk hk
  obtain ⟨S, hS⟩ : ∃ S, L.map Prod.snd = S := ⟨_, rfl⟩
  rw [hS]
  have HSL := Aside0.mk (show S.length = N from by rw [← hS, List.length_map]; exact hl)
  have HM := Aside0.mk (show ∀ (i : Nat) (p : Value × List Int), L[i]? = some p → S[i]? = some p.2 from fun i p h => by rw [← hS, List.getElem?_map, h]; rfl)
  have HSB := Aside0.mk (show ∀ s ∈ S, s.length ≤ 140737488355328 ∧ Byt s from fun s hs => by
    rw [← hS] at hs
    obtain ⟨p, hp', rfl⟩ := List.mem_map.1 hs
    obtain ⟨_, _, _, _, h1, _, h2⟩ := hp p hp'
    exact ⟨h1, h2⟩)
  have HFL := Aside0.mk (show flat L = S.flatten from by rw [flat_map, hS])
  have HHD := Aside0.mk (show ∀ i, (hd k S i).length ≤ 20000 from hd_len k S (by rw [HSL.out]; exact hn2) (fun s hs => by have := (HSB.out s hs).1; rw [M64_eq]; omega))
  clear hr hl hp hn hbig hk hS
  have kc := fun (w : World) (C : Array Value) (n c : Nat) => Lib.run_convert_bytes_const (P := Try.prog) w 22 5 C n c Try.underlying22 Try.underlying5
  go_enter Try.func56, Try.ntmps56
  go_wp2_with (first | (at_builtin; go_must (refine wpl_append_new _ rfl (.tmp 14) (.tmp 16) 22 22 5 (.int .u8 0) 1 1 (.slice 5) rfl Try.underlying22 Try.underlying22 (.inl ⟨_, rfl⟩) info5 rfl (some ⟨w.heap.size, 0, none⟩) 3 3 (nums .u8 [76, 84, 1]) (.slice (some ⟨w.heap.size + 1, 0, none⟩) 1 1) 1 (nums .u8 [k]) rfl rfl ((rd_row w .u8 5 [76, 84, 1] (3, 4)).below (below_alloc (Below.refl _ _) _)) rfl (Src.of_rd (rd_lit_at _ .u8 5 [k] (by simp)) rfl (nums_one _ _)) (by decide) (by decide) (by decide) ?_; intro v1 w1 g1 g3; have G1 := Aside0.mk (show Acc w1 w.heap.size v1 [76, 84, 1, k] from Acc.of (g1.lower (by simp; omega))); have G3 := Aside0.mk (below_two g3); clear g1 g3)) | (go_at_call 25; go_must (refine (put_step_u w1 w.heap.size v1 _ (N : Int) G1.out G3.out.size (by omega) (by simp)).mono ?_; rintro e' w2 ⟨v2, rfl, q1, q2⟩; have Q1 := Aside0.mk q1; have Q2 := Aside0.mk q2; clear q1 q2)))
  clear kc
  go_loopw [6, 7, 24] (fun v6 v7 v24 wr => ∃ i m : Nat, v24 = .int .i64 i ∧ v7 = .int .i64 m ∧ i ≤ N ∧ m ≤ 16777216 ∧ Aside0 (Acc wr w.heap.size v6 (hd k S i) ∧ Fr No w wr ∧ m = 4 + (S.take i).flatten.length)) (fun _ _ v24 _ => N - (intOf v24).toNat)
  case atStart => exact ⟨0, 4, rfl, rfl, by omega, by omega, ⟨by have q := Q1.out; rw [show ((N : Int)).toNat = N from Int.toNat_natCast N, ← HSL.out] at q; unfold hd; simpa using q, own_step G3.out G1.out (Q2.out.mono (fun _ _ h => h.elim)), rfl⟩⟩
  case round =>
    obtain ⟨i, m, rfl, rfl, hi, hm, HW⟩ := hrel
    by_cases hlt : i < N
    · obtain ⟨p, hp⟩ := get_some' (xs := L) (i := i) (by have := HL.out; omega)
      have HPS := Aside0.mk (HM.out i p hp)
      obtain ⟨Ai, ci, he, hlc, hmx, hrd, hby⟩ := HP.out p (List.mem_of_getElem? hp)
      obtain ⟨ad, eA, hh⟩ := rdv_at (HR.out.below HW.out.2.1.no) hp
      rw [he] at hh
      subst eA
      have hcell := hh
      obtain ⟨n, hn2⟩ : ∃ n, n = p.2.length := ⟨_, rfl⟩
      rw [← hn2] at hcell hlc hmx
      have HN := Aside0.mk hn2
      have HT := Aside0.mk (show (S.take (i + 1)).flatten.length = (S.take i).flatten.length + n from by rw [List.take_add_one, HPS.out, hn2]; simp)
      have HTL := Aside0.mk (take_flatten_len S (i + 1))
      clear hp he hrd hby hh hn2
      by_cases hov : 16777216 < m + n
      · have HS := Aside0.mk (show sealF k S = none from by
          unfold sealF
          refine if_pos (.inr ?_)
          have h1 := HT.out; have h2 := HTL.out; have h3 := HW.out.2.2
          unfold bodyS
          rw [List.length_append]
          omega)
        go_wp2_with (first | (go_at_call 25; go_must (refine (put_step_u wr w.heap.size u6 _ (n : Int) HW.out.1 HW.out.2.1.size (by omega) (by have := HHD.out i; omega)).mono ?_; rintro e' w3 ⟨v3, rfl, q1, q2⟩; have Q3 := Aside0.mk q1; have Q4 := Aside0.mk q2; clear q1 q2)))
        go_ret2
        exact ⟨.inl ⟨HS.out, rfl⟩, HW.out.2.1.trans Q4.out (fun _ _ h => h) (fun _ _ h => h)⟩
      · go_wp2_with (first | (go_at_call 25; go_must (refine (put_step_u wr w.heap.size u6 _ (n : Int) HW.out.1 HW.out.2.1.size (by omega) (by have := HHD.out i; omega)).mono ?_; rintro e' w3 ⟨v3, rfl, q1, q2⟩; have Q3 := Aside0.mk q1; have Q4 := Aside0.mk q2; clear q1 q2)))
        go_roundw
        case rel => exact ⟨i + 1, m + n, by simp, by simp, by omega, by omega, ⟨by rw [hd_succ HPS.out, ← HN.out]; simpa using Q3.out, HW.out.2.1.trans Q4.out (fun _ _ h => h) (fun _ _ h => h), by rw [HT.out, HW.out.2.2]; omega⟩⟩
        case measure => simp [intOf]; omega
    · obtain rfl : N = i := by omega
      have HW1 := Aside0.mk (show Acc wr w.heap.size u6 (hd k S S.length) from by rw [HSL.out]; exact HW.out.1)
      have HMM := Aside0.mk (show m = 4 + S.flatten.length from by have h := HW.out.2.2; rwa [List.take_of_length_le (by have := HSL.out; omega)] at h)
      obtain ⟨A6, c6, e6, hc6⟩ := Win.shape HW1.out
      obtain ⟨n6, hn6⟩ : ∃ n, (hd k S S.length).length = n := ⟨_, rfl⟩
      rw [hn6] at e6 hc6
      subst e6
      have h20 : n6 ≤ 20000 := by rw [← hn6]; exact HHD.out _
      have HN6 := Aside0.mk hn6
      clear hn6
      have hbl : (bodyS k S).length = n6 + (m - 4) := by unfold bodyS; rw [List.length_append, HN6.out]; have := HMM.out; omega
      by_cases hov : 16777216 < n6 + m
      · have HS := Aside0.mk (show sealF k S = none from by
          unfold sealF
          refine if_pos (.inr ?_)
          have := HMM.out
          omega)
        clear hbl
        go_wp2_with fail
        go_ret2
        exact ⟨.inl ⟨HS.out, rfl⟩, HW.out.2.1⟩
      · have HS := Aside0.mk (show sealF k S = some (sealedB (bodyS k S)) from by
          unfold sealF
          refine if_neg ?_
          have := HMM.out
          have := HSL.out
          omega)
        have HBL := Aside0.mk hbl
        clear hbl
        have HCC := Aside0.mk (concat_any wr A N c L (HR.out.below HW.out.2.1.no) HL.out (fun p hp => (HP.out p hp).below HW.out.2.1.no) hc (by omega) (by rw [HFL.out]; have := HMM.out; omega))
        have HBB := Aside0.mk (show Byt (bodyS k S) from (hd_byt HK.out S _).app (byt_flatten (fun s hs => (HSB.out s hs).2)))
        have HB1 := Aside0.mk (small_bound (n := n6 + (flat L).length) (by rw [HFL.out]; have := HMM.out; omega))
        have HB2 := Aside0.mk (small_bound (n := (bodyS k S).length + 4) (by rw [HBL.out]; omega))
        have HBE := Aside0.mk (show hd k S S.length ++ flat L = bodyS k S from by rw [HFL.out]; rfl)
        go_wp2_with (first | ((with_reducible refine gate_builtin (b := .append) (xs := #[.tmp 49, .tmp 53]) rfl ?_); at_builtin; go_must (refine wpl_append w6 w.heap.size rfl (.tmp 49) (.tmp 53) 22 22 5 (.int .u8 0) 1 1 (.slice 5) rfl Try.underlying22 Try.underlying22 (.inl ⟨_, rfl⟩) info5 rfl (.slice A4 (bodyS k S).length c4) _ _ (.slice A7 4 c7) 4 (nums .u8 (four (csum (bodyS k S)))) rfl rfl (Q5.out.2 : Acc w6 w.heap.size (.slice A4 (bodyS k S).length c4) (bodyS k S)) (Src.of_rd (RdV.of_win Q7.out) (by simp [nums, four]) (nums_one _ _)) Q5.out.1.size HB2.out.1 HB2.out.2 ?_; intro v8 w8 g1 _ g3 _; have G5 := Aside0.mk (show Acc w8 w.heap.size v8 (sealedB (bodyS k S)) from Acc.of (by unfold sealedB; rw [nums_append]; exact g1)); have G6 := Aside0.mk (own_step Q5.out.1 Q5.out.2 g3); clear g1 g3; obtain ⟨A8, c8, e8, l8⟩ := Win.shape G5.out; subst e8; have L8 := Aside0.mk l8; clear l8)) | ((with_reducible refine gate_builtin (b := .append) (xs := #[.tmp 45, .tmp 47]) rfl ?_); at_builtin; go_must (refine wpl_append w3 w.heap.size rfl (.tmp 45) (.tmp 47) 22 22 5 (.int .u8 0) 1 1 (.slice 5) rfl Try.underlying22 Try.underlying22 (.inl ⟨_, rfl⟩) info5 rfl (.slice A6 n6 c6) n6 (nums .u8 (hd k S S.length)) (.slice A3 (flat L).length c3) (flat L).length (nums .u8 (flat L)) rfl rfl (by have h := HW1.out.below Q4.out.no; unfold Acc at h; rw [HN6.out] at h; exact h) (Src.of_rd (RdV.of_win Q3.out) (by simp [nums]) (nums_one _ _)) (Nat.le_trans HW.out.2.1.size Q4.out.size) HB1.out.1 HB1.out.2 ?_; intro v4 w4 g1 _ g3 _; have G1 := Aside0.mk (show Acc w4 w.heap.size v4 (bodyS k S) from Acc.of (by rw [← HBE.out, nums_append]; exact g1)); have G3 := Aside0.mk (show Fr No w w4 from own_step (HW.out.2.1.trans Q4.out (fun _ _ h => h) (fun _ _ h => h)) (HW1.out.below Q4.out.no) g3); clear g1 g3; obtain ⟨A4, c4, e4, l4⟩ := Win.shape G1.out; subst e4; have L4 := Aside0.mk l4; clear l4)) | (go_at_call 79; go_must (refine (clip_any _ _ _ _ L8.out (Win.max G5.out)).mono ?_; rintro e' w9 ⟨rfl, rfl⟩)) | (go_at_call 102; go_must (refine (four_any w5 _ (csum_lt _)).mono ?_; rintro e' w6 ⟨v7, rfl, q1, q2⟩; obtain ⟨A7, c7, e7, l7⟩ := q1.shape; subst e7; have Q7 := Aside0.mk q1; have Q5 := Aside0.mk (show Fr No w w6 ∧ Acc w6 w.heap.size (.slice A4 (bodyS k S).length c4) (bodyS k S) from ⟨F5.out.1.trans q2 (fun _ _ h => h) (fun _ _ h => h), F5.out.2.below q2.no⟩); clear q1 q2 l7)) | (go_at_call 58; go_must (refine (sum_one w4 w.heap.size (.slice A4 (bodyS k S).length c4) (bodyS k S) G1.out HBB.out (by have := HBL.out; omega)).mono ?_; rintro e' w5 ⟨rfl, q1⟩; have F5 := Aside0.mk (show Fr No w w5 ∧ Acc w5 w.heap.size (.slice A4 (bodyS k S).length c4) (bodyS k S) from ⟨G3.out.trans q1 (fun _ _ h => h) (fun _ _ h => h), G1.out.below q1.no⟩); clear q1)) | (go_at_call 101; go_must (refine HCC.out.mono ?_; rintro e' w3 ⟨v3, rfl, q1, q2⟩; obtain ⟨A3, c3, e3, l3⟩ := q1.shape; subst e3; have Q3 := Aside0.mk q1; have Q4 := Aside0.mk q2; clear q1 q2 l3)))
        go_ret2
        exact ⟨.inr ⟨_, _, HS.out, rfl, Win.clip G5.out⟩, G6.out⟩
end Go.Proofs.Ytchcimkmjoegdaa.C
namespace Go.Proofs.Ytchcimkmjoegdaa.C
open Go.RowKit Go.Proofs.YtchcimkmjoegdaaW.PrintWords Go.Proofs.YtchcimkmjoegdaaW.PrintMore Go.Proofs.Ytchcimkmjoegdaa.M
set_option linter.unusedVariables false
set_option linter.unusedSimpArgs false

theorem take_flatten_succ {S : List (List Int)} {i : Nat} {s : List Int} (h : S[i]? = some s) : (S.take (i + 1)).flatten = (S.take i).flatten ++ s := by
  rw [List.take_add_one, h]
  simp
set_option maxRecDepth 100000 in
set_option maxHeartbeats 4000000 in
theorem rseal_any (w : World) (k : Int) (A : Option Addr) (N c : Nat) (L : List (Value × List Int)) (hk : 0 ≤ k ∧ k ≤ 255) (hr : RdV w A (L.map Prod.fst)) (hl : L.length = N) (hp : ∀ p ∈ L, Part w p) (hc : N ≤ c) (hn : N ≤ 9223372036854775807) :
    Calls Try.prog 57 #[.int .u8 k, .slice A N c] w (SealPost k (L.map Prod.snd) w) := by
  by_cases hbig : 1024 < N
  · have HS := Aside0.mk (show sealF k (L.map Prod.snd) = none from by unfold sealF; rw [if_pos (.inl (by rw [List.length_map]; omega))])
    clear hr hp hl
    go_enter Try.func57, Try.ntmps57
    go_wp2_with fail
    go_ret2
    exact ⟨.inl ⟨HS.out, rfl⟩, Fr.refl _ _⟩
  have hn2 : N ≤ 1024 := by omega
  have HR := Aside0.mk hr
  have HL := Aside0.mk hl
  have HP := Aside0.mk hp
  have HK := Aside0.mk hk
  obtain ⟨S, hS⟩ : ∃ S, L.map Prod.snd = S := ⟨_, rfl⟩
  rw [hS]
  have HSL := Aside0.mk (show S.length = N from by rw [← hS, List.length_map]; exact hl)
  have HM := Aside0.mk (show ∀ (i : Nat) (p : Value × List Int), L[i]? = some p → S[i]? = some p.2 from fun i p h => by rw [← hS, List.getElem?_map, h]; rfl)
  have HSB := Aside0.mk (show ∀ s ∈ S, s.length ≤ 140737488355328 ∧ Byt s from fun s hs => by
    rw [← hS] at hs
    obtain ⟨p, hp', rfl⟩ := List.mem_map.1 hs
    obtain ⟨_, _, _, _, h1, _, h2⟩ := hp p hp'
    exact ⟨h1, h2⟩)
  have HHD := Aside0.mk (show ∀ i, (hd k S i).length ≤ 20000 from hd_len k S (by rw [HSL.out]; exact hn2) (fun s hs => by have := (HSB.out s hs).1; rw [M64_eq]; omega))
  have HU := Aside0.mk (fun w => refUint_any w N (by rw [M64_eq]; omega))
  have HB0 := Aside0.mk (small_bound (n := 4 + (uenc N).length) (by have := uenc_10 N (by omega); omega))
  clear hr hl hp hn hbig hk hS
  go_enter Try.func57, Try.ntmps57
  go_wp2_with (first | (at_builtin; go_must (refine wpl_append w1 w.heap.size rfl (.tmp 21) (.tmp 22) 22 22 5 (.int .u8 0) 1 1 (.slice 5) rfl Try.underlying22 Try.underlying22 (.inl ⟨_, rfl⟩) info5 rfl (.slice (some ⟨w.heap.size, 0, none⟩) 4 4) 4 (nums .u8 [76, 84, 1, k]) (.slice A1 (uenc N).length c1) (uenc N).length (nums .u8 (uenc N)) rfl rfl ((lit_win w [76, 84, 1, k] (by simp)).below Q2.out.no) (Src.of_rd (RdV.of_win Q1.out) (by simp [nums]) (nums_one _ _)) (below_one Q2.out).size HB0.out.1 HB0.out.2 ?_; intro v2 w2 g1 _ g3 _; have G1 := Aside0.mk (show Acc w2 w.heap.size v2 (hd k S 0) from Acc.of (by have g := g1; rw [← nums_append] at g; unfold hd; rw [HSL.out]; simpa using g)); have G3 := Aside0.mk (own_step (below_one Q2.out) ((lit_win w [76, 84, 1, k] (by simp)).below Q2.out.no) g3); clear g1 g3)) | (go_at_call 29; go_must (refine (HU.out _).mono ?_; rintro e' w1 ⟨v1, rfl, q1, q2⟩; obtain ⟨A1, c1, e1, l1⟩ := q1.shape; subst e1; have Q1 := Aside0.mk q1; have Q2 := Aside0.mk q2; clear q1 q2 l1)))
  go_loopw [6, 8, 9] (fun v6 v8 v9 wr => ∃ i m : Nat, v9 = .int .i64 i ∧ v8 = .int .i64 m ∧ i ≤ N ∧ m ≤ i * 140737488355328 ∧ Aside0 (Acc wr w.heap.size v6 (hd k S i) ∧ Fr No w wr ∧ m = (S.take i).flatten.length)) (fun _ _ v9 _ => N - (intOf v9).toNat)
  case atStart => exact ⟨0, 0, rfl, rfl, by omega, by omega, ⟨G1.out, G3.out, rfl⟩⟩
  case round =>
    obtain ⟨i, m, rfl, rfl, hi, hm, HW⟩ := hrel
    by_cases hlt : i < N
    · obtain ⟨p, hp⟩ := get_some' (xs := L) (i := i) (by have := HL.out; omega)
      have HPS := Aside0.mk (HM.out i p hp)
      obtain ⟨Ai, ci, he, hlc, hmx, hrd, hby⟩ := HP.out p (List.mem_of_getElem? hp)
      obtain ⟨ad, eA, hh⟩ := rdv_at (HR.out.below HW.out.2.1.no) hp
      rw [he] at hh
      subst eA
      have hcell := hh
      have HP1 := Aside0.mk hp
      have HE := Aside0.mk he
      obtain ⟨n, hn2⟩ : ∃ n, n = p.2.length := ⟨_, rfl⟩
      rw [← hn2] at hcell hlc hmx
      have HN := Aside0.mk hn2
      have HUI := Aside0.mk (refUint_any wr n (by rw [M64_eq]; omega))
      have HB1 := Aside0.mk (small_bound (n := (hd k S i).length + (uenc n).length) (by have := uenc_10 n (by omega); have := HHD.out i; omega))
      clear hp he hrd hby hh hn2
      go_wp2_with (first | (at_builtin; go_must (refine wpl_append w3 w.heap.size rfl (.tmp 37) (.tmp 38) 22 22 5 (.int .u8 0) 1 1 (.slice 5) rfl Try.underlying22 Try.underlying22 (.inl ⟨_, rfl⟩) info5 rfl u6 _ _ (.slice A3 (uenc n).length c3) (uenc n).length (nums .u8 (uenc n)) rfl rfl (HW.out.1.below Q4.out.no) (Src.of_rd (RdV.of_win Q3.out) (by simp [nums]) (nums_one _ _)) (Nat.le_trans HW.out.2.1.size Q4.out.size) HB1.out.1 HB1.out.2 ?_; intro v4 w4 g1 _ g3 _; have K1 := Aside0.mk (show Acc w4 w.heap.size v4 (hd k S (i + 1)) from Acc.of (by rw [hd_succ HPS.out, ← HN.out, nums_append]; exact g1)); have K3 := Aside0.mk (own_step (HW.out.2.1.trans Q4.out (fun _ _ h => h) (fun _ _ h => h)) (HW.out.1.below Q4.out.no) g3); have hcell4 : w4.cell? (ad.add i) = some (.slice Ai n ci) := (by have h := rdv_some (HR.out.below K3.out.no) HP1.out; rw [HE.out, ← HN.out] at h; exact h); clear g1 g3)) | (go_at_call 29; go_must (refine HUI.out.mono ?_; rintro e' w3 ⟨v3, rfl, q1, q2⟩; obtain ⟨A3, c3, e3, l3⟩ := q1.shape; subst e3; have Q3 := Aside0.mk q1; have Q4 := Aside0.mk q2; clear q1 q2 l3)))
      go_roundw
      case rel => exact ⟨i + 1, m + n, by simp, by simp, by omega, by omega, ⟨K1.out, K3.out, by rw [take_flatten_succ HPS.out, List.length_append, HN.out, HW.out.2.2]⟩⟩
      case measure => simp [intOf]; omega
    · obtain rfl : N = i := by omega
      obtain ⟨wo, rfl⟩ : ∃ wo : World, wo = wr := ⟨_, rfl⟩
      have HW1 := Aside0.mk (show Acc wo w.heap.size u6 (hd k S S.length) from by rw [HSL.out]; exact HW.out.1)
      have HMM := Aside0.mk (show m = S.flatten.length from by have h := HW.out.2.2; rwa [List.take_of_length_le (by have := HSL.out; omega)] at h)
      obtain ⟨A6, c6, e6, hc6⟩ := Win.shape HW1.out
      obtain ⟨n6, hn6⟩ : ∃ n, (hd k S S.length).length = n := ⟨_, rfl⟩
      rw [hn6] at e6 hc6
      subst e6
      have h20 : n6 ≤ 20000 := by rw [← hn6]; exact HHD.out _
      have HN6 := Aside0.mk hn6
      clear hn6
      have hm2 : m ≤ 1000000000000000000 := by omega
      clear hm
      have hbl : (bodyS k S).length = n6 + m := by unfold bodyS; rw [List.length_append, HN6.out]; have := HMM.out; omega
      by_cases hov : 16777216 < n6 + m + 4
      · have HS := Aside0.mk (show sealF k S = none from by
          unfold sealF
          refine if_pos (.inr ?_)
          omega)
        have hgt : (16777216 : Int) < (n6 : Int) + (m : Int) + 4 := by omega
        clear hbl hov
        go_wp2_with fail
        go_ret2
        exact ⟨.inl ⟨HS.out, rfl⟩, HW.out.2.1⟩
      · have HS := Aside0.mk (show sealF k S = some (sealedB (bodyS k S)) from by
          unfold sealF
          refine if_neg ?_
          have := HSL.out
          omega)
        have HBL := Aside0.mk hbl
        have hgt : ¬ ((16777216 : Int) < (n6 : Int) + (m : Int) + 4) := by omega
        have HLE := Aside0.mk (show n6 + m + 4 ≤ 16777216 from by omega)
        clear hbl hov
        have HBB := Aside0.mk (show Byt (bodyS k S) from (hd_byt HK.out S _).app (byt_flatten (fun s hs => (HSB.out s hs).2)))
        go_wp2_with fail
        go_loopw [6, 11] (fun v6 v11 wr => ∃ j : Nat, v11 = .int .i64 j ∧ j ≤ N ∧ Aside0 (Acc wr w.heap.size v6 (hd k S S.length ++ (S.take j).flatten) ∧ Fr No w wr)) (fun _ v11 _ => N - (intOf v11).toNat)
        case atStart => exact ⟨0, rfl, by omega, ⟨by have h := HW1.out; simpa using h, HW.out.2.1⟩⟩
        case round =>
          obtain ⟨j, rfl, hj, HW2⟩ := hrel
          by_cases hlt2 : j < N
          · obtain ⟨p, hp⟩ := get_some' (xs := L) (i := j) (by have := HL.out; omega)
            have HPS := Aside0.mk (HM.out j p hp)
            obtain ⟨Ai, ci, he, hlc, hmx, hrd, hby⟩ := HP.out p (List.mem_of_getElem? hp)
            obtain ⟨ad, eA, hh⟩ := rdv_at (HR.out.below HW2.out.2.no) hp
            rw [he] at hh
            subst eA
            have hcell := hh
            have HSR := Aside0.mk (Src.of_rd (P := Try.prog) (size := 1) (m := p.2.length) (c := ci) (hrd.below HW2.out.2.no) (by simp [nums]) (nums_one _ _))
            have HB1 := Aside0.mk (small_bound (n := (hd k S S.length ++ (S.take j).flatten).length + p.2.length) (by
              have h1 := take_flatten_len S (j + 1)
              rw [take_flatten_succ HPS.out, List.length_append] at h1
              rw [List.length_append, HN6.out]
              have := HMM.out
              have := HLE.out
              omega))
            obtain ⟨n, hn2⟩ : ∃ n, n = p.2.length := ⟨_, rfl⟩
            rw [← hn2] at hcell hlc hmx HSR HB1
            clear hp he hrd hby hh hn2
            go_wp2_with (at_builtin; go_must (refine wpl_append wr w.heap.size rfl (.tmp 59) (.tmp 63) 22 22 5 (.int .u8 0) 1 1 (.slice 5) rfl Try.underlying22 Try.underlying22 (.inl ⟨_, rfl⟩) info5 rfl u6 _ _ (.slice Ai n ci) n (nums .u8 p.2) rfl rfl HW2.out.1 HSR.out HW2.out.2.size HB1.out.1 HB1.out.2 ?_; intro v1 w2 g1 _ g3 _; have K1 := Aside0.mk (show Acc w2 w.heap.size v1 (hd k S S.length ++ (S.take (j + 1)).flatten) from Acc.of (by rw [take_flatten_succ HPS.out, ← List.append_assoc, nums_append]; exact g1)); have K3 := Aside0.mk (own_step HW2.out.2 HW2.out.1 g3); clear g1 g3))
            go_roundw
            case rel => exact ⟨j + 1, by simp, by omega, ⟨K1.out, K3.out⟩⟩
            case measure => simp [intOf]; omega
          · obtain rfl : N = j := by omega
            have HW3 := Aside0.mk (show Acc wr w.heap.size u6 (bodyS k S) from by have h := HW2.out.1; rwa [List.take_of_length_le (by have := HSL.out; omega)] at h)
            have HSD := Aside0.mk (rsealed_any wr w.heap.size u6 (bodyS k S) HW3.out HBB.out HW2.out.2.size (by have := HBL.out; have := HLE.out; omega))
            go_wp2_with (first | (go_at_call 103; go_must (refine HSD.out.mono ?_; rintro e' w5 ⟨v5, rfl, q1, q2⟩; have Q5 := Aside0.mk q1; have Q6 := Aside0.mk (own_step HW2.out.2 HW3.out q2); clear q1 q2)))
            go_ret2
            exact ⟨.inr ⟨_, _, HS.out, rfl, Q5.out⟩, Q6.out⟩
end Go.Proofs.Ytchcimkmjoegdaa.C
namespace Go.Proofs.Ytchcimkmjoegdaa.C
open Go.RowKit Go.Proofs.YtchcimkmjoegdaaW.PrintWords Go.Proofs.YtchcimkmjoegdaaW.PrintMore Go.Proofs.Ytchcimkmjoegdaa.M
set_option linter.unusedVariables false
set_option linter.unusedSimpArgs false

/-- Sizes read, one behind another. -/
def szN (ys : List Int) (m : Int) (i : Nat × Int) : Nat → List Nat × Nat × Int
  | 0 => ([], i)
  | j + 1 => ((szN ys m i j).1 ++ [(rS ys (szN ys m i j).2.1 (szN ys m i j).2.2 m).1], (rS ys (szN ys m i j).2.1 (szN ys m i j).2.2 m).2)
/-- Blocks read, one behind another. -/
def blN (ys : List Int) (i : Nat × Int) (z : List Nat) : Nat → List (List Int) × Nat × Int
  | 0 => ([], i)
  | j + 1 => ((blN ys i z j).1 ++ [(rB ys (blN ys i z j).2.1 (blN ys i z j).2.2 (z.getD j 0 : Nat)).1], (rB ys (blN ys i z j).2.1 (blN ys i z j).2.2 (z.getD j 0 : Nat)).2)
/-- A file's inside. -/
def innerF (ys : List Int) : List (List Int) × Int :=
  if rE ys (blN ys (szN ys 16777216 (rS ys 0 0 1024).2 (rS ys 0 0 1024).1).2 (szN ys 16777216 (rS ys 0 0 1024).2 (rS ys 0 0 1024).1).1 (rS ys 0 0 1024).1).2.1
      (blN ys (szN ys 16777216 (rS ys 0 0 1024).2 (rS ys 0 0 1024).1).2 (szN ys 16777216 (rS ys 0 0 1024).2 (rS ys 0 0 1024).1).1 (rS ys 0 0 1024).1).2.2 = 0 then
    ((blN ys (szN ys 16777216 (rS ys 0 0 1024).2 (rS ys 0 0 1024).1).2 (szN ys 16777216 (rS ys 0 0 1024).2 (rS ys 0 0 1024).1).1 (rS ys 0 0 1024).1).1, 0)
  else ([], 20)
/-- The file's outside is in order. -/
def outerF (k : Int) (xs : List Int) : Prop := 8 ≤ xs.length ∧ xs.take 3 = [76, 84, 1] ∧ xs.getD 3 0 = k ∧ xs.drop (xs.length - 4) = four (csum (xs.take (xs.length - 4)))
instance (k : Int) (xs : List Int) : Decidable (outerF k xs) := by unfold outerF; infer_instance
/-- What Open answers. -/
def openF (k : Int) (xs : List Int) : List (List Int) × Int :=
  if 16777216 < xs.length then ([], 3) else if outerF k xs then innerF ((xs.take (xs.length - 4)).drop 4) else ([], 20)
/-- Blocks in memory of their own. -/
structure Blks (w : World) (base : Nat) (v : Value) (B : List (Value × List Int)) : Prop where
  hdr : Win w base 22 1 v B.length (B.map Prod.fst)
  win : ∀ p ∈ B, Acc w base p.1 p.2
  sep : ∀ (i j : Nat) (p q : Value × List Int) (k : Nat), i ≠ j → B[i]? = some p → B[j]? = some q → At p.1 k → ¬ At q.1 k
theorem Blks.nil (w : World) (base : Nat) : Blks w base (.slice none 0 0) [] := ⟨Win.nil _ _ _ _, fun p hp => (nomatch hp), fun i j p q k _ h => (by simp at h)⟩
/-- How Open ends. -/
def OpenPost (k : Int) (xs : List Int) (w : World) (e : Ending) (w' : World) : Prop :=
  ∃ v B, e = .returned (.tuple #[v, .int .i64 (openF k xs).2]) ∧ (openF k xs).1 = B.map Prod.snd ∧ Blks w' w.heap.size v B ∧ Fr No w w'
theorem OpenPost.bad {k r : Int} {xs : List Int} {w w' : World} {e : Ending} (h : openF k xs = ([], r)) (he : e = .returned (.tuple #[.slice none 0 0, .int .i64 r])) (hf : Fr No w w') : OpenPost k xs w e w' :=
  ⟨_, [], by rw [h]; exact he, by rw [h]; rfl, Blks.nil _ _, hf⟩
theorem sum_part (w : World) (v : Value) (b : List Int) (h : Part w (v, b)) :
    Calls Try.prog 58 #[.slice (some ⟨w.heap.size, 0, none⟩) 1 1] (w.alloc (.cells #[v] 22)) fun e w' => e = .returned (.int .u32 (csum b : Nat)) ∧ Fr No w w' := by
  refine (sum_any (w.alloc (.cells #[v] 22)) (some ⟨w.heap.size, 0, none⟩) 1 1 [(v, b)] (fun _ => ⟨_, rfl, by simpa using World.news_of_block (cs := #[v]) (t := 22) (fr := (0, 0)) (heap_alloc_new w (.cells #[v] 22))⟩) rfl (fun p hp => by
    simp only [List.mem_cons, List.mem_nil_iff, or_false] at hp
    subst hp
    exact h.below (below_alloc (Below.refl _ _) _)) (Nat.le_refl _) (by decide)).mono ?_
  rintro e w' ⟨rfl, h2⟩
  refine ⟨?_, below_one h2⟩
  have hf : flat [(v, b)] = b := by simp [flat]
  rw [hf]
  exact ret_int (csum_int h.choose_spec.choose_spec.2.2.2.2)
set_option maxRecDepth 100000 in
set_option maxHeartbeats 1000000 in
theorem open_long (w : World) (k : Int) (A : Option Addr) (n c : Nat) (xs : List Int) (hl : xs.length = n) (h : 16777216 < n) (hn : n ≤ 140737488355328) : Calls Try.prog 60 #[.int .u8 k, .slice A n c] w (OpenPost k xs w) := by
  have HO := Aside0.mk (show openF k xs = ([], 3) from by unfold openF; rw [if_pos (by omega)])
  clear hl
  go_enter Try.func60, Try.ntmps60
  go_wp2_with fail
  go_ret2
  exact OpenPost.bad HO.out rfl (Fr.refl _ _)
set_option maxRecDepth 100000 in
set_option maxHeartbeats 2000000 in
theorem open_kind (w : World) (k : Int) (A : Option Addr) (n c : Nat) (xs : List Int) (hr : RdV w A (nums .u8 xs)) (hl : xs.length = n) (hb : Byt xs) (hc : n ≤ c) (h : n ≤ 16777216) (hk : (kindF xs).2 = false ∨ (kindF xs).1 ≠ k ∨ n < 8) : Calls Try.prog 60 #[.int .u8 k, .slice A n c] w (OpenPost k xs w) := by
  have HO := Aside0.mk (show openF k xs = ([], 20) from by
    unfold openF
    rw [if_neg (by omega), if_neg]
    rintro ⟨h1, h2, h3, _⟩
    unfold kindF at hk
    rw [if_pos ⟨by omega, h2⟩] at hk
    rcases hk with hk | hk | hk
    · cases hk
    · exact hk h3
    · omega)
  have HK := Aside0.mk (kind_any w A n c xs hr hl hb hc (by omega))
  have hcase : (kindF xs).2 = false ∨ ((kindF xs).2 = true ∧ (kindF xs).1 ≠ k) ∨ ((kindF xs).2 = true ∧ (kindF xs).1 = k ∧ n < 8) := by
    rcases hq : (kindF xs).2 with _ | _
    · exact .inl rfl
    · by_cases h1 : (kindF xs).1 = k
      · exact .inr (.inr ⟨rfl, h1, (hk.resolve_left (by rw [hq]; simp)).resolve_left (fun h => h h1)⟩)
      · exact .inr (.inl ⟨rfl, h1⟩)
  generalize kindF xs = K at HK hcase
  obtain ⟨k', ok⟩ := K
  simp only at HK hcase
  clear hr hl hb hk
  rcases hcase with rfl | ⟨rfl, h1⟩ | ⟨rfl, rfl, h2⟩
  · go_enter Try.func60, Try.ntmps60
    go_wp2_with (go_at_call 62; go_must (refine HK.out.mono ?_; rintro e' w1 ⟨rfl, rfl⟩))
    go_quiet (fail)
    go_wp2_with fail
    go_ret2
    exact OpenPost.bad HO.out rfl (Fr.drewN _ _)
  · have hb : (k' != k) = true := by simp [h1]
    clear h1
    go_enter Try.func60, Try.ntmps60
    go_wp2_with (go_at_call 62; go_must (refine HK.out.mono ?_; rintro e' w1 ⟨rfl, rfl⟩))
    go_quiet (fail)
    go_wp2_with fail
    go_ret2
    exact OpenPost.bad HO.out rfl (Fr.drewN _ _)
  · have hb : (k' != k') = false := by simp
    have hd : (n : Int) - 4 < 4 := by omega
    go_enter Try.func60, Try.ntmps60
    go_wp2_with (go_at_call 62; go_must (refine HK.out.mono ?_; rintro e' w1 ⟨rfl, rfl⟩))
    go_quiet (fail)
    go_wp2_with fail
    go_ret2
    exact OpenPost.bad HO.out rfl (Fr.drewN _ _)
end Go.Proofs.Ytchcimkmjoegdaa.C
namespace Go.Proofs.Ytchcimkmjoegdaa.C
open Go.RowKit Go.Proofs.YtchcimkmjoegdaaW.PrintWords Go.Proofs.YtchcimkmjoegdaaW.PrintMore Go.Proofs.Ytchcimkmjoegdaa.M
set_option linter.unusedVariables false
set_option linter.unusedSimpArgs false

theorem byt_four {s : Nat} (h : s < 4294967296) : Byt (four s) := by
  intro x hx
  unfold four at hx
  simp only [List.mem_cons, List.mem_nil_iff, or_false] at hx
  rcases hx with rfl | rfl | rfl | rfl <;> omega
/-- The check's parts, as Open asks for them. -/
theorem check_parts (w : World) (A : Option Addr) (n c : Nat) (xs : List Int) (hr : RdV w A (nums .u8 xs)) (hl : xs.length = n + 4) (hb : Byt xs) (hc : n + 4 ≤ c) (h : n ≤ 16777216) :
    ∃ A' : Option Addr, (∀ W : World, (Instr.slice 22 (.slice A (n + 4) c) (some (.int .i64 (n : Int))) none none).run Try.prog W = .ok (.slice A' 4 (c - n)) W) ∧
      (∀ W : World, (Instr.slice 22 (.slice A (n + 4) c) none (some (.int .i64 (n : Int))) none).run Try.prog W = .ok (.slice A n c) W) ∧
      (∀ W : World, Below w.heap.size w W → Calls Try.prog 58 #[.slice (some ⟨W.heap.size, 0, none⟩) 1 1] (W.alloc (.cells #[.slice A n c] 22)) fun e w' => e = .returned (.int .u32 (csum (xs.take n) : Nat)) ∧ Fr No W w') ∧
      (∀ (W : World) (B : Option Addr) (d : Nat), Below w.heap.size w W → RdV W B (nums .u8 (four (csum (xs.take n)))) → Calls Try.prog 105 #[.slice A' 4 (c - n), .slice B 4 d] W fun e w' => e = .returned (.bool (decide (xs.drop n = four (csum (xs.take n))))) ∧ W = w') := by
  obtain ⟨i0, hi, _, hsz, _⟩ := info_parts info5
  obtain ⟨A', hcut, hrd, _⟩ := cut_rd (P := Try.prog) 22 5 .i64 Try.underlying22 hi hsz A (n + 4) c n (by omega)
  rw [show n + 4 - n = 4 from by omega] at hcut
  refine ⟨A', hcut, cuth (P := Try.prog) 22 5 .i64 Try.underlying22 hi A (n + 4) c n (by omega), fun W hW => ?_, fun W B d hW hB => ?_⟩
  · refine sum_part W (.slice A n c) (xs.take n) ⟨A, c, ?_, ?_, ?_, ?_, hb.take' n⟩
    · rw [List.length_take, Nat.min_eq_left (by omega)]
    · rw [List.length_take]; omega
    · rw [List.length_take]; omega
    · have := (hr.take n).below hW; rwa [nums_take] at this
  · refine bequal_any W A' B 4 4 (c - n) d (xs.drop n) (four (csum (xs.take n))) ?_ hB (by rw [List.length_drop]; omega) rfl (hb.drop' n) (byt_four (csum_lt _))
    have := hrd w (nums .u8 xs) hc (by rw [nums_length]; exact hl) hr
    rw [nums_drop] at this
    exact this.below hW
set_option maxRecDepth 100000 in
set_option maxHeartbeats 2000000 in
theorem open_check (w : World) (k : Int) (A : Option Addr) (n c : Nat) (xs : List Int) (hr : RdV w A (nums .u8 xs)) (hl : xs.length = n + 4) (hb : Byt xs) (hc : n + 4 ≤ c) (h : n + 4 ≤ 16777216) (h8 : 4 ≤ n) (hk : kindF xs = (k, true)) (hne : xs.drop n ≠ four (csum (xs.take n))) : Calls Try.prog 60 #[.int .u8 k, .slice A (n + 4) c] w (OpenPost k xs w) := by
  have HO := Aside0.mk (show openF k xs = ([], 20) from by
    unfold openF
    rw [if_neg (by omega), if_neg]
    rintro ⟨h1, h2, h3, h4⟩
    rw [show xs.length - 4 = n from by omega] at h4
    exact hne h4)
  have HK := Aside0.mk (kind_any w A (n + 4) c xs hr hl hb hc (by omega))
  rw [hk] at HK
  simp only at HK
  obtain ⟨A', hcut1, hcut2, hs, he⟩ := check_parts w A n c xs hr hl hb hc (by omega)
  rw [decide_eq_false hne] at he
  have HS := Aside0.mk hs
  have HE := Aside0.mk he
  obtain ⟨s, hsv⟩ : ∃ s, csum (xs.take n) = s := ⟨_, rfl⟩
  have hlt : s < 4294967296 := by rw [← hsv]; exact csum_lt _
  rw [hsv] at HS HE
  have HF := Aside0.mk (fun W => four_any W s hlt)
  have hbk : (k != k) = false := by simp
  have hgt : ¬ ((16777216 : Int) < (n : Int) + 4) := by omega
  have hn8 : ¬ ((n : Int) < 4) := by omega
  have hdn : decide ((n : Int) < 4) = false := by simp; omega
  have h' : n ≤ 16777212 := by omega
  clear hr hl hb hk hne hs he hsv hlt h
  go_enter Try.func60, Try.ntmps60
  go_wp2_with (go_at_call 62; go_must (refine HK.out.mono ?_; rintro e' w1 ⟨rfl, rfl⟩))
  go_region_held3 (fun w' => Aside0 (Below w.heap.size w w')) ((first | exact ⟨below_drew (Below.refl _ _)⟩ | exact ⟨below_drew (below_alloc (Below.refl _ _) _)⟩ | assumption)) (first | (go_at_call 105; refine (HE.out _ _ _ B7.out (RdV.of_win Q7.out)).mono ?_; rintro e w8 ⟨rfl, rfl⟩) | (go_at_call 102; refine (HF.out _).mono ?_; rintro e w7 ⟨v7, rfl, q1, q2⟩; obtain ⟨A7, c7, e7, l7⟩ := q1.shape; subst e7; have Q7 := Aside0.mk q1; have B7 := Aside0.mk (accNo B5.out (Nat.le_refl _) q2); clear q1 q2 l7) | (go_at_call 58; refine (HS.out w.drew (below_drew (Below.refl _ _))).mono ?_; rintro e w5 ⟨rfl, q1⟩; have B5 := Aside0.mk (accNo (below_drew (Below.refl w.heap.size w)) (Nat.le_refl _) q1); clear q1))
  go_wp2_with fail
  go_ret2
  exact OpenPost.bad HO.out rfl (Fr.of_No B7.out)
end Go.Proofs.Ytchcimkmjoegdaa.C
namespace Go.Proofs.Ytchcimkmjoegdaa.C
open Go.RowKit Go.Proofs.YtchcimkmjoegdaaW.PrintWords Go.Proofs.YtchcimkmjoegdaaW.PrintMore Go.Proofs.Ytchcimkmjoegdaa.M
set_option linter.unusedVariables false
set_option linter.unusedSimpArgs false

theorem rS_max {ys : List Int} {i : Nat} {e m : Int} (hm : 0 ≤ m) : ((rS ys i e m).1 : Int) ≤ m := by
  unfold rS
  split
  · split
    · exact hm
    · split
      · assumption
      · exact hm
  · exact hm
theorem info3 : (Try.prog.info? 3).map (fun i => (i.zero, i.size, i.bytes)) = some (some (.int .i64 0), 1, 8) := by kernel_rfl
theorem info22 : (Try.prog.info? 22).map (fun i => (i.zero, i.size, i.bytes)) = some (some (.slice none 0 0), 1, 24) := by kernel_rfl
theorem lit_winT (w : World) (t : TypeId) (xs : List Value) (hx : xs.length ≤ 1048576) : Win (w.alloc (.cells xs.toArray t)) w.heap.size t 1 (.slice (some ⟨w.heap.size, 0, none⟩) xs.length xs.length) xs.length xs :=
  ⟨by rw [Nat.mul_one], .inr ⟨w.heap.size, 0, xs.length, _, rfl, Nat.le_refl _, heap_alloc_new w _, Nat.le_refl _, by simp only [maxLen]; omega, by simp, by simp⟩⟩
theorem make_ints (W : World) (K : Nat) (hK : K ≤ 1048576) : (Instr.makeSlice 99 (.int .i64 (K : Int)) (.int .i64 (K : Int))).run Try.prog W = .ok (.slice (some ⟨W.heap.size, 0, none⟩) K K) (W.alloc (.cells (nums .i64 (List.replicate K 0)).toArray 3)) := by
  obtain ⟨i0, hi, hz, hs, hb⟩ := info_parts info3
  have h := run_makeSlice (P := Try.prog) W 99 3 i0 (.int .i64 0) Try.underlying99 hi hz .i64 .i64 K K (by omega) (Int.le_refl _) (by rw [hs]; simp; omega) (by rw [hb]; omega) (by omega)
  rw [hs, Nat.mul_one, Int.toNat_natCast] at h
  rw [h]
  have e : madeCells (Value.cells (.int .i64 0)) K = (nums .i64 (List.replicate K 0)).toArray := by
    apply Array.ext
    · simp [madeCells, nums]
    · intro j h1 h2
      simp [madeCells, nums, Value.cells, Nat.mod_one]
  rw [e]
theorem szN_len (ys : List Int) (m : Int) (p : Nat × Int) : ∀ j, (szN ys m p j).1.length = j
  | 0 => rfl
  | j + 1 => by rw [szN, List.length_append, szN_len ys m p j]; rfl
theorem szN_max (ys : List Int) (m : Int) (p : Nat × Int) (hm : 0 ≤ m) : ∀ j, ∀ x ∈ (szN ys m p j).1, (x : Int) ≤ m
  | 0, x, hx => nomatch hx
  | j + 1, x, hx => by
    rw [szN] at hx
    rcases List.mem_append.1 hx with hx | hx
    · exact szN_max ys m p hm j x hx
    · simp only [List.mem_cons, List.mem_nil_iff, or_false] at hx
      subst hx
      exact rS_max hm
theorem innerF_eq {ys : List Int} {K i3 : Nat} {p1 p2 : Nat × Int} {z : List Nat} {e3 : Int} {L : List (List Int)} (h1 : rS ys 0 0 1024 = (K, p1)) (h2 : szN ys 16777216 p1 K = (z, p2)) (h3 : blN ys p2 z K = (L, i3, e3)) :
    innerF ys = if rE ys i3 e3 = 0 then (L, 0) else ([], 20) := by
  unfold innerF
  simp only [h1, h2, h3]
/-- A reader's predicate: whose block it is, and what leaves it alone. -/
structure RdP (g : Nat) (R : World → Nat → Int → Prop) : Prop where
  fr : ∀ {S : Nat → Prop} {W W' : World} {i : Nat} {e : Int}, R W i e → Fr S W W' → ¬ S g → (∀ k cur, S k → W.heap[k]? ≠ some (.cells cur 5 (0, 0))) → R W' i e
  ty : ∀ {W : World} {i : Nat} {e : Int}, R W i e → ∃ cur t, W.heap[g]? = some (.cells cur t (0, 0)) ∧ t ≠ 5 ∧ t ≠ 22 ∧ t ≠ 3
theorem rdP_cod (base g : Nat) (ys : List Int) : RdP g (fun W i e => Rdr W base g ys i e) :=
  ⟨fun h f hg hS => h.fr f hg hS, fun h => by
    obtain ⟨_, _, v, h3, _⟩ := h
    exact ⟨_, _, h3, by decide, by decide, by decide⟩⟩
theorem rdP_mod (g : Nat) (v : Value) : RdP g (fun W i e => W.heap[g]? = some (.cells #[v, .int .i64 (i : Nat), .int .i64 e] 67 (0, 0))) :=
  ⟨fun h f hg _ => f.get h hg, fun h => ⟨_, _, h, by decide, by decide, by decide⟩⟩
/-- A window whose type is not a block's. -/
theorem win_not_at {w : World} {base size n t e : Nat} {v : Value} {xs : List Value} {cur : Array Value} {g : Nat} (h : Win w base e size v n xs) (hg : w.heap[g]? = some (.cells cur t (0, 0))) (ht : t ≠ e) : ¬ At v g := fun hk => ht (h.ne_type hk hg).symm
section
variable {g base : Nat} {R : World → Nat → Int → Prop} {w W W1 W2 : World}
/-- Behind j sizes, laid into a slice that was made. -/
structure SzSt (R : World → Nat → Int → Prop) (base : Nat) (gs K : Nat) (ys : List Int) (m : Int) (p : Nat × Int) (w W : World) (j : Nat) : Prop where
  rd : R W (szN ys m p j).2.1 (szN ys m p j).2.2
  sz : Win W base 3 1 (.slice (some ⟨gs, 0, none⟩) K K) K (nums .i64 ((szN ys m p j).1.map Int.ofNat ++ List.replicate (K - j) 0))
  bel : Below base w W
theorem SzSt.step (P : RdP g R) (hg : base ≤ g) (hw : base ≤ w.heap.size) {gs K j : Nat} {ys : List Int} {m : Int} {p : Nat × Int} (h : SzSt R base gs K ys m p w W j) (hj : j < K) (f1 : Fr (One g) W W1) (hr : R W1 (rS ys (szN ys m p j).2.1 (szN ys m p j).2.2 m).2.1 (rS ys (szN ys m p j).2.1 (szN ys m p j).2.2 m).2.2) :
    W1.cell? ⟨gs, j, none⟩ = some (.int .i64 0) ∧ W1.frozen? ⟨gs, j, none⟩ = false ∧ SzSt R base gs K ys m p w (W1.setCell ⟨gs, j, none⟩ (.int .i64 ((rS ys (szN ys m p j).2.1 (szN ys m p j).2.2 m).1 : Nat))) (j + 1) := by
  obtain ⟨cur, t, hb, ht5, ht22, ht3⟩ := P.ty h.rd
  have hsz := h.sz.fr f1 (fun k hk hS => win_not_at h.sz hb ht3 (by have : k = g := hS; subst this; exact hk))
  obtain ⟨cur1, t1, hb1, ht51, _, ht31⟩ := P.ty hr
  have hx : (nums .i64 ((szN ys m p j).1.map Int.ofNat ++ List.replicate (K - j) 0))[j]? = some (.int .i64 0) := by
    unfold nums
    rw [List.getElem?_map, List.getElem?_append_right (by rw [List.length_map, szN_len]; exact Nat.le_refl _), List.length_map, szN_len, Nat.sub_self]
    have : 0 < K - j := by omega
    simp [List.getElem?_replicate, this]
  obtain ⟨c1, c2⟩ := hsz.cell hx
  rw [Nat.zero_add] at c1 c2
  obtain ⟨s1, s2⟩ := hsz.store j hj (.int .i64 ((rS ys (szN ys m p j).2.1 (szN ys m p j).2.2 m).1 : Nat))
  rw [Nat.zero_add] at s1 s2
  refine ⟨c1, c2, P.fr hr s2 (win_not_at hsz hb1 ht31) (fun k cur hk hc => by have := hsz.ne_type hk hc; exact absurd this (by decide)), ?_, ?_⟩
  · have e : (nums .i64 ((szN ys m p j).1.map Int.ofNat ++ List.replicate (K - j) 0)).set j (.int .i64 ((rS ys (szN ys m p j).2.1 (szN ys m p j).2.2 m).1 : Nat)) = nums .i64 ((szN ys m p (j + 1)).1.map Int.ofNat ++ List.replicate (K - (j + 1)) 0) := by
      have hl := szN_len ys m p j
      rw [szN]
      generalize (szN ys m p j).1 = l at hl
      generalize (rS ys (szN ys m p j).2.1 (szN ys m p j).2.2 m).1 = x
      subst hl
      rw [show K - l.length = (K - (l.length + 1)) + 1 from by omega, List.replicate_succ]
      simp [nums, List.set_append_right]
    rw [← e]
    exact s1
  · exact acc (acc h.bel hw f1 (fun i hi => by have : i = g := hi; omega)) hw s2 (fun i hi => (hsz.at_ hi).1)
/-- Behind j blocks. -/
structure BlSt (R : World → Nat → Int → Prop) (base : Nat) (vs : Value) (ys : List Int) (z : List Nat) (p : Nat × Int) (w W : World) (v : Value) (B : List (Value × List Int)) (j : Nat) : Prop where
  rd : R W (blN ys p z j).2.1 (blN ys p z j).2.2
  sz : Win W base 3 1 vs z.length (nums .i64 (z.map Int.ofNat))
  bl : Blks W base v B
  eq : B.map Prod.snd = (blN ys p z j).1
  bel : Below base w W
theorem BlSt.hdr1 (P : RdP g R) {j : Nat} {ys : List Int} {z : List Nat} {p : Nat × Int} {vs v : Value} {B : List (Value × List Int)} (h : BlSt R base vs ys z p w W v B j) (hj : B.length = j) (f1 : Fr (One g) W W1) : Win W1 base 22 1 v j (B.map Prod.fst) := by
  obtain ⟨cur, t, hb, _, ht, _⟩ := P.ty h.rd
  have h := h.bl.hdr
  rw [hj] at h
  exact h.fr f1 (fun k hk hS => win_not_at h hb ht (by have : k = g := hS; subst this; exact hk))
theorem BlSt.step (P : RdP g R) (hg : base ≤ g) (hw : base ≤ w.heap.size) {j len : Nat} {ys : List Int} {z : List Nat} {p : Nat × Int} {vs v v' x : Value} {B : List (Value × List Int)} (h : BlSt R base vs ys z p w W v B j) (f1 : Fr (One g) W W1)
    (hr : R W1 (rB ys (blN ys p z j).2.1 (blN ys p z j).2.2 (z.getD j 0 : Nat)).2.1 (rB ys (blN ys p z j).2.1 (blN ys p z j).2.2 (z.getD j 0 : Nat)).2.2)
    (hx : Win W1 W.heap.size 5 1 x len (nums .u8 (rB ys (blN ys p z j).2.1 (blN ys p z j).2.2 (z.getD j 0 : Nat)).1))
    (hv : Win W2 base 22 1 v' (B.length + 1) (B.map Prod.fst ++ [x])) (f2 : Fr (At v) W1 W2) :
    BlSt R base vs ys z p w W2 v' (B ++ [(x, (rB ys (blN ys p z j).2.1 (blN ys p z j).2.2 (z.getD j 0 : Nat)).1)]) (j + 1) := by
  obtain ⟨cur, t, hb, ht5, ht22, ht3⟩ := P.ty h.rd
  obtain ⟨cur1, t1, hb1, ht51, ht221, ht31⟩ := P.ty hr
  have one : ∀ {e n : Nat} {u : Value} {xs : List Value}, Win W base e 1 u n xs → t ≠ e → Win W1 base e 1 u n xs := fun hu he => hu.fr f1 (fun k hk hS => win_not_at hu hb he (by have : k = g := hS; subst this; exact hk))
  have hdr1 := one h.bl.hdr ht22
  have two : ∀ {b e n : Nat} {u : Value} {xs : List Value}, Win W1 b e 1 u n xs → e ≠ 22 → Win W2 b e 1 u n xs := fun hu he => hu.fr f2 (fun k hk hS => by
    obtain ⟨_, _, c1, hc1⟩ := hdr1.at_ hS
    exact he (hu.ne_type hk hc1))
  have hbW : base ≤ W.heap.size := Nat.le_trans hw h.bel.size
  refine ⟨P.fr hr f2 (win_not_at hdr1 hb1 ht221) (fun k c hk hc => absurd (hdr1.ne_type hk hc) (by decide)), two (one h.sz ht3) (by decide), ⟨?_, fun q hq => ?_, fun i i' q q' k hne hi hi' hk hk' => ?_⟩, ?_, ?_⟩
  · rw [List.map_append, List.length_append]
    exact hv
  · rcases List.mem_append.1 hq with hq | hq
    · exact two (one (h.bl.win q hq) ht5) (by decide)
    · simp only [List.mem_cons, List.mem_nil_iff, or_false] at hq
      subst hq
      exact Acc.of ((two hx (by decide)).lower hbW)
  · have old : ∀ {i : Nat} {q : Value × List Int}, i < B.length → (B ++ [(x, (rB ys (blN ys p z j).2.1 (blN ys p z j).2.2 (z.getD j 0 : Nat)).1)])[i]? = some q → B[i]? = some q := fun hi hq => by rwa [List.getElem?_append_left hi] at hq
    have new : ∀ {i : Nat} {q : Value × List Int}, ¬ i < B.length → (B ++ [(x, (rB ys (blN ys p z j).2.1 (blN ys p z j).2.2 (z.getD j 0 : Nat)).1)])[i]? = some q → q.1 = x ∧ i = B.length := fun {i q} hi hq => by
      have := (List.getElem?_eq_some_iff.1 hq).1
      rw [List.length_append] at this
      simp at this
      obtain rfl : i = B.length := by omega
      simp at hq
      exact ⟨by rw [← hq], rfl⟩
    by_cases hl : i < B.length
    · have q1 := old hl hi
      by_cases hl' : i' < B.length
      · exact h.bl.sep i i' q q' k hne q1 (old hl' hi') hk hk'
      · obtain ⟨e1, _⟩ := new hl' hi'
        rw [e1] at hk'
        have a1 := ((h.bl.win q (List.mem_of_getElem? q1)).at_ hk).2.1
        have a2 := (hx.at_ hk').1
        omega
    · obtain ⟨e1, e2⟩ := new hl hi
      by_cases hl' : i' < B.length
      · rw [e1] at hk
        have a1 := ((h.bl.win q' (List.mem_of_getElem? (old hl' hi'))).at_ hk').2.1
        have a2 := (hx.at_ hk).1
        omega
      · obtain ⟨_, e3⟩ := new hl' hi'
        exact hne (e2.trans e3.symm)
  · rw [List.map_append, h.eq]
    rfl
  · exact acc (acc h.bel hw f1 (fun i hi => by have : i = g := hi; omega)) hw f2 (fun i hi => (hdr1.at_ hi).1)
/-- Open's end: the blocks, clipped. -/
theorem OpenPost.good {k : Int} {xs : List Int} {L : List (List Int)} {ys : List Int} {z : List Nat} {p : Nat × Int} {vs : Value} {B : List (Value × List Int)} {A : Option Addr} {K c j : Nat} (h : openF k xs = (L, 0)) (hB : B.map Prod.snd = L) (hl : B.length = K) (hS : BlSt R w.heap.size vs ys z p w W (.slice A K c) B j) (P : RdP g R) (hg : w.heap.size ≤ g) (f : Fr (One g) W W1) :
    OpenPost k xs w (.returned (.tuple #[.slice A K K, .int .i64 0])) W1 := by
  obtain ⟨cur, t, hb, ht5, ht22, ht3⟩ := P.ty hS.rd
  have one : ∀ {e n : Nat} {u : Value} {xs : List Value}, Win W w.heap.size e 1 u n xs → t ≠ e → Win W1 w.heap.size e 1 u n xs := fun hu he => hu.fr f (fun k hk hS => win_not_at hu hb he (by have : k = g := hS; subst this; exact hk))
  refine ⟨.slice A K K, B, by rw [h], by rw [h, hB], ⟨?_, fun q hq => one (hS.bl.win q hq) ht5, hS.bl.sep⟩, Fr.of_No (acc hS.bel (Nat.le_refl _) f (fun i hi => by have : i = g := hi; omega))⟩
  have h1 := one hS.bl.hdr ht22
  rw [hl] at h1 ⊢
  exact h1.clip
end
end Go.Proofs.Ytchcimkmjoegdaa.C
namespace Go.Proofs.Ytchcimkmjoegdaa.C
open Go.RowKit Go.Proofs.YtchcimkmjoegdaaW.PrintWords Go.Proofs.YtchcimkmjoegdaaW.PrintMore Go.Proofs.Ytchcimkmjoegdaa.M
set_option linter.unusedVariables false
set_option linter.unusedSimpArgs false

set_option maxRecDepth 100000 in
set_option maxHeartbeats 4000000 in
theorem open_read (w : World) (k : Int) (A : Option Addr) (n c : Nat) (xs : List Int) (hr : RdV w A (nums .u8 xs)) (hl : xs.length = n + 4) (hb : Byt xs) (h0 : A = none → c = 0) (hc : n + 4 ≤ c) (h : n + 4 ≤ 16777216) (h8 : 4 ≤ n) (hk : kindF xs = (k, true)) (heq : xs.drop n = four (csum (xs.take n))) : Calls Try.prog 60 #[.int .u8 k, .slice A (n + 4) c] w (OpenPost k xs w) := by
  obtain ⟨ys, hys⟩ : ∃ ys, (xs.take n).drop 4 = ys := ⟨_, rfl⟩
  have HO := Aside0.mk (show openF k xs = innerF ys from by
    unfold openF
    have hkk : 8 ≤ xs.length ∧ xs.take 3 = [76, 84, 1] ∧ xs.getD 3 0 = k := by
      unfold kindF at hk
      split at hk
      · rename_i h; exact ⟨by omega, h.2, (Prod.mk.inj hk).1⟩
      · cases (Prod.mk.inj hk).2
    rw [if_neg (by omega), if_pos ⟨hkk.1, hkk.2.1, hkk.2.2, by rw [show xs.length - 4 = n from by omega]; exact heq⟩, show xs.length - 4 = n from by omega, hys])
  have HK := Aside0.mk (kind_any w A (n + 4) c xs hr hl hb hc (by omega))
  rw [hk] at HK
  simp only at HK
  obtain ⟨A', hcut1, hcut2, hs, he⟩ := check_parts w A n c xs hr hl hb hc (by omega)
  rw [decide_eq_true heq] at he
  have HS := Aside0.mk hs
  have HE := Aside0.mk he
  obtain ⟨s, hsv⟩ : ∃ s, csum (xs.take n) = s := ⟨_, rfl⟩
  have hlt : s < 4294967296 := by rw [← hsv]; exact csum_lt _
  rw [hsv] at HS HE
  have HF := Aside0.mk (fun W => four_any W s hlt)
  obtain ⟨i0, hi, _, hsz, _⟩ := info_parts info5
  obtain ⟨A2, hcut3, hrd, hn2⟩ := cutlh_rd (P := Try.prog) 22 5 .i64 .i64 Try.underlying22 hi hsz A (n + 4) c 4 n h8 (by omega) hc
  have hyl : ys.length = n - 4 := by rw [← hys, List.length_drop, List.length_take]; omega
  have hyb : Byt ys := by rw [← hys]; exact (hb.take' n).drop' 4
  have HN := Aside0.mk (fun (W : World) (hW : Below w.heap.size w W) => NewReader_any W A2 (n - 4) (c - 4) ys (by
    have := hrd w (nums .u8 xs) (by rw [nums_length]; exact hl) hr
    rw [nums_drop, nums_take, ← List.drop_take, hys] at this
    exact this.below hW) hyl (fun e => by have := h0 (hn2 e); omega) (by omega) (by omega))
  have hcut4 : ∀ W : World, (Instr.slice 22 (.slice A (n + 4) c) (some (.int .i64 4)) (some (.int .i64 (n : Int))) none).run Try.prog W = .ok (.slice A2 (n - 4) (c - 4)) W := hcut3
  clear hcut3
  have hbk : (k != k) = false := by simp
  have hgt : ¬ ((16777216 : Int) < (n : Int) + 4) := by omega
  have hn8 : ¬ ((n : Int) < 4) := by omega
  have hdn : decide ((n : Int) < 4) = false := by simp; omega
  have h' : n ≤ 16777212 := by omega
  have HYL := Aside0.mk hyl
  have HYB := Aside0.mk hyb
  have h4n : (4 : Int) ≤ n := by omega
  clear hr hl hb hk heq hs he hsv hlt h hyl hyb hrd hn2 hi hsz hys h0
  go_enter Try.func60, Try.ntmps60
  go_wp2_with (go_at_call 62; go_must (refine HK.out.mono ?_; rintro e' w1 ⟨rfl, rfl⟩))
  go_region_held3 (fun w' => Aside0 (Below w.heap.size w w')) ((first | exact ⟨below_drew (Below.refl _ _)⟩ | exact ⟨below_drew (below_alloc (Below.refl _ _) _)⟩ | assumption)) (first | (go_at_call 105; refine (HE.out _ _ _ B7.out (RdV.of_win Q7.out)).mono ?_; rintro e w8 ⟨rfl, rfl⟩) | (go_at_call 102; refine (HF.out _).mono ?_; rintro e w7 ⟨v7, rfl, q1, q2⟩; obtain ⟨A7, c7, e7, l7⟩ := q1.shape; subst e7; have Q7 := Aside0.mk q1; have B7 := Aside0.mk (accNo B5.out (Nat.le_refl _) q2); clear q1 q2 l7) | (go_at_call 58; refine (HS.out w.drew (below_drew (Below.refl _ _))).mono ?_; rintro e w5 ⟨rfl, q1⟩; have B5 := Aside0.mk (accNo (below_drew (Below.refl w.heap.size w)) (Nat.le_refl _) q1); clear q1))
  have hKm := rS_max (ys := ys) (i := 0) (e := 0) (m := 1024) (by decide)
  have HSZ := Aside0.mk (fun (W : World) (b g : Nat) (h : Rdr W b g ys 0 0) => Size_any W b g 0 ys 0 1024 h HYB.out (by decide))
  have HIN := Aside0.mk (show innerF ys = innerF ys from rfl)
  generalize hK : rS ys 0 0 1024 = K at hKm HSZ
  obtain ⟨K, i1, e1⟩ := K
  simp only at hKm HSZ
  have HK1 := Aside0.mk hK
  have hKn : K ≤ 1024 := by omega
  have hmake := fun W => make_ints W K (by omega)
  clear hK hKm HIN
  go_wp2_with (first | (go_at_call 53; go_must (refine (HSZ.out _ _ _ Q9.out.1).mono ?_; rintro e' w10 ⟨rfl, q1, q2⟩; have R1 := Aside0.mk q1; have B10 := Aside0.mk (accOne Q9.out.2 (Nat.le_refl _) q2 (Nat.le_trans B7.out.size Q9.out.1.1)); clear q1 q2)) | (go_at_call 18; go_must (refine (HN.out _ B7.out).mono ?_; rintro e' w9 ⟨g, rfl, q1, q2⟩; have Q9 := Aside0.mk (And.intro q1 (accNo B7.out (Nat.le_refl _) q2)); clear q1 q2)))
  have hge : w.heap.size ≤ g := Nat.le_trans B7.out.size Q9.out.1.1
  have PR := Aside0.mk (rdP_cod w.heap.size g ys)
  obtain ⟨gs, hgs⟩ : ∃ gs, gs = w10.heap.size := ⟨_, rfl⟩
  have H0 := Aside0.mk (show SzSt (fun W i e => Rdr W w.heap.size g ys i e) w.heap.size gs K ys 16777216 (i1, e1) w (w10.alloc (.cells (nums .i64 (List.replicate K 0)).toArray 3)) 0 from by
    refine ⟨(R1.out.lower B7.out.size).below (below_alloc (Below.refl _ _) _), ?_, accAlloc B10.out (Nat.le_refl _) _⟩
    have h := lit_winT w10 3 (nums .i64 (List.replicate K 0)) (by rw [nums_length, List.length_replicate]; omega)
    rw [nums_length, List.length_replicate] at h
    rw [hgs]
    exact h.lower B10.out.size)
  rw [← hgs]
  generalize World.alloc w10 _ = W0 at H0 ⊢
  clear hmake hgs
  go_loopw [59] (fun v59 wr => ∃ j : Nat, v59 = .int .i64 j ∧ j ≤ K ∧ Aside0 (SzSt (fun W i e => Rdr W w.heap.size g ys i e) w.heap.size gs K ys 16777216 (i1, e1) w wr j)) (fun v59 _ => K - (intOf v59).toNat)
  case atStart => exact ⟨0, rfl, by omega, H0⟩
  case round =>
    obtain ⟨j, rfl, hj, HJ⟩ := hrel
    by_cases hlt : j < K
    · go_wp2_with (go_at_call 53; go_must (refine (Size_any wr w.heap.size g _ ys _ 16777216 HJ.out.rd HYB.out (by decide)).mono ?_; rintro e' w11 ⟨rfl, q1, q2⟩; obtain ⟨hc, hf, hs⟩ := SzSt.step PR.out hge (Nat.le_refl _) HJ.out hlt q2 q1; have HS1 := Aside0.mk hs; clear q1 q2 hs))
      go_roundw
      case rel => exact ⟨j + 1, by simp, by omega, HS1⟩
      case measure => simp [intOf]; omega
    · obtain rfl : K = j := by omega
      have HJ1 := Aside0.mk HJ.out
      obtain ⟨z, i2, e2, hz⟩ : ∃ z i2 e2, szN ys 16777216 (i1, e1) K = (z, i2, e2) := ⟨_, _, _, rfl⟩
      have hzl : z.length = K := by have := szN_len ys 16777216 (i1, e1) K; rw [hz] at this; exact this
      have HZL := Aside0.mk hzl
      have HZM := Aside0.mk (show ∀ x ∈ z, (x : Int) ≤ 16777216 from by have := szN_max ys 16777216 (i1, e1) (by decide) K; rw [hz] at this; exact this)
      have HB0 := Aside0.mk (show BlSt (fun W i e => Rdr W w.heap.size g ys i e) w.heap.size (.slice (some ⟨gs, 0, none⟩) K K) ys z (i2, e2) w wr (.slice none 0 0) [] 0 from by
        obtain ⟨h1, h2, h3⟩ := HJ.out
        rw [hz] at h1 h2
        simp only [Nat.sub_self, List.replicate_zero, List.append_nil] at h1 h2
        rw [← hzl] at h2 ⊢
        exact ⟨h1, h2, Blks.nil _ _, rfl, h3⟩)
      have HZ := Aside0.mk hz
      clear hz hzl HJ HJ1
      obtain ⟨wo, rfl⟩ : ∃ wo : World, wo = wr := ⟨_, rfl⟩
      go_wp2_with fail
      go_loopw [12, 70] (fun v12 v70 wr => ∃ j : Nat, v70 = .int .i64 j ∧ j ≤ K ∧ Aside0 (∃ B : List (Value × List Int), B.length = j ∧ BlSt (fun W i e => Rdr W w.heap.size g ys i e) w.heap.size (.slice (some ⟨gs, 0, none⟩) K K) ys z (i2, e2) w wr v12 B j)) (fun _ v70 _ => K - (intOf v70).toNat)
      case atStart => exact ⟨0, rfl, by omega, ⟨[], rfl, HB0.out⟩⟩
      case round =>
        obtain ⟨j, rfl, hj, HJ⟩ := hrel
        obtain ⟨B, hBl, hB⟩ := HJ.out
        have HB := Aside0.mk hB
        have HBL := Aside0.mk hBl
        by_cases hlt : j < K
        · obtain ⟨x, hx⟩ := get_some' (xs := z) (i := j) (by have := HZL.out; omega)
          have hxm := HZM.out x (List.mem_of_getElem? hx)
          have hcell : wr.cell? ⟨gs, j, none⟩ = some (.int .i64 (x : Int)) := by
            obtain ⟨c1, _⟩ := (show Win wr w.heap.size 3 1 (.slice (some ⟨gs, 0, none⟩) K K) K (nums .i64 (z.map Int.ofNat)) from by have := hB.sz; rwa [HZL.out] at this).cell (j := j) (u := .int .i64 (x : Int)) (by unfold nums; rw [List.getElem?_map, List.getElem?_map, hx]; rfl)
            rwa [Nat.zero_add] at c1
          have HG := Aside0.mk (show z.getD j 0 = x from by rw [List.getD_eq_getElem?_getD, hx]; rfl)
          have HBY := Aside0.mk (Bytes_any wr w.heap.size g _ ys _ (x : Int) hB.rd (by have := HYL.out; omega) (by omega) (by omega))
          obtain ⟨A12, c12, e12, hc12⟩ := hB.bl.hdr.shape
          rw [hBl] at e12 hc12
          subst e12
          have HM1 := Aside0.mk (show j + 1 ≤ maxLen ∧ (j + 1 + (j + 1) / 4 + 700) * 24 ≤ 281474976710656 from ⟨by simp only [maxLen]; omega, by omega⟩)
          clear hx hB hBl HJ
          go_wp2_with (first | (at_builtin; go_must (refine wpl_append1 w11 w.heap.size rfl (.tmp 74) (.tmp 78) 42 22 (.slice none 0 0) 1 24 rfl Try.underlying42 info22 rfl (.slice A12 j c12) j (B.map Prod.fst) [.slice A11 (rB ys (blN ys (i2, e2) z j).2.1 (blN ys (i2, e2) z j).2.2 (x : Int)).1.length c11] rfl rfl HD1.out rfl (by simp [Value.oneCell']) HSZ2.out HM1.out.1 HM1.out.2 ?_; intro v13 w13 g1 _ g3 _; have G1 := Aside0.mk g1; have G3 := Aside0.mk g3; clear g1 g3)) | (go_at_call 52; go_must (refine HBY.out.mono ?_; rintro e' w11 ⟨v11, rfl, q0, q1, q2⟩; obtain ⟨A11, c11, e11, l11⟩ := q0.shape; subst e11; have Q0 := Aside0.mk q0; have Q1 := Aside0.mk q1; have Q2 := Aside0.mk q2; have HD1 := Aside0.mk (BlSt.hdr1 PR.out HB.out HBL.out q2); have HSZ2 := Aside0.mk (Nat.le_trans HB.out.bel.size q2.size); clear q0 q1 q2 l11)))
          go_roundw
          case rel =>
            refine ⟨j + 1, by simp, by omega, ⟨_, by rw [List.length_append, HBL.out]; rfl, BlSt.step PR.out hge (Nat.le_refl _) HB.out Q2.out (by rw [HG.out]; exact Q1.out) (by rw [HG.out]; exact Q0.out) (by rw [HBL.out]; exact G1.out) G3.out⟩⟩
          case measure => simp [intOf]; omega
        · obtain rfl : K = j := by omega
          obtain ⟨L, i3, e3, hq⟩ : ∃ L i3 e3, blN ys (i2, e2) z K = (L, i3, e3) := ⟨_, _, _, rfl⟩
          have hrd := hB.rd
          have hbq := hB.eq
          rw [hq] at hrd hbq
          have HIN := Aside0.mk (innerF_eq HK1.out HZ.out hq)
          have HEN := Aside0.mk (End_any wr w.heap.size g i3 ys e3 hrd)
          have HBQ := Aside0.mk hbq
          obtain ⟨A12, c12, e12, hc12⟩ := hB.bl.hdr.shape
          rw [hBl] at e12 hc12
          subst e12
          have hKK : K ≤ 9223372036854775807 := by omega
          clear hB hBl HJ hrd hbq hq
          by_cases h0 : rE ys i3 e3 = 0
          · rw [h0] at HEN
            have HX := Aside0.mk (show openF k xs = (L, 0) from by rw [HO.out, HIN.out, if_pos h0])
            clear h0
            go_wp2_with (first | (go_at_call 106; go_must (refine (clipB_any _ _ _ _ hc12 hKK).mono ?_; rintro e' w13 ⟨rfl, rfl⟩)) | (go_at_call 35; go_must (refine HEN.out.mono ?_; rintro e' w12 ⟨rfl, q1, q2⟩; have Q2 := Aside0.mk q2; clear q1 q2)))
            go_ret2
            exact OpenPost.good HX.out HBQ.out HBL.out HB.out PR.out hge Q2.out
          · have hne : (rE ys i3 e3 != 0) = true := by simp [h0]
            have HX := Aside0.mk (show openF k xs = ([], 20) from by rw [HO.out, HIN.out, if_neg h0])
            generalize rE ys i3 e3 = r at *
            clear h0
            go_wp2_with (first | (go_at_call 35; go_must (refine HEN.out.mono ?_; rintro e' w12 ⟨rfl, q1, q2⟩; have Q2 := Aside0.mk q2; clear q1 q2)))
            go_ret2
            exact OpenPost.bad HX.out rfl (Fr.of_No (acc HB.out.bel (Nat.le_refl _) Q2.out (fun i hi => by have : i = g := hi; omega)))
end Go.Proofs.Ytchcimkmjoegdaa.C
namespace Go.Proofs.Ytchcimkmjoegdaa.C
open Go.RowKit Go.Proofs.YtchcimkmjoegdaaW.PrintWords Go.Proofs.YtchcimkmjoegdaaW.PrintMore Go.Proofs.Ytchcimkmjoegdaa.M
set_option linter.unusedVariables false
set_option linter.unusedSimpArgs false

theorem open_any (w : World) (k : Int) (A : Option Addr) (n c : Nat) (xs : List Int) (hr : RdV w A (nums .u8 xs)) (hl : xs.length = n) (hb : Byt xs) (h0 : A = none → c = 0) (hc : n ≤ c) (hn : n ≤ 140737488355328) : Calls Try.prog 60 #[.int .u8 k, .slice A n c] w (OpenPost k xs w) := by
  by_cases h : 16777216 < n
  · exact open_long w k A n c xs hl h hn
  · by_cases hk : (kindF xs).2 = false ∨ (kindF xs).1 ≠ k ∨ n < 8
    · exact open_kind w k A n c xs hr hl hb hc (by omega) hk
    · have hk1 : kindF xs = (k, true) := by
        rcases hq : kindF xs with ⟨a, b⟩
        rw [hq] at hk
        cases b
        · exact absurd (.inl rfl) hk
        · by_cases ha : a = k
          · rw [ha]
          · exact absurd (.inr (.inl ha)) hk
      have hn8 : 8 ≤ n := by
        rcases Nat.lt_or_ge n 8 with h8 | h8
        · exact absurd (.inr (.inr h8)) hk
        · exact h8
      obtain ⟨m, rfl⟩ : ∃ m, n = m + 4 := ⟨n - 4, by omega⟩
      by_cases he : xs.drop m = four (csum (xs.take m))
      · exact open_read w k A m c xs hr hl hb h0 hc (by omega) (by omega) hk1 he
      · exact open_check w k A m c xs hr hl hb hc (by omega) (by omega) hk1 he
set_option maxRecDepth 100000 in
set_option maxHeartbeats 1000000 in
theorem ropen_long (w : World) (k : Int) (A : Option Addr) (n c : Nat) (xs : List Int) (hl : xs.length = n) (h : 16777216 < n) (hn : n ≤ 140737488355328) : Calls Try.prog 61 #[.int .u8 k, .slice A n c] w (OpenPost k xs w) := by
  have HO := Aside0.mk (show openF k xs = ([], 3) from by unfold openF; rw [if_pos (by omega)])
  clear hl
  go_enter Try.func61, Try.ntmps61
  go_wp2_with fail
  go_ret2
  exact OpenPost.bad HO.out rfl (Fr.refl _ _)
set_option maxRecDepth 100000 in
set_option maxHeartbeats 1000000 in
theorem ropen_short (w : World) (k : Int) (A : Option Addr) (n c : Nat) (xs : List Int) (hl : xs.length = n) (h : n < 8) : Calls Try.prog 61 #[.int .u8 k, .slice A n c] w (OpenPost k xs w) := by
  have HO := Aside0.mk (show openF k xs = ([], 20) from by unfold openF; rw [if_neg (by omega), if_neg (fun h => by have := h.1; omega)])
  have h2 : (n : Int) - 4 < 4 := by omega
  have h3 : ¬ ((16777216 : Int) < n) := by omega
  clear hl
  go_enter Try.func61, Try.ntmps61
  go_wp2_with fail
  go_ret2
  exact OpenPost.bad HO.out rfl (Fr.refl _ _)
set_option maxRecDepth 100000 in
set_option maxHeartbeats 2000000 in
theorem ropen_head (w : World) (k : Int) (A : Option Addr) (n c : Nat) (xs : List Int) (hr : RdV w A (nums .u8 xs)) (hl : xs.length = n + 4) (hc : n + 4 ≤ c) (h : n + 4 ≤ 16777216) (h8 : 4 ≤ n) (hk : ¬ (xs.take 3 = [76, 84, 1] ∧ xs.getD 3 0 = k)) : Calls Try.prog 61 #[.int .u8 k, .slice A (n + 4) c] w (OpenPost k xs w) := by
  have HO := Aside0.mk (show openF k xs = ([], 20) from by unfold openF; rw [if_neg (by omega), if_neg (fun h => hk ⟨h.2.1, h.2.2.1⟩)])
  obtain ⟨x0, x1, x2, x3, r, rfl⟩ := kind_cases xs (by omega)
  have hk' : ¬ (x0 = 76 ∧ x1 = 84 ∧ x2 = 1 ∧ x3 = k) := fun ⟨a, b, c, d⟩ => hk ⟨by rw [a, b, c]; rfl, d⟩
  obtain ⟨ad, eA, hcell⟩ := hr (by simp [nums])
  subst eA
  have c0 : w.cell? ad = some (.int .u8 x0) := hcell 0 (.int .u8 x0) rfl
  have c1 : w.cell? ⟨ad.block, ad.off + 1, none⟩ = some (.int .u8 x1) := hcell 1 (.int .u8 x1) rfl
  have c2 : w.cell? ⟨ad.block, ad.off + 2, none⟩ = some (.int .u8 x2) := hcell 2 (.int .u8 x2) rfl
  have c3 : w.cell? ⟨ad.block, ad.off + 3, none⟩ = some (.int .u8 x3) := hcell 3 (.int .u8 x3) rfl
  have hcase : (x0 != 76) = true ∨ ((x0 != 76) = false ∧ (x1 != 84) = true) ∨ ((x0 != 76) = false ∧ (x1 != 84) = false ∧ (x2 != 1) = true) ∨ ((x0 != 76) = false ∧ (x1 != 84) = false ∧ (x2 != 1) = false ∧ (x3 != k) = true) := by
    by_cases a : x0 = 76
    · by_cases b : x1 = 84
      · by_cases d : x2 = 1
        · have : x3 ≠ k := fun e => hk' ⟨a, b, d, e⟩
          exact .inr (.inr (.inr ⟨by simp [a], by simp [b], by simp [d], by simpa using this⟩))
        · exact .inr (.inr (.inl ⟨by simp [a], by simp [b], by simpa using d⟩))
      · exact .inr (.inl ⟨by simp [a], by simpa using b⟩)
    · exact .inl (by simpa using a)
  have hgt : ¬ ((16777216 : Int) < (n : Int) + 4) := by omega
  have hdn : decide ((n : Int) < 4) = false := by simp; omega
  have h0n : (0 : Int) < (n : Int) + 4 := by omega
  have h1n : (1 : Int) < (n : Int) + 4 := by omega
  have h2n : (2 : Int) < (n : Int) + 4 := by omega
  have h3n : (3 : Int) < (n : Int) + 4 := by omega
  have h' : n ≤ 16777212 := by omega
  clear hr hcell hl hk hk' h h8
  rcases hcase with b0 | ⟨b0, b1⟩ | ⟨b0, b1, b2⟩ | ⟨b0, b1, b2, b3⟩
  all_goals
    go_enter Try.func61, Try.ntmps61
    go_wp2_with fail
    go_ret2
    exact OpenPost.bad HO.out rfl (Fr.refl _ _)
end Go.Proofs.Ytchcimkmjoegdaa.C
namespace Go.Proofs.Ytchcimkmjoegdaa.C
open Go.RowKit Go.Proofs.YtchcimkmjoegdaaW.PrintWords Go.Proofs.YtchcimkmjoegdaaW.PrintMore Go.Proofs.Ytchcimkmjoegdaa.M
set_option linter.unusedVariables false
set_option linter.unusedSimpArgs false

/-- What the reference's Open finds ahead of its reading. -/
structure Outer (w : World) (k : Int) (ad : Addr) (n c : Nat) (xs : List Int) (d0 d1 d2 d3 : Int) (s : Nat) : Prop where
  c0 : w.cell? ad = some (.int .u8 76)
  c1 : w.cell? ⟨ad.block, ad.off + 1, none⟩ = some (.int .u8 84)
  c2 : w.cell? ⟨ad.block, ad.off + 2, none⟩ = some (.int .u8 1)
  c3 : w.cell? ⟨ad.block, ad.off + 3, none⟩ = some (.int .u8 k)
  e0 : w.cell? (ad.add n) = some (.int .u8 d0)
  e1 : w.cell? ⟨ad.block, ad.off + (n + 1), none⟩ = some (.int .u8 d1)
  e2 : w.cell? ⟨ad.block, ad.off + (n + 2), none⟩ = some (.int .u8 d2)
  e3 : w.cell? ⟨ad.block, ad.off + (n + 3), none⟩ = some (.int .u8 d3)
  cut : ∀ W : World, (Instr.slice 22 (.slice (some ad) (n + 4) c) none (some (.int .i64 (n : Int))) none).run Try.prog W = .ok (.slice (some ad) n c) W
  sum : Calls Try.prog 59 #[.slice (some ad) n c] w fun e w' => e = .returned (.int .u32 (s : Nat)) ∧ w = w'
  sv : s = csum (xs.take n)
  lt : s < 4294967296
  dr : xs.drop n = [d0, d1, d2, d3]
theorem outer_of (w : World) (k : Int) (A : Option Addr) (n c : Nat) (xs : List Int) (hr : RdV w A (nums .u8 xs)) (hl : xs.length = n + 4) (hb : Byt xs) (hc : n + 4 ≤ c) (h : n + 4 ≤ 16777216) (h8 : 4 ≤ n) (h3 : xs.take 3 = [76, 84, 1]) (hk : xs.getD 3 0 = k) : ∃ ad d0 d1 d2 d3 s, A = some ad ∧ Outer w k ad n c xs d0 d1 d2 d3 s := by
  obtain ⟨ad, eA, hcell⟩ := hr (by intro h0; have := congrArg List.length h0; rw [nums_length, hl] at this; exact absurd this (by simp))
  have hd : ∃ d0 d1 d2 d3, xs.drop n = [d0, d1, d2, d3] := by
    have hlen : (xs.drop n).length = 4 := by rw [List.length_drop]; omega
    generalize xs.drop n = l at hlen
    match l, hlen with
    | [a, b, c, d], _ => exact ⟨a, b, c, d, rfl⟩
  obtain ⟨d0, d1, d2, d3, hd⟩ := hd
  have hat : ∀ j d, (xs.drop n)[j]? = some d → w.cell? (ad.add (n + j)) = some (.int .u8 d) := fun j d hj => by
    rw [List.getElem?_drop] at hj
    exact hcell _ _ (by simp [nums, hj])
  obtain ⟨i0, hi, _⟩ := info_parts info5
  have hx : ∃ r, xs = 76 :: 84 :: 1 :: k :: r := by
    obtain ⟨x0, x1, x2, x3, r, rfl⟩ := kind_cases xs (by omega)
    have e := List.cons.inj h3
    have e' := List.cons.inj e.2
    have e'' := List.cons.inj e'.2
    have hk' : x3 = k := hk
    exact ⟨r, by rw [e.1, e'.1, e''.1, hk']⟩
  obtain ⟨r, hx⟩ := hx
  refine ⟨ad, d0, d1, d2, d3, _, eA, ⟨hcell 0 _ (by rw [hx]; rfl), hcell 1 _ (by rw [hx]; rfl), hcell 2 _ (by rw [hx]; rfl), hcell 3 _ (by rw [hx]; rfl), hat 0 d0 (by rw [hd]; rfl), hat 1 d1 (by rw [hd]; rfl), hat 2 d2 (by rw [hd]; rfl), hat 3 d3 (by rw [hd]; rfl), cuth (P := Try.prog) 22 5 .i64 Try.underlying22 hi (some ad) (n + 4) c n (by omega), ?_, rfl, csum_lt _, hd⟩⟩
  subst eA
  exact rsum_any w (some ad) n c (xs.take n) (by have := hr.take n; rwa [nums_take] at this) (by rw [List.length_take]; omega) (hb.take' n) (by omega) (by omega)
set_option maxRecDepth 100000 in
set_option maxHeartbeats 4000000 in
theorem ropen_check (w : World) (k : Int) (A : Option Addr) (n c : Nat) (xs : List Int) (hr : RdV w A (nums .u8 xs)) (hl : xs.length = n + 4) (hb : Byt xs) (hc : n + 4 ≤ c) (h : n + 4 ≤ 16777216) (h8 : 4 ≤ n) (h3 : xs.take 3 = [76, 84, 1]) (hk : xs.getD 3 0 = k) (hne : xs.drop n ≠ four (csum (xs.take n))) : Calls Try.prog 61 #[.int .u8 k, .slice A (n + 4) c] w (OpenPost k xs w) := by
  have HO := Aside0.mk (show openF k xs = ([], 20) from by
    unfold openF
    rw [if_neg (by omega), if_neg]
    rintro ⟨_, _, _, h4⟩
    rw [show xs.length - 4 = n from by omega] at h4
    exact hne h4)
  obtain ⟨ad, d0, d1, d2, d3, s, rfl, o⟩ := outer_of w k A n c xs hr hl hb hc h h8 h3 hk
  obtain ⟨c0, c1, c2, c3, e0, e1, e2, e3, hcut, hsum, hsv, hlt, hdr⟩ := o
  have hlt4 : ¬ (d0 = (s : Int) % 256 ∧ d1 = (s : Int) / 256 % 256 ∧ d2 = (s : Int) / 65536 % 256 ∧ d3 = (s : Int) / 16777216) := fun ⟨a, b, d, e⟩ => hne (by rw [hdr, ← hsv, four, a, b, d, e])
  obtain ⟨f0, g0⟩ : ∃ f, (s : Int) % 256 = f := ⟨_, rfl⟩
  obtain ⟨f1, g1⟩ : ∃ f, (s : Int) / 256 % 256 = f := ⟨_, rfl⟩
  obtain ⟨f2, g2⟩ : ∃ f, (s : Int) / 65536 % 256 = f := ⟨_, rfl⟩
  obtain ⟨f3, g3⟩ : ∃ f, (s : Int) / 16777216 = f := ⟨_, rfl⟩
  rw [g0, g1, g2, g3] at hlt4
  have hcase : (d0 != f0) = true ∨ (d0 = f0 ∧ (d1 != f1) = true) ∨ (d0 = f0 ∧ d1 = f1 ∧ (d2 != f2) = true) ∨ (d0 = f0 ∧ d1 = f1 ∧ d2 = f2 ∧ (d3 != f3) = true) := by
    by_cases a : d0 = f0
    · by_cases b : d1 = f1
      · by_cases d : d2 = f2
        · exact .inr (.inr (.inr ⟨a, b, d, by simpa using fun e => hlt4 ⟨a, b, d, e⟩⟩))
        · exact .inr (.inr (.inl ⟨a, b, by simpa using d⟩))
      · exact .inr (.inl ⟨a, by simpa using b⟩)
    · exact .inl (by simpa using a)
  have HS := Aside0.mk hsum
  have hgt : ¬ ((16777216 : Int) < (n : Int) + 4) := by omega
  have hdn : decide ((n : Int) < 4) = false := by simp; omega
  have h0n : (0 : Int) < (n : Int) + 4 := by omega
  have h1n : (1 : Int) < (n : Int) + 4 := by omega
  have h2n : (2 : Int) < (n : Int) + 4 := by omega
  have h3n : (3 : Int) < (n : Int) + 4 := by omega
  have h' : (n : Int) ≤ 16777212 := by omega
  have hbk : (k != k) = false := by simp
  clear hr hl hk h h8 h3 hb hne hsv hsum hdr hlt4
  rcases hcase with b0 | ⟨rfl, b1⟩ | ⟨rfl, rfl, b2⟩ | ⟨rfl, rfl, rfl, b3⟩
  all_goals
    go_enter Try.func61, Try.ntmps61
    go_wp2_with (go_at_call 59; go_must (refine HS.out.mono ?_; rintro e' w1 ⟨rfl, rfl⟩))
    go_ret2
    exact OpenPost.bad HO.out rfl (Fr.refl _ _)
end Go.Proofs.Ytchcimkmjoegdaa.C
namespace Go.Proofs.Ytchcimkmjoegdaa.C
open Go.RowKit Go.Proofs.YtchcimkmjoegdaaW.PrintWords Go.Proofs.YtchcimkmjoegdaaW.PrintMore Go.Proofs.Ytchcimkmjoegdaa.M
set_option linter.unusedVariables false
set_option linter.unusedSimpArgs false

/-- The reference's reader at its place. -/
def ModR (g : Nat) (A : Option Addr) (n c : Nat) (W : World) (i : Nat) (e : Int) : Prop := W.heap[g]? = some (.cells #[.slice A n c, .int .i64 (i : Nat), .int .i64 e] 67 (0, 0)) ∧ i ≤ n
theorem rdP_modR (g : Nat) (A : Option Addr) (n c : Nat) : RdP g (ModR g A n c) :=
  ⟨fun h f hg _ => ⟨f.get h.1 hg, h.2⟩, fun h => ⟨_, _, h.1, by decide, by decide, by decide⟩⟩
section
variable {g base : Nat} {R : World → Nat → Int → Prop} {w W W1 W2 : World}
/-- Behind j sizes, appended. -/
structure SzA (R : World → Nat → Int → Prop) (base : Nat) (ys : List Int) (m : Int) (p : Nat × Int) (w W : World) (v : Value) (j : Nat) : Prop where
  rd : R W (szN ys m p j).2.1 (szN ys m p j).2.2
  sz : Win W base 3 1 v j (nums .i64 ((szN ys m p j).1.map Int.ofNat))
  bel : Below base w W
theorem SzA.mid (P : RdP g R) {j : Nat} {ys : List Int} {m : Int} {p : Nat × Int} {v : Value} (h : SzA R base ys m p w W v j) (f1 : Fr (One g) W W1) : Win W1 base 3 1 v j (nums .i64 ((szN ys m p j).1.map Int.ofNat)) := by
  obtain ⟨cur, t, hb, ht5, ht22, ht3⟩ := P.ty h.rd
  exact h.sz.fr f1 (fun k hk hS => win_not_at h.sz hb ht3 (by have : k = g := hS; subst this; exact hk))
theorem SzA.step (P : RdP g R) (hg : base ≤ g) (hw : base ≤ w.heap.size) {j : Nat} {ys : List Int} {m : Int} {p : Nat × Int} {v v' : Value} (h : SzA R base ys m p w W v j) (f1 : Fr (One g) W W1) (hr : R W1 (rS ys (szN ys m p j).2.1 (szN ys m p j).2.2 m).2.1 (rS ys (szN ys m p j).2.1 (szN ys m p j).2.2 m).2.2)
    (hv : Win W2 base 3 1 v' (j + 1) (nums .i64 ((szN ys m p j).1.map Int.ofNat) ++ [.int .i64 ((rS ys (szN ys m p j).2.1 (szN ys m p j).2.2 m).1 : Nat)])) (f2 : Fr (At v) W1 W2) : SzA R base ys m p w W2 v' (j + 1) := by
  have hm := h.mid P f1
  obtain ⟨cur1, t1, hb1, ht51, _, ht31⟩ := P.ty hr
  refine ⟨P.fr hr f2 (win_not_at hm hb1 ht31) (fun k cur hk hc => absurd (hm.ne_type hk hc) (by decide)), ?_, acc (acc h.bel hw f1 (fun i hi => by have : i = g := hi; omega)) hw f2 (fun i hi => (hm.at_ hi).1)⟩
  rw [szN, List.map_append, nums_append]
  exact hv
theorem OpenPost.good' {k : Int} {xs : List Int} {L : List (List Int)} {ys : List Int} {z : List Nat} {p : Nat × Int} {vs v : Value} {B : List (Value × List Int)} {j : Nat} (h : openF k xs = (L, 0)) (hB : B.map Prod.snd = L) (hS : BlSt R w.heap.size vs ys z p w W v B j) (P : RdP g R) (hg : w.heap.size ≤ g) (f : Fr (One g) W W1) :
    OpenPost k xs w (.returned (.tuple #[v, .int .i64 0])) W1 := by
  obtain ⟨cur, t, hb, ht5, ht22, ht3⟩ := P.ty hS.rd
  have one : ∀ {e n : Nat} {u : Value} {xs : List Value}, Win W w.heap.size e 1 u n xs → t ≠ e → Win W1 w.heap.size e 1 u n xs := fun hu he => hu.fr f (fun k hk hS => win_not_at hu hb he (by have : k = g := hS; subst this; exact hk))
  exact ⟨v, B, by rw [h], by rw [h, hB], ⟨one hS.bl.hdr ht22, fun q hq => one (hS.bl.win q hq) ht5, hS.bl.sep⟩, Fr.of_No (acc hS.bel (Nat.le_refl _) f (fun i hi => by have : i = g := hi; omega))⟩
end
set_option maxRecDepth 100000 in
set_option maxHeartbeats 4000000 in
theorem ropen_read (w : World) (k : Int) (A : Option Addr) (n c : Nat) (xs : List Int) (hr : RdV w A (nums .u8 xs)) (hl : xs.length = n + 4) (hb : Byt xs) (hc : n + 4 ≤ c) (h : n + 4 ≤ 16777216) (h8 : 4 ≤ n) (h3 : xs.take 3 = [76, 84, 1]) (hk : xs.getD 3 0 = k) (heq : xs.drop n = four (csum (xs.take n))) : Calls Try.prog 61 #[.int .u8 k, .slice A (n + 4) c] w (OpenPost k xs w) := by
  obtain ⟨ys, hys⟩ : ∃ ys, (xs.take n).drop 4 = ys := ⟨_, rfl⟩
  have HO := Aside0.mk (show openF k xs = innerF ys from by
    unfold openF
    rw [if_neg (by omega), if_pos ⟨by omega, h3, hk, by rw [show xs.length - 4 = n from by omega]; exact heq⟩, show xs.length - 4 = n from by omega, hys])
  obtain ⟨ad, d0, d1, d2, d3, s, rfl, o⟩ := outer_of w k A n c xs hr hl hb hc h h8 h3 hk
  obtain ⟨c0, c1, c2, c3, e0, e1, e2, e3, hcut, hsum, hsv, hlt, hdr⟩ := o
  rw [hdr, ← hsv, four] at heq
  have g0 : (s : Int) % 256 = d0 := (List.cons.inj heq).1.symm
  have g1 : (s : Int) / 256 % 256 = d1 := (List.cons.inj (List.cons.inj heq).2).1.symm
  have g2 : (s : Int) / 65536 % 256 = d2 := (List.cons.inj (List.cons.inj (List.cons.inj heq).2).2).1.symm
  have g3 : (s : Int) / 16777216 = d3 := (List.cons.inj (List.cons.inj (List.cons.inj (List.cons.inj heq).2).2).2).1.symm
  have HS := Aside0.mk hsum
  obtain ⟨i0, hi, _, hsz, _⟩ := info_parts info5
  obtain ⟨A2, hcut3, hrd, hn2⟩ := cutlh_rd (P := Try.prog) 22 5 .i64 .i64 Try.underlying22 hi hsz (some ad) (n + 4) c 4 n h8 (by omega) hc
  have hcut4 : ∀ W : World, (Instr.slice 22 (.slice (some ad) (n + 4) c) (some (.int .i64 4)) (some (.int .i64 (n : Int))) none).run Try.prog W = .ok (.slice A2 (n - 4) (c - 4)) W := hcut3
  have hyl : ys.length = n - 4 := by rw [← hys, List.length_drop, List.length_take]; omega
  have hyb : Byt ys := by rw [← hys]; exact (hb.take' n).drop' 4
  have HRD := Aside0.mk (show RdV w A2 (nums .u8 ys) from by
    have := hrd w (nums .u8 xs) (by rw [nums_length]; exact hl) hr
    rw [nums_drop, nums_take, ← List.drop_take, hys] at this
    exact this)
  have hgt : ¬ ((16777216 : Int) < (n : Int) + 4) := by omega
  have hdn : decide ((n : Int) < 4) = false := by simp; omega
  have h0n : (0 : Int) < (n : Int) + 4 := by omega
  have h1n : (1 : Int) < (n : Int) + 4 := by omega
  have h2n : (2 : Int) < (n : Int) + 4 := by omega
  have h3n : (3 : Int) < (n : Int) + 4 := by omega
  have h' : n ≤ 16777212 := by omega
  have h4n : (4 : Int) ≤ n := by omega
  have hbk : (k != k) = false := by simp
  have HYL := Aside0.mk hyl
  have HYB := Aside0.mk hyb
  have HNB := Aside0.mk (show n - 4 ≤ c - 4 ∧ n - 4 ≤ 140737488355328 from ⟨by omega, by omega⟩)
  clear hr hl hb hk h h3 hsv hsum hdr heq hcut3 hyl hyb hrd hn2 hi hsz hys
  have HSZ := Aside0.mk (fun (W : World) (g2 : Nat) (h : ModR g2 A2 (n - 4) (c - 4) W 0 0) (hb : Below w.heap.size w W) => mSize_any W g2 A2 (n - 4) (c - 4) ys 0 0 1024 (by decide) h.1 (HRD.out.below hb) HYL.out (Nat.zero_le _) HNB.out.1 HNB.out.2 HYB.out)
  have hKm := rS_max (ys := ys) (i := 0) (e := 0) (m := 1024) (by decide)
  have hKl := rS_le (xs := ys) (i := 0) (e := 0) (m := 1024) (Nat.zero_le _)
  generalize hK : rS ys 0 0 1024 = K at hKm HSZ hKl
  obtain ⟨K, i1, r1⟩ := K
  simp only at hKm HSZ hKl
  have HK1 := Aside0.mk hK
  have HKL := Aside0.mk hKl
  have hKn : K ≤ 1024 := by omega
  clear hK hKm hKl
  go_enter Try.func61, Try.ntmps61
  go_wp2_with (first | (go_at_call 88; go_must (refine (HSZ.out _ _ ⟨heap_alloc_new w _, Nat.zero_le _⟩ (below_alloc (Below.refl _ _) _)).mono ?_; rintro e' w10 ⟨rfl, q1, q2⟩; have R1 := Aside0.mk q1; have B10 := Aside0.mk q2; clear q1 q2)) | (go_at_call 59; go_must (refine HS.out.mono ?_; rintro e' w1 ⟨rfl, rfl⟩)))
  clear g0 g1 g2 g3 c0 c1 c2 c3 e0 e1 e2 e3 hcut hcut4 hbk h4n h0n h1n h2n h3n hgt hdn
  obtain ⟨g, hg⟩ : ∃ g, g = w.heap.size := ⟨_, rfl⟩
  have hge : w.heap.size ≤ g := by omega
  have PR := Aside0.mk (rdP_modR g A2 (n - 4) (c - 4))
  have H0 := Aside0.mk (show SzA (ModR g A2 (n - 4) (c - 4)) w.heap.size ys 16777216 (i1, r1) w w10 (.slice none 0 0) 0 from ⟨by rw [hg]; exact ⟨R1.out, by have := HKL.out; have := HYL.out; show i1 ≤ n - 4; omega⟩, Win.nil _ _ _ _, accOne (accAlloc (Below.refl _ _) (Nat.le_refl _) _) (Nat.le_refl _) B10.out (Nat.le_refl _)⟩)
  rw [← hg]
  clear R1 B10 hg
  go_loopw [10, 11] (fun v10 v11 wr => ∃ j : Nat, v11 = .int .i64 j ∧ j ≤ K ∧ Aside0 (SzA (ModR g A2 (n - 4) (c - 4)) w.heap.size ys 16777216 (i1, r1) w wr v10 j)) (fun _ v11 _ => K - (intOf v11).toNat)
  case atStart => exact ⟨0, rfl, by omega, H0⟩
  case round =>
    obtain ⟨j, rfl, hj, HJ⟩ := hrel
    by_cases hlt : j < K
    · have HM1 := Aside0.mk (show j + 1 ≤ maxLen ∧ (j + 1 + (j + 1) / 4 + 700) * 8 ≤ 281474976710656 from ⟨by simp only [maxLen]; omega, by omega⟩)
      have HSJ := Aside0.mk (mSize_any wr g A2 (n - 4) (c - 4) ys _ _ 16777216 (by decide) HJ.out.rd.1 (HRD.out.below HJ.out.bel) HYL.out HJ.out.rd.2 HNB.out.1 HNB.out.2 HYB.out)
      go_wp2_with (first | (at_builtin; go_must (refine wpl_append1 w11 w.heap.size rfl (.tmp 107) (.tmp 109) 99 3 (.int .i64 0) 1 8 rfl Try.underlying99 info3 rfl u10 j _ [.int .i64 ((rS ys (szN ys 16777216 (i1, r1) j).2.1 (szN ys 16777216 (i1, r1) j).2.2 16777216).1 : Nat)] rfl rfl (SzA.mid PR.out HJ.out Q2.out) rfl (by simp [Value.oneCell']) (Nat.le_trans HJ.out.bel.size Q2.out.size) HM1.out.1 HM1.out.2 ?_; intro v12 w12 g1 _ g3 _; have HN1 := Aside0.mk (SzA.step PR.out hge (Nat.le_refl _) HJ.out Q2.out ⟨Q1.out, HYL.out ▸ rS_le (HYL.out.symm ▸ HJ.out.rd.2)⟩ g1 g3); clear g1 g3)) | (go_at_call 88; go_must (refine HSJ.out.mono ?_; rintro e' w11 ⟨rfl, q1, q2⟩; have Q1 := Aside0.mk q1; have Q2 := Aside0.mk q2; clear q1 q2)))
      go_roundw
      case rel => exact ⟨j + 1, by simp, by omega, HN1⟩
      case measure => simp [intOf]; omega
    · obtain rfl : K = j := by omega
      obtain ⟨z, i2, r2, hz⟩ : ∃ z i2 r2, szN ys 16777216 (i1, r1) K = (z, i2, r2) := ⟨_, _, _, rfl⟩
      have hzl : z.length = K := by have := szN_len ys 16777216 (i1, r1) K; rw [hz] at this; exact this
      have HZL := Aside0.mk hzl
      have HZM := Aside0.mk (show ∀ x ∈ z, (x : Int) ≤ 16777216 from by have := szN_max ys 16777216 (i1, r1) (by decide) K; rw [hz] at this; exact this)
      have HB0 := Aside0.mk (show BlSt (ModR g A2 (n - 4) (c - 4)) w.heap.size u10 ys z (i2, r2) w wr (.slice none 0 0) [] 0 from by
        obtain ⟨h1, h2, h3⟩ := HJ.out
        rw [hz] at h1 h2
        rw [← hzl] at h2
        exact ⟨h1, h2, Blks.nil _ _, rfl, h3⟩)
      have HZ := Aside0.mk hz
      obtain ⟨A10, c10, e10, hc10⟩ := HB0.out.sz.shape
      rw [hzl] at e10 hc10
      subst e10
      clear hz hzl HJ
      obtain ⟨wo, rfl⟩ : ∃ wo : World, wo = wr := ⟨_, rfl⟩
      go_wp2_with fail
      go_loopw [13, 14] (fun v13 v14 wr => ∃ j : Nat, v14 = .int .i64 j ∧ j ≤ K ∧ Aside0 (∃ B : List (Value × List Int), B.length = j ∧ BlSt (ModR g A2 (n - 4) (c - 4)) w.heap.size (.slice A10 K c10) ys z (i2, r2) w wr v13 B j)) (fun _ v14 _ => K - (intOf v14).toNat)
      case atStart => exact ⟨0, rfl, by omega, ⟨[], rfl, HB0.out⟩⟩
      case round =>
        obtain ⟨j, rfl, hj, HJ⟩ := hrel
        obtain ⟨B, hBl, hB⟩ := HJ.out
        have HB := Aside0.mk hB
        have HBL := Aside0.mk hBl
        by_cases hlt : j < K
        · obtain ⟨x, hx⟩ := get_some' (xs := z) (i := j) (by have := HZL.out; omega)
          have hxm := HZM.out x (List.mem_of_getElem? hx)
          obtain ⟨ad2, eA2, hcell⟩ := rd_at (k := .i64) (xs := z.map Int.ofNat) (i := j) (x := (x : Int)) (by have := hB.sz; rw [HZL.out] at this; exact RdV.of_win this) (by rw [List.getElem?_map, hx]; rfl)
          subst eA2
          have HG := Aside0.mk (show z.getD j 0 = x from by rw [List.getD_eq_getElem?_getD, hx]; rfl)
          have HBY := Aside0.mk (mBytes_any wr g A2 (n - 4) (c - 4) ys _ _ (x : Int) hB.rd.1 (HRD.out.below hB.bel) HYL.out hB.rd.2 HNB.out.1 HNB.out.2)
          obtain ⟨A12, c12, e12, hc12⟩ := hB.bl.hdr.shape
          rw [hBl] at e12 hc12
          subst e12
          have HM1 := Aside0.mk (show j + 1 ≤ maxLen ∧ (j + 1 + (j + 1) / 4 + 700) * 24 ≤ 281474976710656 from ⟨by simp only [maxLen]; omega, by omega⟩)
          clear hx hB hBl HJ
          go_wp2_with (first | (at_builtin; go_must (refine wpl_append1 w11 w.heap.size rfl (.tmp 122) (.tmp 124) 42 22 (.slice none 0 0) 1 24 rfl Try.underlying42 info22 rfl (.slice A12 j c12) j (B.map Prod.fst) [.slice A11 (rB ys (blN ys (i2, r2) z j).2.1 (blN ys (i2, r2) z j).2.2 (x : Int)).1.length c11] rfl rfl HD1.out rfl (by simp [Value.oneCell']) HSZ2.out HM1.out.1 HM1.out.2 ?_; intro v13 w13 g1 _ g3 _; have G1 := Aside0.mk g1; have G3 := Aside0.mk g3; clear g1 g3)) | (go_at_call 96; go_must (refine HBY.out.mono ?_; rintro e' w11 ⟨v11, rfl, q0, q1, q2⟩; obtain ⟨A11, c11, e11, l11⟩ := q0.shape; subst e11; have Q0 := Aside0.mk q0; have Q1 := Aside0.mk q1; have Q2 := Aside0.mk q2; have HD1 := Aside0.mk (BlSt.hdr1 PR.out HB.out HBL.out q2); have HSZ2 := Aside0.mk (Nat.le_trans HB.out.bel.size q2.size); clear q0 q1 q2 l11)))
          go_roundw
          case rel =>
            refine ⟨j + 1, by simp, by omega, ⟨_, by rw [List.length_append, HBL.out]; rfl, BlSt.step PR.out hge (Nat.le_refl _) HB.out Q2.out (by rw [HG.out]; exact ⟨Q1.out, HYL.out ▸ rB_le (HYL.out.symm ▸ HB.out.rd.2)⟩) (by rw [HG.out]; exact Q0.out) (by rw [HBL.out]; exact G1.out) G3.out⟩⟩
          case measure => simp [intOf]; omega
        · obtain rfl : K = j := by omega
          obtain ⟨L, i3, r3, hq⟩ : ∃ L i3 r3, blN ys (i2, r2) z K = (L, i3, r3) := ⟨_, _, _, rfl⟩
          have hrd := hB.rd
          have hbq := hB.eq
          rw [hq] at hrd hbq
          have HIN := Aside0.mk (innerF_eq HK1.out HZ.out hq)
          have HEN := Aside0.mk (mEnd_any wr g A2 (n - 4) (c - 4) ys i3 r3 hrd.1 HYL.out hrd.2 HNB.out.2)
          have HBQ := Aside0.mk hbq
          clear hB hBl HJ hrd hbq hq
          by_cases h0 : rE ys i3 r3 = 0
          · rw [h0] at HEN
            have HX := Aside0.mk (show openF k xs = (L, 0) from by rw [HO.out, HIN.out, if_pos h0])
            clear h0
            go_wp2_with (first | (go_at_call 91; go_must (refine HEN.out.mono ?_; rintro e' w12 ⟨rfl, q1, q2⟩; have Q2 := Aside0.mk q2; clear q1 q2)))
            go_ret2
            exact OpenPost.good' HX.out HBQ.out HB.out PR.out hge Q2.out
          · have hne : (rE ys i3 r3 != 0) = true := by simp [h0]
            have HX := Aside0.mk (show openF k xs = ([], 20) from by rw [HO.out, HIN.out, if_neg h0])
            generalize rE ys i3 r3 = r at *
            clear h0
            go_wp2_with (first | (go_at_call 91; go_must (refine HEN.out.mono ?_; rintro e' w12 ⟨rfl, q1, q2⟩; have Q2 := Aside0.mk q2; clear q1 q2)))
            go_ret2
            exact OpenPost.bad HX.out rfl (Fr.of_No (acc HB.out.bel (Nat.le_refl _) Q2.out (fun i hi => by have : i = g := hi; omega)))
theorem ropen_any (w : World) (k : Int) (A : Option Addr) (n c : Nat) (xs : List Int) (hr : RdV w A (nums .u8 xs)) (hl : xs.length = n) (hb : Byt xs) (hc : n ≤ c) (hn : n ≤ 140737488355328) : Calls Try.prog 61 #[.int .u8 k, .slice A n c] w (OpenPost k xs w) := by
  by_cases h : 16777216 < n
  · exact ropen_long w k A n c xs hl h hn
  · by_cases h8 : n < 8
    · exact ropen_short w k A n c xs hl h8
    · obtain ⟨m, rfl⟩ : ∃ m, n = m + 4 := ⟨n - 4, by omega⟩
      by_cases hk : xs.take 3 = [76, 84, 1] ∧ xs.getD 3 0 = k
      · by_cases he : xs.drop m = four (csum (xs.take m))
        · exact ropen_read w k A m c xs hr hl hb hc (by omega) (by omega) hk.1 hk.2 he
        · exact ropen_check w k A m c xs hr hl hb hc (by omega) (by omega) hk.1 hk.2 he
      · exact ropen_head w k A m c xs hr hl hc (by omega) (by omega) hk
end Go.Proofs.Ytchcimkmjoegdaa.C
namespace Go.Proofs.Ytchcimkmjoegdaa.C
open Go.RowKit Go.Proofs.YtchcimkmjoegdaaW.PrintWords Go.Proofs.YtchcimkmjoegdaaW.PrintMore Go.Proofs.Ytchcimkmjoegdaa.M
set_option linter.unusedVariables false

theorem rS_full (pre post : List Int) (u : Nat) (m : Int) (h : u < M64) (hm : (u : Int) ≤ m) : rS (pre ++ uenc u ++ post) pre.length 0 m = (u, pre.length + (uenc u).length, 0) := by
  rw [rS, if_pos rfl, List.append_assoc, List.drop_left, num_uenc u post h]
  simp only
  rw [if_pos hm]
theorem rB_full (pre post s : List Int) : rB (pre ++ s ++ post) pre.length 0 (s.length : Nat) = (s, pre.length + s.length, 0) := by
  rw [rB, if_pos rfl, if_pos ⟨by omega, by simp only [List.length_append]; omega⟩, List.append_assoc, List.drop_left, Int.toNat_natCast, List.take_left]
/-- The lengths' forms. -/
def lens (S : List (List Int)) : List Int := S.flatMap fun s => uenc s.length
theorem lens_take {S : List (List Int)} {i : Nat} {s : List Int} (h : S[i]? = some s) : lens (S.take (i + 1)) = lens (S.take i) ++ uenc s.length := flat_take _ h
theorem szN_fwd (S : List (List Int)) (hl : ∀ s ∈ S, s.length ≤ 16777216) (post : List Int) : ∀ j, j ≤ S.length → szN (uenc S.length ++ lens S ++ post) 16777216 ((uenc S.length).length, 0) j = ((S.take j).map List.length, (uenc S.length).length + (lens (S.take j)).length, 0)
  | 0, _ => by simp [szN, lens]
  | j + 1, h => by
    obtain ⟨s, hs⟩ : ∃ s, S[j]? = some s := ⟨_, List.getElem?_eq_getElem h⟩
    have hsp : lens S = lens (S.take j) ++ uenc s.length ++ lens (S.drop (j + 1)) := flat_split _ hs
    have hsl := hl s (List.mem_of_getElem? hs)
    have hr := rS_full (uenc S.length ++ lens (S.take j)) (lens (S.drop (j + 1)) ++ post) s.length 16777216 (by rw [M64_eq]; omega) (by omega)
    have he : uenc S.length ++ lens (S.take j) ++ uenc s.length ++ (lens (S.drop (j + 1)) ++ post) = uenc S.length ++ lens S ++ post := by rw [hsp]; simp only [List.append_assoc]
    rw [he, List.length_append] at hr
    rw [szN, szN_fwd S hl post j (by omega)]
    simp only [hr]
    rw [lens_take hs, List.take_add_one, hs]
    simp [Nat.add_assoc]
theorem blN_fwd (S : List (List Int)) (pre : List Int) : ∀ j, j ≤ S.length → blN (pre ++ S.flatten) (pre.length, 0) (S.map List.length) j = (S.take j, pre.length + (S.take j).flatten.length, 0)
  | 0, _ => by simp [blN]
  | j + 1, h => by
    obtain ⟨s, hs⟩ : ∃ s, S[j]? = some s := ⟨_, List.getElem?_eq_getElem h⟩
    have hsp : S.flatten = (S.take j).flatten ++ s ++ (S.drop (j + 1)).flatten := by
      have h1 := flat_split (fun s : List Int => s) hs
      simpa [List.flatMap_id'] using h1
    have hr := rB_full (pre ++ (S.take j).flatten) (S.drop (j + 1)).flatten s
    have he : pre ++ (S.take j).flatten ++ s ++ (S.drop (j + 1)).flatten = pre ++ S.flatten := by rw [hsp]; simp only [List.append_assoc]
    rw [he, List.length_append] at hr
    have hg : (S.map List.length).getD j 0 = s.length := by rw [List.getD_eq_getElem?_getD, List.getElem?_map, hs]; rfl
    rw [blN, blN_fwd S pre j (by omega)]
    simp only [hg, hr]
    rw [List.take_add_one, hs]
    simp [Nat.add_assoc]
theorem inner_fwd (S : List (List Int)) (hN : S.length ≤ 1024) (hl : ∀ s ∈ S, s.length ≤ 16777216) : innerF (uenc S.length ++ lens S ++ S.flatten) = (S, 0) := by
  have h1 : rS (uenc S.length ++ lens S ++ S.flatten) 0 0 1024 = (S.length, (uenc S.length).length, 0) := by
    have := rS_full [] (lens S ++ S.flatten) S.length 1024 (by rw [M64_eq]; omega) (by omega)
    simpa using this
  have h2 := szN_fwd S hl S.flatten S.length (Nat.le_refl _)
  rw [List.take_length] at h2
  have h3 := blN_fwd S (uenc S.length ++ lens S) S.length (Nat.le_refl _)
  rw [List.take_length, List.length_append] at h3
  rw [innerF_eq h1 h2 h3, if_pos]
  unfold rE
  rw [if_neg]
  simp only [List.length_append]
  omega
theorem body_split (k : Int) (S : List (List Int)) : bodyS k S = [76, 84, 1, k] ++ (uenc S.length ++ lens S ++ S.flatten) := by
  unfold bodyS hd lens
  rw [List.take_length]
  simp only [List.append_assoc]
theorem sealedB_take (b : List Int) : (sealedB b).take ((sealedB b).length - 4) = b ∧ (sealedB b).drop ((sealedB b).length - 4) = four (csum b) := by
  have e : (sealedB b).length - 4 = b.length := by unfold sealedB; rw [List.length_append]; simp [four]
  rw [e]
  unfold sealedB
  exact ⟨List.take_left, List.drop_left⟩
theorem mem_len_le {S : List (List Int)} {s : List Int} (h : s ∈ S) : s.length ≤ S.flatten.length := by
  obtain ⟨i, hi⟩ := List.getElem?_of_mem h
  have := take_flatten_len S (i + 1)
  rw [take_flatten_succ hi, List.length_append] at this
  omega
/-- What was sealed is opened again. -/
theorem open_seal {k : Int} {S : List (List Int)} {b : List Int} (h : sealF k S = some b) : openF k b = (S, 0) ∧ b.length ≤ 16777216 := by
  unfold sealF at h
  split at h
  · cases h
  · rename_i hc
    injection h with h
    subst h
    have hlen : (sealedB (bodyS k S)).length = (bodyS k S).length + 4 := by unfold sealedB; rw [List.length_append]; rfl
    obtain ⟨t1, t2⟩ := sealedB_take (bodyS k S)
    have hb := body_split k S
    have hbl : (bodyS k S).length = 4 + (uenc S.length ++ lens S ++ S.flatten).length := by rw [hb, List.length_append]; rfl
    have hu := uenc_pos S.length
    have hx : sealedB (bodyS k S) = 76 :: 84 :: 1 :: k :: (uenc S.length ++ lens S ++ S.flatten ++ four (csum (bodyS k S))) := by
      rw [sealedB, hb]; rfl
    have h2 : (uenc S.length ++ lens S ++ S.flatten).length = (uenc S.length).length + (lens S).length + S.flatten.length := by simp only [List.length_append]
    refine ⟨?_, by omega⟩
    unfold openF
    rw [if_neg (by omega), if_pos, t1, hb]
    · exact inner_fwd S (by omega) (fun s hs => by have := mem_len_le hs; omega)
    · refine ⟨by omega, by rw [hx]; rfl, by rw [hx]; rfl, ?_⟩
      rw [t2, t1]
theorem rS_inv {xs : List Int} {i : Nat} {e m : Int} (hb : Byt xs) (h : (rS xs i e m).2.2 = 0) : e = 0 ∧ xs.take (rS xs i e m).2.1 = xs.take i ++ uenc (rS xs i e m).1 := by
  unfold rS at h ⊢
  by_cases he : e = 0
  · subst he
    simp only [if_true] at h ⊢
    rcases hq : num (xs.drop i) with _ | ⟨u, n⟩
    · rw [hq] at h
      exact absurd (show (20 : Int) = 0 from h) (by decide)
    · rw [hq] at h
      simp only at h ⊢
      by_cases hm : (u : Int) ≤ m
      · rw [if_pos hm]
        refine ⟨trivial, ?_⟩
        rw [num_enc (fun x hx => hb x (List.mem_of_mem_drop hx)) hq]
        exact List.take_add
      · rw [if_neg hm] at h
        exact absurd (show (20 : Int) = 0 from h) (by decide)
  · rw [if_neg he] at h
    exact absurd h he
theorem rB_inv {xs : List Int} {i z : Nat} {e : Int} (h : (rB xs i e (z : Nat)).2.2 = 0) : e = 0 ∧ xs.take (rB xs i e (z : Nat)).2.1 = xs.take i ++ (rB xs i e (z : Nat)).1 ∧ (rB xs i e (z : Nat)).1.length = z := by
  unfold rB at h ⊢
  by_cases he : e = 0
  · subst he
    simp only [if_true] at h ⊢
    by_cases hm : (0 : Int) ≤ (z : Int) ∧ (i : Int) + (z : Int) ≤ xs.length
    · rw [if_pos hm, Int.toNat_natCast]
      refine ⟨trivial, List.take_add, ?_⟩
      simp only [List.length_take, List.length_drop]
      omega
    · rw [if_neg hm] at h
      exact absurd (show (20 : Int) = 0 from h) (by decide)
  · rw [if_neg he] at h
    exact absurd h he
theorem szN_inv {ys : List Int} {m : Int} {p : Nat × Int} (hb : Byt ys) : ∀ j, (szN ys m p j).2.2 = 0 → p.2 = 0 ∧ ys.take (szN ys m p j).2.1 = ys.take p.1 ++ (szN ys m p j).1.flatMap fun n => uenc n
  | 0, h => ⟨h, by simp [szN]⟩
  | j + 1, h => by
    rw [szN] at h ⊢
    obtain ⟨h1, h2⟩ := rS_inv hb h
    obtain ⟨h3, h4⟩ := szN_inv hb j h1
    refine ⟨h3, ?_⟩
    simp only
    rw [h2, h4, List.flatMap_append]
    simp
theorem blN_inv {ys : List Int} {z : List Nat} {p : Nat × Int} : ∀ j, j ≤ z.length → (blN ys p z j).2.2 = 0 → p.2 = 0 ∧ ys.take (blN ys p z j).2.1 = ys.take p.1 ++ (blN ys p z j).1.flatten ∧ (blN ys p z j).1.map List.length = z.take j
  | 0, _, h => ⟨h, by simp [blN], by simp [blN]⟩
  | j + 1, hj, h => by
    rw [blN] at h ⊢
    obtain ⟨h1, h2, h5⟩ := rB_inv h
    obtain ⟨h3, h4, h6⟩ := blN_inv j (by omega) h1
    refine ⟨h3, ?_, ?_⟩
    · simp only
      rw [h2, h4]
      simp
    · simp only
      rw [List.map_append, h6, List.take_add_one, List.getElem?_eq_getElem (show j < z.length by omega)]
      simp only [List.map_cons, List.map_nil, h5]
      rw [List.getD_eq_getElem?_getD, List.getElem?_eq_getElem (show j < z.length by omega)]
      rfl
theorem inner_inv {ys : List Int} {L : List (List Int)} (hb : Byt ys) (h : innerF ys = (L, 0)) : ys = uenc L.length ++ lens L ++ L.flatten ∧ L.length ≤ 1024 := by
  rcases h1 : rS ys 0 0 1024 with ⟨K, i1, e1⟩
  rcases h2 : szN ys 16777216 (i1, e1) K with ⟨z, i2, e2⟩
  rcases h3 : blN ys (i2, e2) z K with ⟨L', i3, e3⟩
  rw [innerF_eq h1 h2 h3] at h
  split at h
  · rename_i h0
    have hL : L' = L := (Prod.mk.inj h).1
    subst hL
    have hzl : z.length = K := by have := szN_len ys 16777216 (i1, e1) K; rw [h2] at this; exact this
    have he3 : e3 = 0 ∧ ys.length ≤ i3 := by
      unfold rE at h0
      split at h0
      · exact absurd h0 (by decide)
      · rename_i hc
        subst h0
        exact ⟨rfl, Nat.le_of_not_lt fun h => hc ⟨rfl, h⟩⟩
    obtain ⟨rfl, hi3⟩ := he3
    obtain ⟨b1, b2, b3⟩ := blN_inv (ys := ys) (z := z) (p := (i2, e2)) K (by omega) (by rw [h3])
    rw [h3] at b2 b3
    obtain ⟨s1, s2⟩ := szN_inv (ys := ys) (m := 16777216) (p := (i1, e1)) hb K (by rw [h2]; exact b1)
    rw [h2] at s2
    obtain ⟨r1, r2⟩ := rS_inv (xs := ys) (i := 0) (e := 0) (m := 1024) hb (by rw [h1]; exact s1)
    rw [h1] at r2
    simp only [List.take_zero, List.nil_append] at b2 s2 r2 b3
    rw [List.take_of_length_le hi3, s2, r2] at b2
    have hKL : L'.length = K := by have := congrArg List.length b3; rw [List.length_map, List.length_take] at this; omega
    rw [List.take_of_length_le (by omega)] at b3
    have hz : (z.flatMap fun n => uenc n) = lens L' := by rw [← b3]; unfold lens; rw [List.flatMap_map]
    rw [hz, ← hKL] at b2
    refine ⟨b2, ?_⟩
    have := rS_max (ys := ys) (i := 0) (e := 0) (m := 1024) (by decide)
    rw [h1] at this
    simp only at this
    omega
  · exact absurd (Prod.mk.inj h).2 (by decide)
/-- What is opened, sealed, is the file. -/
theorem seal_open {k : Int} {xs : List Int} {L : List (List Int)} (hb : Byt xs) (h : openF k xs = (L, 0)) : sealF k L = some xs := by
  unfold openF at h
  split at h
  · exact absurd (Prod.mk.inj h).2 (by decide)
  · rename_i hlen
    split at h
    · rename_i ho
      obtain ⟨h8, h3, hk, h4⟩ := ho
      obtain ⟨e1, e2⟩ := inner_inv (((hb.take _)).drop' 4) h
      have hx : xs.take (xs.length - 4) = bodyS k L := by
        rw [body_split, ← e1, List.drop_take]
        have ht : (xs.take (xs.length - 4)) = (xs.take (xs.length - 4)).take 4 ++ (xs.take (xs.length - 4)).drop 4 := (List.take_append_drop 4 _).symm
        rw [ht, List.drop_take]
        congr 1
        rw [List.take_take, Nat.min_eq_left (by omega)]
        obtain ⟨x0, x1, x2, x3, r, rfl⟩ := kind_cases xs (by omega)
        have q1 := List.cons.inj h3
        have q2 := List.cons.inj q1.2
        have q3 := List.cons.inj q2.2
        have q4 : x3 = k := hk
        show [x0, x1, x2, x3] = _
        rw [q1.1, q2.1, q3.1, q4]
      have hs : xs = sealedB (bodyS k L) := by
        rw [sealedB, ← hx, ← h4]
        exact (List.take_append_drop _ _).symm
      have hl : xs.length = (bodyS k L).length + 4 := by
        have := congrArg List.length hs
        rw [sealedB, List.length_append] at this
        exact this
      unfold sealF
      rw [if_neg (by omega), ← hs]
    · exact absurd (Prod.mk.inj h).2 (by decide)
end Go.Proofs.Ytchcimkmjoegdaa.C
namespace Go.Proofs.Ytchcimkmjoegdaa.C
open Go.RowKit Go.Proofs.YtchcimkmjoegdaaW.PrintWords Go.Proofs.YtchcimkmjoegdaaW.PrintMore Go.Proofs.Ytchcimkmjoegdaa.M
set_option linter.unusedVariables false
set_option linter.unusedSimpArgs false

/-- Rows that are read: their headers' values and their bytes. -/
structure RdB (w : World) (A : Option Addr) (n c : Nat) (L : List (Value × List Int)) : Prop where
  hdr : RdV w A (L.map Prod.fst)
  len : L.length = n
  cap : n ≤ c
  max : n ≤ 9223372036854775807
  part : ∀ p ∈ L, Part w p
theorem RdB.below {w w' : World} {A : Option Addr} {n c : Nat} {L : List (Value × List Int)} (h : RdB w A n c L) (hb : Below w.heap.size w w') : RdB w' A n c L := ⟨h.hdr.below hb, h.len, h.cap, h.max, fun p hp => (h.part p hp).below hb⟩
theorem RdB.of_blks {w : World} {base : Nat} {A : Option Addr} {n c : Nat} {B : List (Value × List Int)} (h : Blks w base (.slice A n c) B) (hn : n ≤ 9223372036854775807) (hb : ∀ p ∈ B, p.2.length ≤ 140737488355328 ∧ Byt p.2) : RdB w A n c B := by
  have hs := h.hdr.shape
  obtain ⟨A', c', he, hc⟩ := hs
  injection he with e1 e2 e3
  subst e1; subst e2; subst e3
  exact ⟨RdV.of_win h.hdr, rfl, hc, hn, fun p hp => Part.of_acc (h.win p hp) (hb p hp).2 (hb p hp).1⟩
theorem map_take_succ {L : List (Value × List Int)} {i : Nat} {p : Value × List Int} (h : L[i]? = some p) : (L.take (i + 1)).map Prod.snd = (L.take i).map Prod.snd ++ [p.2] := by
  rw [List.take_add_one, h]
  simp
theorem map_get {La Lb : List (Value × List Int)} {i : Nat} {p q : Value × List Int} (hp : La[i]? = some p) (hq : Lb[i]? = some q) (h : p.2 ≠ q.2) : La.map Prod.snd ≠ Lb.map Prod.snd := fun e => by
  have h1 : (La.map Prod.snd)[i]? = (Lb.map Prod.snd)[i]? := by rw [e]
  rw [List.getElem?_map, List.getElem?_map, hp, hq] at h1
  exact h (Option.some.inj h1)
set_option maxHeartbeats 2000000 in
theorem KBlocks_any (w : World) (A B : Option Addr) (n n' c d : Nat) (La Lb : List (Value × List Int)) (ha : RdB w A n c La) (hb : RdB w B n' d Lb) :
    Calls Try.prog 64 #[.slice A n c, .slice B n' d] w fun e w' => e = .returned (.bool (decide (La.map Prod.snd = Lb.map Prod.snd))) ∧ ∃ m, w' = w.drewN m := by
  have hn := ha.max
  have hn' := hb.max
  have HA := Aside0.mk ha
  have HB := Aside0.mk hb
  by_cases hnn : n = n'
  · subst hnn
    clear ha hb
    go_enter Try.func64, Try.ntmps64
    go_wp2_with fail
    go_loopw [5] (fun v5 wr => ∃ i : Nat, v5 = .int .i64 i ∧ i ≤ n ∧ Aside0 ((∃ m, wr = w.drewN m) ∧ (La.take i).map Prod.snd = (Lb.take i).map Prod.snd)) (fun v5 _ => n - (intOf v5).toNat)
    case atStart => exact ⟨0, rfl, by omega, ⟨⟨0, rfl⟩, rfl⟩⟩
    case round =>
      obtain ⟨i, rfl, hi, HR⟩ := hrel
      have HW := Aside0.mk (show Below w.heap.size w wr from by obtain ⟨m, rfl⟩ := HR.out.1; exact pw_below_drewN (Below.refl _ _) m)
      by_cases hlt : i < n
      · obtain ⟨p, hp⟩ := get_some' (xs := La) (i := i) (by have := HA.out.len; omega)
        obtain ⟨q, hq⟩ := get_some' (xs := Lb) (i := i) (by have := HB.out.len; omega)
        obtain ⟨a1, e1, h1⟩ := rdv_at (HA.out.hdr.below HW.out) hp
        obtain ⟨a2, e2, h2⟩ := rdv_at (HB.out.hdr.below HW.out) hq
        subst e1; subst e2
        obtain ⟨A1, c1, f1, f2, f3, f4, f5⟩ := (HA.out.part p (List.mem_of_getElem? hp)).below HW.out
        obtain ⟨A2, c2, k1, k2, k3, k4, k5⟩ := (HB.out.part q (List.mem_of_getElem? hq)).below HW.out
        rw [f1] at h1
        rw [k1] at h2
        have HC := Aside0.mk (fun m => KBytes_any (wr.drewN m) A1 A2 p.2.length q.2.length c1 c2 p.2 q.2 (f4.below (pw_below_drewN (Below.refl _ _) m)) (k4.below (pw_below_drewN (Below.refl _ _) m)) rfl rfl (by omega) (by omega) f2 k2)
        have HP := Aside0.mk hp
        have HQ := Aside0.mk hq
        clear hp hq f1 f2 f3 f4 f5 k1 k2 k3 k4 k5
        by_cases heq : p.2 = q.2
        · rw [decide_eq_true heq] at HC
          have HE := Aside0.mk heq
          clear heq
          generalize p.2.length = l1 at *
          generalize q.2.length = l2 at *
          go_wp2_with fail
          go_quiet ((go_at_call 24; go_must (exact Calls.quiet_of (HC.out _))))
          go_wp2_with fail
          go_roundw
          case rel => exact ⟨i + 1, by simp, by omega, ⟨(by obtain ⟨m, hm⟩ := HR.out.1; exact ⟨m + nq, by rw [hm]; exact World.drewN_drewN ..⟩), by rw [map_take_succ HP.out, map_take_succ HQ.out, HR.out.2, HE.out]⟩⟩
          case measure => simp [intOf]; omega
        · rw [decide_eq_false heq] at HC
          have HE := Aside0.mk (decide_eq_false (map_get HP.out HQ.out heq))
          clear heq
          generalize p.2.length = l1 at *
          generalize q.2.length = l2 at *
          go_wp2_with fail
          go_quiet ((go_at_call 24; go_must (exact Calls.quiet_of (HC.out _))))
          go_wp2_with fail
          go_ret
          exact ⟨by rw [HE.out]; rfl, (by obtain ⟨m, hm⟩ := HR.out.1; exact ⟨m + nq, by rw [hm]; exact World.drewN_drewN ..⟩)⟩
      · have HE := Aside0.mk (show decide (La.map Prod.snd = Lb.map Prod.snd) = true from decide_eq_true (by have h := HR.out.2; rwa [List.take_of_length_le (by have := HA.out.len; omega), List.take_of_length_le (by have := HB.out.len; omega)] at h))
        go_wp2_with fail
        go_ret
        exact ⟨by rw [HE.out]; rfl, HR.out.1⟩
  · have hbn : ((n : Int) != (n' : Int)) = true := by simp; omega
    have HE := Aside0.mk (show decide (La.map Prod.snd = Lb.map Prod.snd) = false from decide_eq_false (fun e => by have := congrArg List.length e; rw [List.length_map, List.length_map, ha.len, hb.len] at this; exact hnn this))
    clear hnn ha hb
    go_enter Try.func64, Try.ntmps64
    go_wp2_with fail
    go_ret
    exact ⟨by rw [HE.out]; rfl, 0, rfl⟩
set_option maxRecDepth 100000 in
set_option maxHeartbeats 1000000 in
theorem lsealed_any (w : World) (A : Option Addr) (n : Nat) (b : List Int) (hr : RdV w A (nums .u8 b)) (hl : b.length = n) (hb : Byt b) (hn : n ≤ 1000000) :
    Calls Try.prog 65 #[.slice A n n] w fun e w' => ∃ v', e = .returned v' ∧ Acc w' w.heap.size v' (sealedB b) ∧ Fr No w w' := by
  have HS := Aside0.mk (sum_part w (.slice A n n) b ⟨A, n, by rw [hl], by show b.length ≤ n; omega, by show b.length ≤ _; omega, hr, hb⟩)
  have HR := Aside0.mk hr
  obtain ⟨s, hs⟩ : ∃ s, csum b = s := ⟨_, rfl⟩
  have hlt : s < 4294967296 := by rw [← hs]; exact csum_lt b
  rw [hs] at HS
  have HB := Aside0.mk (small_bound (n := n + 4) (by omega))
  have HE := Aside0.mk hs
  have HL := Aside0.mk hl
  clear hr hs hl hb
  go_enter Try.func65, Try.ntmps65
  go_wp2_with (first | (at_builtin; go_must (refine wpl_append_new _ rfl (.tmp 7) (.tmp 19) 22 22 5 (.int .u8 0) 1 1 (.slice 5) rfl Try.underlying22 Try.underlying22 (.inl ⟨_, rfl⟩) info5 rfl A n n (nums .u8 b) (.slice (some ⟨w1.heap.size, 0, none⟩) 4 4) 4 (nums .u8 (four s)) rfl rfl ((HR.out.below F1.out.no).below (below_alloc (Below.refl _ _) _)) (by rw [nums_length, HL.out, Nat.mul_one]) (Src.of_rd (rd_lit w1 .u8 5 (four s)) rfl (nums_one _ _)) (by omega) HB.out.1 HB.out.2 ?_; intro v1 w2 g1 g3; have G1 := Aside0.mk g1; have G3 := Aside0.mk g3; clear g1 g3)) | (go_at_call 58; go_must (refine HS.out.mono ?_; rintro e' w1 ⟨rfl, q1⟩; have F1 := Aside0.mk q1; clear q1)))
  go_ret
  have g := G1.out
  rw [← nums_append] at g
  refine ⟨v1, rfl, Acc.of ((by unfold sealedB; rw [HE.out]; exact g : Win _ _ 5 1 v1 _ (nums .u8 (sealedB b))).lower (by have := F1.out.size; simp; omega)), F1.out.trans (below_one G3.out) (fun _ _ h => h) (fun _ _ h => h)⟩
theorem len_zero (n : Nat) : ((n : Int) == 0) = decide (n = 0) := by rw [Bool.eq_iff_iff]; simp
/-- What bad answers. -/
def badF (k : Int) (xs : List Int) : Bool := decide ((openF k xs).2 = 20) && decide ((openF k xs).1.length = 0)
set_option maxHeartbeats 1000000 in
theorem bad_any (w : World) (k : Int) (A : Option Addr) (n c : Nat) (xs : List Int) (hr : RdV w A (nums .u8 xs)) (hl : xs.length = n) (hb : Byt xs) (h0 : A = none → c = 0) (hc : n ≤ c) (hn : n ≤ 140737488355328) :
    Calls Try.prog 66 #[.int .u8 k, .slice A n c] w fun e w' => e = .returned (.bool (badF k xs)) ∧ Fr No w w' := by
  have HO := Aside0.mk (open_any w k A n c xs hr hl hb h0 hc hn)
  have HBD := Aside0.mk (show badF k xs = (decide ((openF k xs).2 = 20) && decide ((openF k xs).1.length = 0)) from rfl)
  clear hr hl hb h0 hc hn
  generalize hO : openF k xs = O at HBD
  obtain ⟨L, e⟩ := O
  simp only at HBD
  have HOO := Aside0.mk hO
  clear hO
  by_cases he : e = 20
  · subst he
    have h20 : ((20 : Int) == 20) = true := rfl
    go_enter Try.func66, Try.ntmps66
    go_wp2_with (go_at_call 60; go_must (refine HO.out.mono ?_; rintro e' w1 ⟨v, B, rfl, q1, q2, q3⟩; rw [HOO.out] at q1 ⊢; simp only at q1 ⊢; obtain ⟨A1, c1, e1, l1⟩ := q2.hdr.shape; subst e1; have hm := q2.hdr.max; have Q1 := Aside0.mk q1; have Q3 := Aside0.mk q3; clear q1 q2 q3))
    go_ret
    refine ⟨?_, Q3.out⟩
    have hfin : badF k xs = ((B.length : Int) == 0) := by rw [HBD.out, Q1.out, List.length_map, len_zero]; rfl
    rw [hfin]
    rfl
  · have hb : (e == 20) = false := by simp [he]
    have HF := Aside0.mk (show badF k xs = false from by rw [HBD.out, decide_eq_false he]; rfl)
    clear he
    go_enter Try.func66, Try.ntmps66
    go_wp2_with (go_at_call 60; go_must (refine HO.out.mono ?_; rintro e' w1 ⟨v, B, rfl, q1, q2, q3⟩; rw [HOO.out] at q1 ⊢; simp only at q1 ⊢; obtain ⟨A1, c1, e1, l1⟩ := q2.hdr.shape; subst e1; have hm := q2.hdr.max; have Q1 := Aside0.mk q1; have Q3 := Aside0.mk q3; clear q1 q2 q3))
    go_ret
    exact ⟨by rw [HF.out]; rfl, Q3.out⟩
end Go.Proofs.Ytchcimkmjoegdaa.C
namespace Go.Proofs.Ytchcimkmjoegdaa.C
open Go.RowKit Go.Proofs.YtchcimkmjoegdaaW.PrintWords Go.Proofs.YtchcimkmjoegdaaW.PrintMore Go.Proofs.Ytchcimkmjoegdaa.M
set_option linter.unusedVariables false
set_option linter.unusedSimpArgs false

theorem rdv_lit_at (w : World) (t : TypeId) (xs : List Value) {g : Nat} (h : g = w.heap.size) : RdV (w.alloc (.cells xs.toArray t)) (some ⟨g, 0, none⟩) xs := by
  subst h
  exact fun _ => ⟨_, rfl, by simpa using World.news_of_block (cs := xs.toArray) (t := t) (fr := (0, 0)) (heap_alloc_new w (.cells xs.toArray t))⟩
theorem rd_row_at (w : World) (k : IntKind) (t : TypeId) (xs : List Int) (fr : Nat × Nat) {g : Nat} (h : g = w.heap.size) : RdV (w.alloc (.cells (nums k xs).toArray t fr)) (some ⟨g, 0, none⟩) (nums k xs) := by
  subst h
  exact rd_row w k t xs fr
theorem sum_part_at (w : World) (v : Value) (b : List Int) (h : Part w (v, b)) {g : Nat} (hg : g = w.heap.size) :
    Calls Try.prog 58 #[.slice (some ⟨g, 0, none⟩) 1 1] (w.alloc (.cells #[v] 22)) fun e w' => e = .returned (.int .u32 (csum b : Nat)) ∧ Fr No w w' := by
  subst hg
  exact sum_part w v b h
theorem part_rd {W : World} {A : Option Addr} {n c : Nat} {b : List Int} (h : RdV W A (nums .u8 b)) (hl : b.length = n) (hc : n ≤ c) (hn : n ≤ 140737488355328) (hb : Byt b) : Part W (.slice A n c, b) :=
  ⟨A, c, by rw [hl], by show b.length ≤ c; omega, by show b.length ≤ _; omega, h, hb⟩
def AwS : List (List Int) := [[5, 6], [], [7]]
def AwC : List Int := [76, 84, 1, 1, 3, 2, 0, 1, 5, 6, 7]
def b9 : List Int := [49, 50, 51, 52, 53, 54, 55, 56, 57]
theorem csum_b9 : csum b9 = 3421780262 := by decide +kernel
theorem aw_body : bodyS 1 AwS = AwC := by
  rw [body_split]
  show [76, 84, 1, 1] ++ (uenc 3 ++ (uenc 2 ++ (uenc 0 ++ (uenc 1 ++ []))) ++ [5, 6, 7]) = AwC
  rw [uenc_small (by decide), uenc_small (by decide), uenc_small (by decide), uenc_small (by decide)]
  rfl
theorem aw_seal : sealF 1 AwS = some (sealedB AwC) := by
  unfold sealF
  rw [aw_body, if_neg (by simp [AwS, AwC])]
theorem aw_open : openF 1 (sealedB AwC) = (AwS, 0) := (open_seal aw_seal).1
theorem byt_dec {l : List Int} (h : l.all (fun x => decide (0 ≤ x) && decide (x ≤ 255)) = true) : Byt l := fun x hx => by
  have := List.all_eq_true.1 h x hx
  simpa using this
theorem aw_bytC : Byt AwC := byt_dec (by decide)
theorem byt_sealedB {b : List Int} (h : Byt b) : Byt (sealedB b) := Byt.app h (byt_four (csum_lt b))
/-- Three sections laid out as literals. -/
theorem aw_rdb (w : World) (g1 g2 g3 : Nat) (h1 : g1 = w.heap.size) (h2 : g2 = w.heap.size + 1) (h3 : g3 = w.heap.size + 2) : RdB (((w.alloc (.cells (nums .u8 [5, 6]).toArray 5)).alloc (.cells (nums .u8 [7]).toArray 5)).alloc (.cells #[.slice (some ⟨g1, 0, none⟩) 2 2, .slice none 0 0, .slice (some ⟨g2, 0, none⟩) 1 1] 22)) (some ⟨g3, 0, none⟩) 3 3
    [(.slice (some ⟨g1, 0, none⟩) 2 2, [5, 6]), (.slice none 0 0, []), (.slice (some ⟨g2, 0, none⟩) 1 1, [7])] := by
  refine ⟨rdv_lit_at _ 22 [.slice (some ⟨g1, 0, none⟩) 2 2, .slice none 0 0, .slice (some ⟨g2, 0, none⟩) 1 1] (by simp [h3]), rfl, Nat.le_refl _, by decide, fun p hp => ?_⟩
  have r1 := ((rd_lit_at w .u8 5 [5, 6] h1).below (below_alloc (Below.refl _ _) (.cells (nums .u8 [7]).toArray 5))).below (below_alloc (Below.refl _ _) (.cells #[.slice (some ⟨g1, 0, none⟩) 2 2, .slice none 0 0, .slice (some ⟨g2, 0, none⟩) 1 1] 22))
  have r2 := (rd_lit_at (w.alloc (.cells (nums .u8 [5, 6]).toArray 5)) .u8 5 [7] (g := g2) (by simp [h2])).below (below_alloc (Below.refl _ _) (.cells #[.slice (some ⟨g1, 0, none⟩) 2 2, .slice none 0 0, .slice (some ⟨g2, 0, none⟩) 1 1] 22))
  simp only [List.mem_cons, List.mem_nil_iff, or_false] at hp
  rcases hp with rfl | rfl | rfl
  · exact part_rd r1 rfl (by decide) (by decide) (byt_dec (by decide))
  · exact part_rd (rd_nil _ _ _) rfl (by decide) (by decide) (byt_dec (by decide))
  · exact part_rd r2 rfl (by decide) (by decide) (byt_dec (by decide))
theorem aw_len {B : List (Value × List Int)} (h : AwS = B.map Prod.snd) : B.length = 3 := by have := congrArg List.length h; rw [List.length_map] at this; exact this.symm
theorem aw_small {B : List (Value × List Int)} (h : AwS = B.map Prod.snd) : ∀ p ∈ B, p.2.length ≤ 140737488355328 ∧ Byt p.2 := fun p hp => by
  have hm : p.2 ∈ AwS := by rw [h]; exact List.mem_map.2 ⟨p, hp, rfl⟩
  simp only [AwS, List.mem_cons, List.mem_nil_iff, or_false] at hm
  rcases hm with e | e | e <;> rw [e] <;> exact ⟨by decide, byt_dec (by decide)⟩
theorem Blks.below {w w' : World} {base : Nat} {v : Value} {B : List (Value × List Int)} (h : Blks w base v B) (hb : Below w.heap.size w w') : Blks w' base v B := ⟨h.hdr.below hb, fun p hp => (h.win p hp).below hb, h.sep⟩
theorem fr3 (w : World) (a b c : Obj) : Fr No w (((w.alloc a).alloc b).alloc c) := Fr.of_No (accAlloc (accAlloc (accAlloc (Below.refl _ _) (Nat.le_refl _) a) (Nat.le_refl _) b) (Nat.le_refl _) c)
theorem frt {a b c : World} (h : Fr No a b) (k : Fr No b c) : Fr No a c := h.trans k (fun _ _ h => h) (fun _ _ h => h)
set_option maxRecDepth 100000 in
set_option maxHeartbeats 4000000 in
theorem awake4_any (w : World) : Calls Try.prog 55 #[] w fun e w' => e = .returned (.bool true) ∧ Fr No w w' := by
  have HS := Aside0.mk (fun (w : World) (g1 g2 g3 : Nat) (h1 : g1 = w.heap.size) (h2 : g2 = w.heap.size + 1) (h3 : g3 = w.heap.size + 2) => (by
    have h := aw_rdb w g1 g2 g3 h1 h2 h3
    refine (seal_any _ 1 _ _ _ _ (by decide) h.hdr h.len h.part h.cap h.max).mono ?_
    rintro e w' ⟨h1 | ⟨b, v, h1, h2, h3⟩, hf⟩
    · rw [show List.map Prod.snd [((Value.slice (some ⟨g1, 0, none⟩) 2 2), ([5, 6] : List Int)), (.slice none 0 0, []), (.slice (some ⟨g2, 0, none⟩) 1 1, [7])] = AwS from rfl, aw_seal] at h1
      exact nomatch h1.1
    · rw [show List.map Prod.snd [((Value.slice (some ⟨g1, 0, none⟩) 2 2), ([5, 6] : List Int)), (.slice none 0 0, []), (.slice (some ⟨g2, 0, none⟩) 1 1, [7])] = AwS from rfl, aw_seal] at h1
      obtain rfl := Option.some.inj h1
      exact ⟨v, h2, h3.lower (fr3 w _ _ _).size, frt (fr3 w _ _ _) hf⟩ :
    Calls Try.prog 56 #[.int .u8 1, .slice (some ⟨g3, 0, none⟩) 3 3] (((w.alloc (.cells #[.int .u8 5, .int .u8 6] 5)).alloc (.cells #[.int .u8 7] 5)).alloc (.cells #[.slice (some ⟨g1, 0, none⟩) 2 2, .slice none 0 0, .slice (some ⟨g2, 0, none⟩) 1 1] 22)) fun e w' => ∃ v, e = .returned (.tuple #[v, .int .i64 0]) ∧ Acc w' w.heap.size v (sealedB AwC) ∧ Fr No w w'))
  have kc := fun (w : World) (C : Array Value) (n c : Nat) => Lib.run_convert_bytes_const (P := Try.prog) w 22 5 C n c Try.underlying22 Try.underlying5
  go_enter Try.func55, Try.ntmps55
  go_wp2_with (first | (go_at_call 64; go_must (refine (KBlocks_any _ A2 _ B.length 3 c2 3 B _ ((RdB.of_blks (Q2.out.2.below (frt F3.out (frt F4.out F5.out)).no) (by rw [aw_len Q2.out.1]; decide) (aw_small Q2.out.1)).below (fr3 w5 _ _ _).no) (aw_rdb w5 _ _ _ rfl rfl rfl)).mono ?_; show ∀ (e : Ending) (w' : World), (e = .returned (.bool (decide (List.map Prod.snd B = AwS))) ∧ _) → _; rw [decide_eq_true Q2.out.1.symm]; rintro e' w6 ⟨rfl, m6, hm6⟩; have F6 := Aside0.mk (show Fr No w5 w6 from by rw [hm6]; exact frt (fr3 w5 _ _ _) (Fr.drewN _ m6)); clear hm6)) | (go_at_call 24; go_must (refine (KBytes_any w4 A1 A4 _ _ c1 c4 _ _ (RdV.of_win (Q1.out.below (frt F2.out (frt F3.out F4.out)).no)) (RdV.of_win Q4.out) rfl rfl (Win.max Q1.out) (Win.max Q4.out) l1 l4).mono ?_; rw [decide_eq_true rfl]; rintro e' w5 ⟨rfl, m5, hm5⟩; have F5 := Aside0.mk (show Fr No w4 w5 from by rw [hm5]; exact Fr.drewN w4 m5); clear hm5)) | (go_at_call 65; go_must (refine (lsealed_any _ _ 11 AwC (rd_lit_at w3 .u8 5 AwC rfl) rfl aw_bytC (by decide)).mono ?_; rintro e' w4 ⟨v4, rfl, q1, q2⟩; obtain ⟨A4, c4, e4, l4⟩ := Win.shape q1; subst e4; have Q4 := Aside0.mk q1; have F4 := Aside0.mk (below_one q2); clear q1 q2)) | (go_at_call 58; go_must (refine (sum_part_at _ _ b9 (part_rd (rd_row_at w2 .u8 5 b9 (9, 10) rfl) rfl (by decide) (by decide) (byt_dec (by decide))) (by simp)).mono ?_; rw [csum_b9]; rintro e' w3 ⟨rfl, q2⟩; have F3 := Aside0.mk (below_one q2); clear q2)) | (go_at_call 60; go_must (refine (open_any w1 1 A1 _ c1 (sealedB AwC) (RdV.of_win Q1.out) rfl (byt_sealedB aw_bytC) (fun e => by subst e; exact Win.nil_cap Q1.out) l1 (by decide)).mono ?_; rintro e' w2 ⟨v2, B, rfl, q1, q2, q3⟩; rw [aw_open] at q1 ⊢; simp only at q1 ⊢; obtain ⟨A2, c2, e2, l2⟩ := q2.hdr.shape; subst e2; have Q2 := Aside0.mk (And.intro q1 q2); have F2 := Aside0.mk q3; clear q1 q2 q3)) | (go_at_call 56; go_must (refine (HS.out w _ _ _ rfl rfl rfl).mono ?_; rintro e' w1 ⟨v1, rfl, q1, q2⟩; obtain ⟨A1, c1, e1, l1⟩ := Win.shape q1; subst e1; have Q1 := Aside0.mk q1; have F1 := Aside0.mk q2; clear q1 q2)))
  go_ret
  exact ⟨rfl, frt F1.out (frt F2.out (frt F3.out (frt F4.out (frt F5.out F6.out))))⟩
end Go.Proofs.Ytchcimkmjoegdaa.C
namespace Go.Proofs.Ytchcimkmjoegdaa.C
open Go.RowKit Go.Proofs.YtchcimkmjoegdaaW.PrintWords Go.Proofs.YtchcimkmjoegdaaW.PrintMore Go.Proofs.Ytchcimkmjoegdaa.M
set_option linter.unusedVariables false
set_option linter.unusedSimpArgs false

/-- What Seal answers, whole. -/
def sealR (k : Int) (S : List (List Int)) : List Int × Int := match sealF k S with
  | none => ([], 3)
  | some b => (b, 0)
theorem SealPost.all {k : Int} {S : List (List Int)} {w w' : World} {e : Ending} (h : SealPost k S w e w') : ∃ v, e = .returned (.tuple #[v, .int .i64 (sealR k S).2]) ∧ Acc w' w.heap.size v (sealR k S).1 ∧ Fr No w w' := by
  unfold sealR
  obtain ⟨⟨h1, h2⟩ | ⟨b, v, h1, h2, h3⟩, hf⟩ := h
  · rw [h1]
    exact ⟨_, h2, Acc.of (Win.nil _ _ _ _), hf⟩
  · rw [h1]
    exact ⟨v, h2, h3, hf⟩
theorem sealR_len (k : Int) (S : List (List Int)) : (sealR k S).1.length ≤ 16777216 := by
  unfold sealR
  split
  · exact Nat.zero_le _
  · rename_i b h
    exact (open_seal h).2
/-- Bytes lent: a mark stands behind them. -/
def Lent (W : World) (base : Nat) (u : Value) (s : List Int) : Prop := ∃ A c, u = .slice A s.length c ∧ Win W base 5 1 (.slice A (s.length + 1) c) (s.length + 1) (nums .u8 (s ++ [201]))
theorem Lent.fr {W W' : World} {base : Nat} {u : Value} {s : List Int} {T : Nat → Prop} (h : Lent W base u s) (f : Fr T W W') (hn : ∀ k, At u k → ¬ T k) : Lent W' base u s := by
  obtain ⟨A, c, rfl, hw⟩ := h
  exact ⟨A, c, rfl, hw.fr f (fun k hk => hn k (ApB.at_same hk))⟩
theorem Lent.below {W W' : World} {base : Nat} {u : Value} {s : List Int} (h : Lent W base u s) (hb : Below W.heap.size W W') : Lent W' base u s := by
  obtain ⟨A, c, rfl, hw⟩ := h
  exact ⟨A, c, rfl, hw.below hb⟩
theorem Lent.at_ {W : World} {base : Nat} {u : Value} {s : List Int} {k : Nat} (h : Lent W base u s) (hk : At u k) : base ≤ k ∧ k < W.heap.size ∧ ∃ cur, W.heap[k]? = some (.cells cur 5 (0, 0)) := by
  obtain ⟨A, c, rfl, hw⟩ := h
  exact hw.at_ (ApB.at_same hk)
theorem Lent.part {W : World} {base : Nat} {u : Value} {s : List Int} (h : Lent W base u s) (hb : Byt s) (hl : s.length ≤ 140737488355328) : Part W (u, s) := by
  obtain ⟨A, c, rfl, hw⟩ := h
  obtain ⟨A', c', he, hc⟩ := hw.shape
  injection he with e1 _ e3
  subst e1; subst e3
  refine ⟨A, c, rfl, by show s.length ≤ c; omega, hl, ?_, hb⟩
  have := (RdV.of_win hw).take s.length
  rw [nums_take, List.take_left] at this
  exact this
/-- What is gathered of the sections, while it is short. -/
def accF (S : List (List Int)) : Nat → List Int
  | 0 => []
  | i + 1 => if (accF S i).length < 100000 then accF S i ++ S.getD i [] else accF S i
theorem accF_short (S : List (List Int)) : ∀ i, (accF S i).length < 100000 → i ≤ S.length → accF S i = (S.take i).flatten
  | 0, _, _ => rfl
  | i + 1, h, hi => by
    obtain ⟨s, hs⟩ : ∃ s, S[i]? = some s := ⟨_, List.getElem?_eq_getElem hi⟩
    have hg : S.getD i [] = s := by rw [List.getD_eq_getElem?_getD, hs]; rfl
    rw [accF] at h ⊢
    split at h
    · rename_i hc
      rw [if_pos hc, hg, accF_short S i hc (by omega), take_flatten_succ hs]
    · rename_i hc
      exact absurd h hc
theorem accF_len (S : List (List Int)) (hs : ∀ s ∈ S, s.length ≤ 140737488351232) : ∀ i, i ≤ S.length → (accF S i).length ≤ 140737488451232
  | 0, _ => by simp [accF]
  | i + 1, hi => by
    obtain ⟨s, h1⟩ : ∃ s, S[i]? = some s := ⟨_, List.getElem?_eq_getElem hi⟩
    have hg : S.getD i [] = s := by rw [List.getD_eq_getElem?_getD, h1]; rfl
    have h2 := hs s (List.mem_of_getElem? h1)
    have h3 := accF_len S hs i (by omega)
    rw [accF]
    split
    · rw [List.length_append, hg]
      omega
    · exact h3
structure InSt (w W : World) (S : List (List Int)) (i : Nat) (v5 v6 : Value) (I : List Value) (al : List Int) : Prop where
  hdr : Win W w.heap.size 22 1 v5 i I
  ent : ∀ (j : Nat) (u : Value) (s : List Int), I[j]? = some u → S[j]? = some s → Lent W w.heap.size u s
  all : Acc W w.heap.size v6 al
  sep : ∀ (j : Nat) (u : Value) (k : Nat), I[j]? = some u → At u k → ¬ At v6 k
  fr : Fr No w W
section
variable {w W W1 W2 : World} {S : List (List Int)} {i : Nat} {v5 v6 v5' v6' u : Value} {I : List Value} {al al' s : List Int}
theorem InSt.below (h : InSt w W S i v5 v6 I al) (f : Fr No W W1) : InSt w W1 S i v5 v6 I al := ⟨h.hdr.below f.no, fun j u s a b => (h.ent j u s a b).below f.no, h.all.below f.no, h.sep, frt h.fr f⟩
theorem InSt.lend (h : InSt w W S i v5 v6 I al) (hs : S[i]? = some s) (hl : Lent W1 W.heap.size u s) (f1 : Fr No W W1) (hv : Win W2 w.heap.size 22 1 v5' (i + 1) (I ++ [u])) (f2 : Fr (At v5) W1 W2) : InSt w W2 S (i + 1) v5' v6 (I ++ [u]) al := by
  have h1 := h.below f1
  have hI : I.length = i := by have := h.hdr.1; rwa [Nat.mul_one] at this
  have far : ∀ {k : Nat} {cur : Array Value}, W1.heap[k]? = some (.cells cur 5 (0, 0)) → ¬ At v5 k := fun hc hk => absurd (h1.hdr.ne_type hk hc) (by decide)
  have case : ∀ {j : Nat} {x : Value}, (I ++ [u])[j]? = some x → I[j]? = some x ∨ (j = i ∧ x = u) := fun {j x} hj => by
    by_cases hl : j < I.length
    · rw [List.getElem?_append_left hl] at hj
      exact .inl hj
    · have := (List.getElem?_eq_some_iff.1 hj).1
      rw [List.length_append] at this
      simp at this
      obtain rfl : j = I.length := by omega
      simp at hj
      exact .inr ⟨hI, hj.symm⟩
  refine ⟨hv, fun j x t hj ht => ?_, ?_, fun j x k hj hk => ?_, own_step h1.fr h1.hdr f2⟩
  · rcases case hj with hj | ⟨rfl, rfl⟩
    · exact (h1.ent j x t hj ht).fr f2 (fun k hk => by obtain ⟨_, _, cur, hc⟩ := (h1.ent j x t hj ht).at_ hk; exact far hc)
    · rw [hs] at ht
      obtain rfl := Option.some.inj ht
      have h2 : Lent W2 W.heap.size x s := hl.fr f2 (fun k hk => by obtain ⟨_, _, cur, hc⟩ := hl.at_ hk; exact far hc)
      obtain ⟨A, c, e, hw⟩ := h2
      exact ⟨A, c, e, hw.lower h.fr.size⟩
  · exact h1.all.fr f2 (fun k hk => by obtain ⟨_, _, cur, hc⟩ := Win.at_ h1.all hk; exact far hc)
  · rcases case hj with hj | ⟨rfl, rfl⟩
    · exact h.sep j x k hj hk
    · intro hk'
      have a1 := (hl.at_ hk).1
      have a2 := (Win.at_ h.all hk').2.1
      omega
theorem InSt.add (h : InSt w W S i v5 v6 I al) (hi : i ≤ S.length) (hw : Acc W1 w.heap.size v6' al') (f : Fr (At v6) W W1) (hr : rb v6' = rb v6 ∨ rb v6' = some W.heap.size) : InSt w W1 S i v5 v6' I al' := by
  have hI : I.length = i := by have := h.hdr.1; rwa [Nat.mul_one] at this
  refine ⟨h.hdr.fr f (fun k hk hk' => by obtain ⟨_, _, cur, hc⟩ := Win.at_ h.all hk'; exact absurd (h.hdr.ne_type hk hc) (by decide)), fun j x t hj ht => (h.ent j x t hj ht).fr f (fun k hk => h.sep j x k hj hk), hw, fun j x k hj hk hk' => ?_, own_step h.fr h.all f⟩
  rcases hr with hr | hr
  · exact h.sep j x k hj hk (by unfold At at hk' ⊢; rw [← hr]; exact hk')
  · obtain ⟨t, ht⟩ : ∃ t, S[j]? = some t := by
      have := (List.getElem?_eq_some_iff.1 hj).1
      exact ⟨_, List.getElem?_eq_getElem (by omega)⟩
    have a1 := ((h.ent j x t hj ht).at_ hk).2.1
    unfold At at hk'
    rw [hr] at hk'
    have := Option.some.inj hk'
    omega
/-- The lent sections, as rows that are read. -/
theorem InSt.rdb {A : Option Addr} {n c : Nat} (h : InSt w W S n (.slice A n c) v6 I al) (hn : S.length = n) (hm : n ≤ 9223372036854775807) (hb : ∀ s ∈ S, s.length ≤ 140737488355328 ∧ Byt s) : RdB W A n c (I.zip S) ∧ (I.zip S).map Prod.snd = S := by
  have hI : I.length = n := by have := h.hdr.1; rwa [Nat.mul_one] at this
  obtain ⟨A', c', he, hc⟩ := h.hdr.shape
  injection he with e1 _ e3
  subst e1; subst e3
  refine ⟨⟨?_, ?_, hc, hm, fun p hp => ?_⟩, ?_⟩
  · rw [List.map_fst_zip (by omega)]
    exact RdV.of_win h.hdr
  · rw [List.length_zip]; omega
  · obtain ⟨j, hj⟩ := List.getElem?_of_mem hp
    rw [List.getElem?_zip_eq_some] at hj
    obtain ⟨a, b⟩ := hj
    have := hb p.2 (List.mem_of_getElem? b)
    exact (h.ent j p.1 p.2 a b).part this.2 this.1
  · exact List.map_snd_zip (by omega)
end
end Go.Proofs.Ytchcimkmjoegdaa.C
namespace Go.Proofs.Ytchcimkmjoegdaa.C
open Go.RowKit Go.Proofs.YtchcimkmjoegdaaW.PrintWords Go.Proofs.YtchcimkmjoegdaaW.PrintMore Go.Proofs.Ytchcimkmjoegdaa.M
set_option linter.unusedVariables false
set_option linter.unusedSimpArgs false

theorem apart_two (W : World) (base : Nat) (vb vc : Value) (bb : List Int) (hb : Acc W base vb bb) (hc : Acc W base vc bb) (hsep : ∀ k, At vb k → ¬ At vc k) (hl : bb.length ≤ 16777216) (hB : base ≤ W.heap.size) :
    Calls Try.prog 33 #[.slice (some ⟨W.heap.size, 0, none⟩) 2 2] (W.alloc (.cells #[vb, vc] 22)) fun e w' => e = .returned (.bool true) ∧ Below base W w' := by
  have get : ∀ (j : Nat) (v : Value) (n : Nat), [(vb, bb.length), (vc, bb.length)][j]? = some (v, n) → (j = 0 ∧ v = vb ∧ n = bb.length) ∨ (j = 1 ∧ v = vc ∧ n = bb.length) := fun j v n h => by
    match j, h with
    | 0, h => obtain ⟨rfl, rfl⟩ := Prod.mk.inj (Option.some.inj h); exact .inl ⟨rfl, rfl, rfl⟩
    | 1, h => obtain ⟨rfl, rfl⟩ := Prod.mk.inj (Option.some.inj h); exact .inr ⟨rfl, rfl, rfl⟩
    | j + 2, h => simp at h
  have old : ∀ k, ApB.UL [(vb, bb.length), (vc, bb.length)] k → base ≤ k ∧ k < W.heap.size := fun k ⟨j, v, n, hj, hk⟩ => by
    rcases get j v n hj with ⟨_, rfl, _⟩ | ⟨_, rfl, _⟩
    · exact ⟨(Win.at_ hb hk).1, (Win.at_ hb hk).2.1⟩
    · exact ⟨(Win.at_ hc hk).1, (Win.at_ hc hk).2.1⟩
  refine (ApB.any (W.alloc (.cells #[vb, vc] 22)) base (some ⟨W.heap.size, 0, none⟩) 2 2 [(vb, bb.length), (vc, bb.length)] rfl (rdv_lit_at W 22 [vb, vc] rfl) (fun j v n hj => ?_) (fun i j v n v' n' k hne hi hj hk hk' => ?_) (fun k ad hk he => ?_) (Nat.le_refl _) (by decide) (by simp; omega)).mono ?_
  · rcases get j v n hj with ⟨_, rfl, rfl⟩ | ⟨_, rfl, rfl⟩
    · exact ⟨by omega, _, Win.below hb (below_alloc (Below.refl _ _) _)⟩
    · exact ⟨by omega, _, Win.below hc (below_alloc (Below.refl _ _) _)⟩
  · rcases get i v n hi with ⟨e1, rfl, _⟩ | ⟨e1, rfl, _⟩ <;> rcases get j v' n' hj with ⟨e2, rfl, _⟩ | ⟨e2, rfl, _⟩
    · exact hne (e1.trans e2.symm)
    · exact hsep k hk hk'
    · exact hsep k hk' hk
    · exact hne (e1.trans e2.symm)
  · injection he with he
    subst he
    have := (old k hk).2
    simp only
    omega
  · rintro e w' ⟨rfl, hf⟩
    exact ⟨rfl, acc (accAlloc (Below.refl base W) hB _) hB hf (fun k hk => (old k hk).1)⟩
set_option maxRecDepth 100000 in
set_option maxHeartbeats 8000000 in
theorem FrameSeals_any (w : World) (k : Int) (A : Option Addr) (N c : Nat) (L : List (Value × List Int)) (hk : 0 ≤ k ∧ k ≤ 255) (hR : RdB w A N c L) (h24 : N ≤ 5864062014634) (hs : ∀ p ∈ L, p.2.length ≤ 140737488351232) :
    Calls Try.prog 10 #[.int .u8 k, .slice A N c] w fun e w' => e = .returned (.bool true) ∧ Below w.heap.size w w' := by
  have HR := Aside0.mk hR
  have HK := Aside0.mk hk
  obtain ⟨S, hS⟩ : ∃ S, L.map Prod.snd = S := ⟨_, rfl⟩
  have HS := Aside0.mk hS
  have HSL := Aside0.mk (show S.length = N from by rw [← hS, List.length_map]; exact hR.len)
  have HM := Aside0.mk (show ∀ (i : Nat) (p : Value × List Int), L[i]? = some p → S[i]? = some p.2 from fun i p h => by rw [← hS, List.getElem?_map, h]; rfl)
  have HSB := Aside0.mk (show ∀ s ∈ S, s.length ≤ 140737488351232 ∧ Byt s from fun s h => by
    rw [← hS] at h
    obtain ⟨p, hp', rfl⟩ := List.mem_map.1 h
    obtain ⟨_, _, _, _, h1, _, h2⟩ := hR.part p hp'
    exact ⟨hs p hp', h2⟩)
  have HSC := Aside0.mk (show ∀ s ∈ S, s.length ≤ 140737488355328 ∧ Byt s from fun s h => ⟨by have := (HSB.out s h).1; omega, (HSB.out s h).2⟩)
  have HAL := Aside0.mk (show ∀ i, i ≤ N → (accF S i).length ≤ 140737488451232 from fun i hi => accF_len S (fun s h => (HSB.out s h).1) i (by rw [HSL.out]; exact hi))
  have hN : N ≤ 9223372036854775807 := hR.max
  have H24 := Aside0.mk h24
  clear hR hk hS hs h24
  go_enter Try.func10, Try.ntmps10
  go_wp2_with fail
  go_loopw [5, 6, 7] (fun v5 v6 v7 wr => ∃ i : Nat, v7 = .int .i64 i ∧ i ≤ N ∧ Aside0 (∃ I, InSt w wr S i v5 v6 I (accF S i))) (fun _ _ v7 _ => N - (intOf v7).toNat)
  case atStart => exact ⟨0, rfl, by omega, ⟨[], Win.nil _ _ _ _, fun j u s h => (by simp at h), Acc.of (Win.nil _ _ _ _), fun j u k h => (by simp at h), Fr.refl _ _⟩⟩
  case round =>
    obtain ⟨i, rfl, hi, HI⟩ := hrel
    obtain ⟨I, hI⟩ := HI.out
    have HI1 := Aside0.mk hI
    by_cases hlt : i < N
    · obtain ⟨p, hp⟩ := get_some' (xs := L) (i := i) (by have := HR.out.len; omega)
      have HPS := Aside0.mk (HM.out i p hp)
      obtain ⟨Ai, ci, he, hlc, hmx, hrd, hby⟩ := HR.out.part p (List.mem_of_getElem? hp)
      obtain ⟨ad, eA, hh⟩ := rdv_at (HR.out.hdr.below hI.fr.no) hp
      rw [he] at hh
      subst eA
      have hcell := hh
      have HP1 := Aside0.mk hp
      have HE := Aside0.mk he
      have HRD := Aside0.mk hrd
      obtain ⟨s, hse⟩ : ∃ s, s = p.2 := ⟨_, rfl⟩
      rw [← hse] at hcell hlc hmx HPS HRD HE
      have HSE := Aside0.mk hse
      have hms := (HSB.out s (List.mem_of_getElem? HPS.out)).1
      have HLB := Aside0.mk (LentBytes_any wr Ai s.length ci s (hrd.below hI.fr.no |> fun h => by rw [hse]; exact h) rfl hlc (by omega))
      have HIL := Aside0.mk (show I.length = i from by have := hI.hdr.1; rwa [Nat.mul_one] at this)
      obtain ⟨n, hn⟩ : ∃ n, s.length = n := ⟨_, rfl⟩
      have HN := Aside0.mk hn
      rw [hn] at hcell hlc hmx HLB hms HE
      have HM1 := Aside0.mk (show i + 1 ≤ maxLen ∧ (i + 1 + (i + 1) / 4 + 700) * 24 ≤ 281474976710656 from by have := H24.out; simp only [maxLen]; omega)
      have hal := HAL.out i hi
      clear hI hp he hrd hby hh hse hn
      have HG := Aside0.mk (show S.getD i [] = s from by rw [List.getD_eq_getElem?_getD, HPS.out]; rfl)
      obtain ⟨A6, c6, e6, hc6⟩ := Win.shape HI1.out.all
      subst e6
      obtain ⟨a, ha⟩ : ∃ a, (accF S i).length = a := ⟨_, rfl⟩
      have HA := Aside0.mk ha
      have HI2 := Aside0.mk (show InSt w wr S i u5 (.slice A6 a c6) I (accF S i) from by rw [← ha]; exact HI1.out)
      rw [ha] at hal hc6 ⊢
      clear ha HI1
      by_cases hsh : a < 100000
      · have HB := Aside0.mk (show a + n ≤ maxLen ∧ (a + n + (a + n) / 4 + 700) * 1 ≤ 281474976710656 from by simp only [maxLen]; omega)
        have hshI : (a : Int) < 100000 := by omega
        have HSH := Aside0.mk hsh
        have hai : (a : Int) ≤ 140737488451232 := by omega
        clear hsh hal hms
        go_wp2_with (first | ((with_reducible refine gate_builtin (b := .append) (xs := #[.tmp 34, .tmp 38]) rfl ?_); at_builtin; go_must (refine wpl_append w2 w.heap.size rfl (.tmp 34) (.tmp 38) 22 22 5 (.int .u8 0) 1 1 (.slice 5) rfl Try.underlying22 Try.underlying22 (.inl ⟨_, rfl⟩) info5 rfl (.slice A6 a c6) a (nums .u8 (accF S i)) (.slice Ai n ci) n (nums .u8 s) rfl rfl (by have h := G1.out.all; unfold Acc at h; rw [HA.out] at h; exact h) (Src.of_rd (HRD.out.below G1.out.fr.no) (by rw [nums_length, HN.out, Nat.mul_one]) (nums_one _ _)) G1.out.fr.size HB.out.1 HB.out.2 ?_; intro v3 w3 g1 _ g3 g4; have G2 := Aside0.mk (InSt.add G1.out (by rw [HSL.out]; omega) (show Acc w3 w.heap.size v3 (accF S i ++ s) from Acc.of (by rw [nums_append]; exact g1)) g3 g4); clear g1 g3 g4)) | ((with_reducible refine gate_builtin (b := .append) (xs := #[.tmp 27, .tmp 29]) rfl ?_); at_builtin; go_must (refine wpl_append1 w1 w.heap.size rfl (.tmp 27) (.tmp 29) 42 22 (.slice none 0 0) 1 24 rfl Try.underlying42 info22 rfl u5 i I [.slice A1 n c1] rfl rfl (HI2.out.hdr.below Q2.out.no) rfl (by simp [Value.oneCell']) (Nat.le_trans HI2.out.fr.size Q2.out.size) HM1.out.1 HM1.out.2 ?_; intro v2 w2 g1 _ g3 _; have G1 := Aside0.mk (HI2.out.lend HPS.out Q1.out Q2.out g1 g3); have hcell2 : w2.cell? (ad.add i) = some (.slice Ai n ci) := (by have h := rdv_some (HR.out.hdr.below G1.out.fr.no) HP1.out; rwa [HE.out] at h); clear g1 g3)) | (go_at_call 27; go_must (refine HLB.out.mono ?_; rintro e' w1 ⟨A1, c1, rfl, q1, q2⟩; have Q1 := Aside0.mk (show Lent w1 wr.heap.size (.slice A1 n c1) s from ⟨A1, c1, by rw [HN.out], by rw [HN.out]; exact q1⟩); have Q2 := Aside0.mk q2; clear q1 q2)))
        go_roundw
        case rel => exact ⟨i + 1, by simp, by omega, ⟨_, by rw [accF, if_pos (by rw [HA.out]; exact HSH.out), HG.out]; exact G2.out⟩⟩
        case measure => simp [intOf]; omega
      · have hshI : decide ((a : Int) < 100000) = false := by simp; omega
        have HSH := Aside0.mk hsh
        have hai : (a : Int) ≤ 140737488451232 := by omega
        clear hsh hal hms
        go_wp2_with (first | ((with_reducible refine gate_builtin (b := .append) (xs := #[.tmp 27, .tmp 29]) rfl ?_); at_builtin; go_must (refine wpl_append1 w1 w.heap.size rfl (.tmp 27) (.tmp 29) 42 22 (.slice none 0 0) 1 24 rfl Try.underlying42 info22 rfl u5 i I [.slice A1 n c1] rfl rfl (HI2.out.hdr.below Q2.out.no) rfl (by simp [Value.oneCell']) (Nat.le_trans HI2.out.fr.size Q2.out.size) HM1.out.1 HM1.out.2 ?_; intro v2 w2 g1 _ g3 _; have G1 := Aside0.mk (HI2.out.lend HPS.out Q1.out Q2.out g1 g3); clear g1 g3)) | (go_at_call 27; go_must (refine HLB.out.mono ?_; rintro e' w1 ⟨A1, c1, rfl, q1, q2⟩; have Q1 := Aside0.mk (show Lent w1 wr.heap.size (.slice A1 n c1) s from ⟨A1, c1, by rw [HN.out], by rw [HN.out]; exact q1⟩); have Q2 := Aside0.mk q2; clear q1 q2)))
        go_roundw
        case rel => exact ⟨i + 1, by simp, by omega, ⟨_, by rw [accF, if_neg (by rw [HA.out]; exact HSH.out)]; exact G1.out⟩⟩
        case measure => simp [intOf]; omega
    · obtain rfl : N = i := by omega
      obtain ⟨wo, rfl⟩ : ∃ wo : World, wo = wr := ⟨_, rfl⟩
      obtain ⟨A5, c5, e5, hc5⟩ := hI.hdr.shape
      subst e5
      obtain ⟨A6, c6, e6, hc6⟩ := Win.shape hI.all
      subst e6
      obtain ⟨a, ha⟩ : ∃ a, (accF S N).length = a := ⟨_, rfl⟩
      have HA := Aside0.mk ha
      have HF := Aside0.mk hI.fr
      have hal := HAL.out N (Nat.le_refl _)
      rw [ha] at hc6 hal ⊢
      clear hI ha
      have hai : (a : Int) ≤ 140737488451232 := by omega
      clear hal
      by_cases hsh : a < 100000
      · have hshI : decide ((100000 : Int) ≤ (a : Int)) = false := by simp; omega
        have HFL := Aside0.mk (show accF S N = S.flatten from by have h := accF_short S N (by rw [HA.out]; exact hsh) (by rw [HSL.out]; exact Nat.le_refl _); rwa [List.take_of_length_le (by rw [HSL.out]; exact Nat.le_refl _)] at h)
        have HRB := Aside0.mk (HI1.out.rdb HSL.out hN HSC.out)
        obtain ⟨bb, r, hbr⟩ : ∃ bb r, sealR k S = (bb, r) := ⟨_, _, rfl⟩
        have HBL := Aside0.mk (show bb.length ≤ 16777216 from by have := sealR_len k S; rwa [hbr] at this)
        have HSEAL := Aside0.mk (fun W (h : Fr No wo W) => (by
          have q := HRB.out.1.below h.no
          refine (seal_any W k A5 N c5 (I.zip S) HK.out q.hdr q.len q.part q.cap q.max).mono ?_
          rintro e w' hq
          rw [HRB.out.2] at hq
          have hq := hq.all
          rw [hbr] at hq
          exact hq : Calls Try.prog 56 #[.int .u8 k, .slice A5 N c5] W fun e w' => ∃ v, e = .returned (.tuple #[v, .int .i64 r]) ∧ Acc w' W.heap.size v bb ∧ Fr No W w'))
        have HREF := Aside0.mk (fun W (h : Fr No wo W) => (by
          have q := HR.out.below (frt HF.out h).no
          refine (rseal_any W k A N c L HK.out q.hdr q.len q.part q.cap q.max).mono ?_
          rintro e w' hq
          rw [HS.out] at hq
          have hq := hq.all
          rw [hbr] at hq
          exact hq : Calls Try.prog 57 #[.int .u8 k, .slice A N c] W fun e w' => ∃ v, e = .returned (.tuple #[v, .int .i64 r]) ∧ Acc w' W.heap.size v bb ∧ Fr No W w'))
        obtain ⟨cs, hcs⟩ : ∃ cs, csum S.flatten = cs := ⟨_, rfl⟩
        have HBF := Aside0.mk (byt_flatten (fun s h => (HSB.out s h).2))
        have HSUM := Aside0.mk (fun W (h : Fr No wo W) => (by
          have q := HRB.out.1.below h.no
          refine (sum_any W A5 N c5 (I.zip S) q.hdr q.len q.part q.cap q.max).mono ?_
          rintro e w' ⟨h1, h2⟩
          rw [flat_map, HRB.out.2, csum_int HBF.out, hcs] at h1
          exact ⟨h1, h2⟩ : Calls Try.prog 58 #[.slice A5 N c5] W fun e w' => e = .returned (.int .u32 (cs : Nat)) ∧ Fr No W w'))
        have HRSUM := Aside0.mk (fun W (h : Fr No wo W) => (by
          have q := RdV.of_win (HI1.out.all.below h.no)
          have := rsum_any W A6 a c6 (accF S N) q HA.out (by rw [HFL.out]; exact HBF.out) hc6 (by omega)
          rw [HFL.out, hcs] at this
          exact this : Calls Try.prog 59 #[.slice A6 a c6] W fun e w' => e = .returned (.int .u32 (cs : Nat)) ∧ W = w'))
        clear hbr hcs hsh
        go_wp2_with (first | (go_at_call 59; refine (HRSUM.out _ F6.out).mono ?_; rintro e' w7 ⟨rfl, rfl⟩) | (go_at_call 58; refine (HSUM.out _ F5.out).mono ?_; rintro e' w6 ⟨rfl, q1⟩; have F6 := Aside0.mk (frt F5.out q1); have G6 := Aside0.mk q1; clear q1) | (go_at_call 24; refine (KBytes_any w4 Ac Aw bb.length bb.length cc cw bb bb (RdV.of_win (Qc.out.below (frt G3.out G4.out).no)) (RdV.of_win (Qw.out.below G4.out.no)) rfl rfl (Win.max Qc.out) (Win.max Qw.out) lc lw).mono ?_; rw [decide_eq_true rfl]; rintro e' w5 ⟨rfl, m5, hm5⟩; have F5 := Aside0.mk (show Fr No wo w5 from by rw [hm5]; exact frt F4.out (Fr.drewN _ _)); have G5 := Aside0.mk (show Fr No w4 w5 from by rw [hm5]; exact Fr.drewN _ _); clear hm5) | (go_at_call 24; go_must (refine (KBytes_any w3 Ab Aw bb.length bb.length cb cw bb bb (RdV.of_win (Qb.out.below (frt G2.out G3.out).no)) (RdV.of_win Qw.out) rfl rfl (Win.max Qb.out) (Win.max Qw.out) lb lw).mono ?_; rw [decide_eq_true rfl]; rintro e' w4 ⟨rfl, m4, hm4⟩; have F4 := Aside0.mk (show Fr No wo w4 from by rw [hm4]; exact frt F3.out (Fr.drewN _ _)); have G4 := Aside0.mk (show Fr No w3 w4 from by rw [hm4]; exact Fr.drewN _ _); clear hm4)) | (go_at_call 57; go_must (refine (HREF.out w2 F2.out).mono ?_; rintro e' w3 ⟨v3, rfl, q1, q2⟩; obtain ⟨Aw, cw, ew, lw⟩ := Win.shape q1; subst ew; have Qw := Aside0.mk q1; have G3 := Aside0.mk q2; have F3 := Aside0.mk (frt F2.out q2); clear q1 q2)) | (go_at_call 56; refine (HSEAL.out w1 F1.out).mono ?_; rintro e' w2 ⟨v2, rfl, q1, q2⟩; obtain ⟨Ac, cc, ec, lc⟩ := Win.shape q1; subst ec; have Qc := Aside0.mk q1; have G2 := Aside0.mk q2; have F2 := Aside0.mk (frt F1.out q2); clear q1 q2) | (go_at_call 56; go_must (refine (HSEAL.out wo (Fr.refl _ _)).mono ?_; rintro e' w1 ⟨v1, rfl, q1, q2⟩; obtain ⟨Ab, cb, eb, lb⟩ := Win.shape q1; subst eb; have Qb := Aside0.mk q1; have F1 := Aside0.mk q2; clear q1 q2)))
        go_loopw [15] (fun v15 wr => ∃ i : Nat, v15 = .int .i64 i ∧ i ≤ N ∧ Aside0 (Fr No w6 wr)) (fun v15 _ => N - (intOf v15).toNat)
        case atStart => exact ⟨0, rfl, by omega, ⟨Fr.refl _ _⟩⟩
        case round =>
          obtain ⟨j, rfl, hj, HD⟩ := hrel
          by_cases hlt2 : j < N
          · have HFD := Aside0.mk (frt F6.out HD.out)
            obtain ⟨p, hp⟩ := get_some' (xs := L) (i := j) (by have := HR.out.len; omega)
            have hps := HM.out j p hp
            obtain ⟨Ai, ci, he, hlc, hmx, hrd, hby⟩ := HR.out.part p (List.mem_of_getElem? hp)
            obtain ⟨ad, eA, hcell⟩ := rdv_at (HR.out.hdr.below (frt HF.out HFD.out).no) hp
            rw [he] at hcell
            have hrd2 := hrd.below (frt HF.out HFD.out).no
            have hIL : I.length = N := by have := HI1.out.hdr.1; rwa [Nat.mul_one] at this
            obtain ⟨u, hu⟩ := get_some' (xs := I) (i := j) (by omega)
            obtain ⟨Al, cl, rfl, hlw⟩ := (HI1.out.ent j u p.2 hu hps).below HFD.out.no
            obtain ⟨ad5, eA5, hcell5⟩ := rdv_at (f := id) (l := I) (by have h := RdV.of_win (HI1.out.hdr.below HFD.out.no); rwa [List.map_id]) hu
            simp only [id] at hcell5
            subst eA; subst eA5
            obtain ⟨_, _, hsh1, hlc2⟩ := hlw.shape
            injection hsh1 with hsh2 _ hsh3
            subst hsh2; subst hsh3
            have HKE := Aside0.mk (fun m => KeptBytes_any (wr.drewN m) Al Ai p.2.length cl ci p.2.length p.2 p.2 201 ((RdV.of_win hlw).below (pw_below_drewN (Below.refl _ _) m)) (hrd2.below (pw_below_drewN (Below.refl _ _) m)) rfl rfl (by omega) (by omega) hlc2 hlc)
            rw [decide_eq_true rfl, decide_eq_true rfl] at HKE
            generalize p.2.length = n at *
            clear hp hps he hrd hby hrd2 hu hlw
            go_wp2_with fail
            go_quiet ((go_at_call 32; go_must (exact Calls.quiet_of (HKE.out _))))
            go_wp2_with fail
            go_roundw
            case rel => exact ⟨j + 1, by simp, by omega, ⟨frt HD.out (Fr.drewN _ _)⟩⟩
            case measure => simp [intOf]; omega
          · have HFD := Aside0.mk (frt F6.out HD.out)
            have HX1 := Aside0.mk (frt G3.out (frt G4.out (frt G5.out (frt G6.out HD.out))))
            have HAPB := Aside0.mk (apart_two wr w.heap.size (.slice Ab bb.length cb) (.slice Ac bb.length cc) bb ((Qb.out.below (frt G2.out HX1.out).no).lower HF.out.size) ((Qc.out.below HX1.out.no).lower (Nat.le_trans HF.out.size F1.out.size)) (fun k h1 h2 => by have a1 := (Win.at_ Qb.out h1).2.1; have a2 := (Win.at_ Qc.out h2).1; omega) HBL.out (Nat.le_trans HF.out.size HFD.out.size))
            go_wp2_with (first | (go_at_call 33; go_must (refine HAPB.out.mono ?_; rintro e' w8 ⟨rfl, q1⟩; have B8 := Aside0.mk q1; clear q1)) | (go_at_call 55; go_must (refine (awake4_any _).mono ?_; rintro e' w9 ⟨rfl, q1⟩; have F9 := Aside0.mk q1; clear q1)))
            go_ret
            exact ⟨rfl, accNo ((frt HF.out HFD.out).no.trans B8.out) (Nat.le_refl _) F9.out⟩
      · have hshI : decide ((100000 : Int) ≤ (a : Int)) = true := by simp; omega
        clear hsh
        go_wp2_with (first | (go_at_call 55; go_must (refine (awake4_any _).mono ?_; rintro e' w1 ⟨rfl, q1⟩; have F1 := Aside0.mk q1; clear q1)))
        go_ret
        exact ⟨rfl, (frt HF.out F1.out).no⟩
end Go.Proofs.Ytchcimkmjoegdaa.C
namespace Go.Proofs.Ytchcimkmjoegdaa.C
open Go.RowKit Go.Proofs.YtchcimkmjoegdaaW.PrintWords Go.Proofs.YtchcimkmjoegdaaW.PrintMore Go.Proofs.Ytchcimkmjoegdaa.M
set_option linter.unusedVariables false
set_option linter.unusedSimpArgs false

theorem weightsAll_mem {H : Type} {P : Program} {e : TypeId} : ∀ {l : List (DataW H)} {d : DataW H}, d ∈ l → ∀ n ∈ d.weights P e, n ∈ DataW.weightsAll P e l
  | x :: l, d, h, n, hn => by
    simp only [DataW.weightsAll, List.mem_append]
    rcases List.mem_cons.1 h with rfl | h
    · exact .inl hn
    · exact .inr (weightsAll_mem h n hn)
  | [], _, h, _, _ => nomatch h
theorem u8_wf {x : Int} (h : (Lit.int .u8 x).wf = true) : 0 ≤ x ∧ x ≤ 255 := by
  have h' : decide (IntKind.u8.min ≤ x) && decide (x ≤ IntKind.u8.max) := h
  have h0 : IntKind.u8.min = 0 := by decide +kernel
  have h1 : IntKind.u8.max = 255 := by decide +kernel
  rw [h0, h1] at h'
  simpa using h'
open Go.ChangeShapes Go.WideShapes Go.Deep in
theorem row_parts {H : Type} {enc : TypeId × Value → H} {W : World} {base : Nat} {held : Bool} {a : Option Addr} {len cap : Nat} {d : DataW H} {ps : List MemPlace} {ts : List TypeId} {ds : List (DataW H)} {j : Nat}
    (hsz : (DataW.weightsEach Try.prog ts ds).all (· ≤ reachBytes) = true) (ht : ts[j]? = some 42) (hd : ds[j]? = some d) (h : DataW.Trod enc Try.prog W base (fun _ => true) held 42 (.slice a len cap) d ps) :
    ∃ L, RdB W a len cap L ∧ len ≤ 5864062014634 ∧ ∀ p ∈ L, p.2.length ≤ 140737488351232 := by
  obtain ⟨fuel, hf⟩ := h
  rcases open_int_rows (k := .u8) Try.underlying42 Try.underlying22 Try.underlying5 (by kernel_rfl) (by kernel_rfl) hf with ⟨hcs, _⟩ | ⟨x, l, c, A, L, C, Z, hcs, _, hl, hm, hx, hr⟩
  · simp [Value.cells] at hcs
    obtain ⟨rfl, rfl, rfl⟩ := hcs
    exact ⟨[], ⟨fun h => absurd rfl h, rfl, Nat.le_refl _, by decide, fun p hp => nomatch hp⟩, by decide, fun p hp => nomatch hp⟩
  · simp [Value.cells] at hcs
    obtain ⟨rfl, rfl, rfl⟩ := hcs
    obtain ⟨hx, _⟩ := Prod.mk.inj hx
    subst hx
    have hw := List.all_eq_true.1 hsz _ (DataW.weights_mem_each ht hd ((len + (cap - len)) * Try.prog.bytesOf 22) (by simp [DataW.weights, Try.underlying42]))
    rw [show Try.prog.bytesOf 22 = 24 from by kernel_rfl] at hw
    have hw24 : (len + (cap - len)) * 24 ≤ 140737488351232 := by
      have := of_decide_eq_true hw
      exact this
    have hrow : ∀ r, r < len → (A r = none ∨ C r ≤ 140737488351232) := fun r hlt => by
      rcases hA : A r with _ | a'
      · exact .inl rfl
      · right
        have hmem : (intRow .u8 (A r) (L r) (Z r) : DataW H) ∈ (List.range len).map fun r => intRow .u8 (A r) (L r) (Z r) := List.mem_map.2 ⟨r, List.mem_range.2 hlt, rfl⟩
        have h1 : C r ∈ (intRow .u8 (A r) (L r) (Z r) : DataW H).weights Try.prog 22 := by
          rw [hA]
          simp only [intRow, DataW.weights, Try.underlying22]
          rw [show Try.prog.bytesOf 5 = 1 from by kernel_rfl]
          have hz := (hr r (by omega)).2.2.2.1
          have : (lits (H := H) .u8 ((Z r).take (L r))).length + (lits (H := H) .u8 ((Z r).drop (L r))).length = C r := by
            simp [lits]
            omega
          rw [this, Nat.mul_one]
          exact List.mem_cons_self
        have h2 : C r ∈ (DataW.slice ((List.range len).map fun r => intRow .u8 (A r) (L r) (Z r)) ((List.range (cap - len)).map fun j => intRow .u8 (A (len + j)) (L (len + j)) (Z (len + j))) : DataW H).weights Try.prog 42 := by
          simp only [DataW.weights, Try.underlying42]
          exact List.mem_cons_of_mem _ (List.mem_append_left _ (weightsAll_mem hmem _ h1))
        have h3 := List.all_eq_true.1 hsz _ (DataW.weights_mem_each ht hd _ h2)
        exact of_decide_eq_true h3
    have hbr : ∀ r, r < len → (L r ≤ 140737488351232 ∧ ((Z r).take (L r)).length = L r) := fun r hlt => by
      obtain ⟨_, r1, r2, r3, r4, r5, _⟩ := hr r (by omega)
      refine ⟨?_, by rw [List.length_take]; omega⟩
      rcases hrow r hlt with hn | hn
      · have := r5 hn; omega
      · omega
    refine ⟨(List.range len).map fun r => (.slice (A r) (L r) (C r), (Z r).take (L r)), ⟨fun _ => ⟨x, rfl, fun i u hi => ?_⟩, by simp, hl, by simp only [maxLen] at hm; omega, fun p hp => ?_⟩, by omega, fun p hp => ?_⟩
    · rw [List.map_map, List.getElem?_map] at hi
      obtain ⟨z, hz, rfl⟩ := Option.map_eq_some_iff.1 hi
      obtain ⟨hlt, e⟩ := List.getElem?_eq_some_iff.1 hz
      simp at hlt e
      subst e
      exact (hr i (by omega)).1
    · obtain ⟨r, hrr, rfl⟩ := List.mem_map.1 hp
      have hlt := List.mem_range.1 hrr
      obtain ⟨_, r1, r2, r3, r4, r5, r6⟩ := hr r (by omega)
      obtain ⟨b1, b2⟩ := hbr r hlt
      refine ⟨A r, C r, by rw [b2], by show ((Z r).take (L r)).length ≤ C r; omega, by show ((Z r).take (L r)).length ≤ _; omega, fun hne => ?_, fun z hz => u8_wf (r4 z (List.mem_of_mem_take hz))⟩
      rcases hA : A r with _ | a'
      · have h0 := r5 hA
        refine absurd ?_ hne
        have hz0 : Z r = [] := List.eq_nil_of_length_eq_zero (by omega)
        simp [hz0, nums]
      · refine ⟨a', rfl, fun i u hi => ?_⟩
        have hc := (r6 a' hA).2
        simp only [nums, List.getElem?_map] at hi
        obtain ⟨z, hz, rfl⟩ := Option.map_eq_some_iff.1 hi
        rw [List.getElem?_take] at hz
        split at hz
        · rename_i hil
          rw [hc i (by omega), List.getD_eq_getElem?_getD, hz]
          rfl
        · cases hz
    · obtain ⟨r, hrr, rfl⟩ := List.mem_map.1 hp
      obtain ⟨b1, b2⟩ := hbr r (List.mem_range.1 hrr)
      show ((Z r).take (L r)).length ≤ _
      omega
theorem FrameSeals_row (w : World) {k : Int} {a : Option Addr} {n c : Nat} {L : List (Value × List Int)} (hq : (Lit.int .u8 k).wf = true) (h : RdB w a n c L ∧ n ≤ 5864062014634 ∧ ∀ p ∈ L, p.2.length ≤ 140737488351232) :
    Calls Try.prog 10 #[.int .u8 k, .slice a n c] w fun e w' => e = .returned (.bool true) ∧ Below w.heap.size w w' :=
  FrameSeals_any w k a n c L (u8_wf hq) h.1 h.2.1 h.2.2
end Go.Proofs.Ytchcimkmjoegdaa.C
namespace Go.Proofs.Ytchcimkmjoegdaa.C
open Go.RowKit Go.Proofs.YtchcimkmjoegdaaW.PrintWords Go.Proofs.YtchcimkmjoegdaaW.PrintMore Go.Proofs.Ytchcimkmjoegdaa.M
set_option linter.unusedVariables false
set_option linter.unusedSimpArgs false

theorem openF_bounds {k r : Int} {xs : List Int} {L : List (List Int)} (hb : Byt xs) (h : openF k xs = (L, r)) : L.length ≤ 1024 ∧ ∀ s ∈ L, s.length ≤ 16777216 ∧ Byt s := by
  have nil : ∀ {q : Int}, (([], q) : List (List Int) × Int) = (L, r) → L.length ≤ 1024 ∧ ∀ s ∈ L, s.length ≤ 16777216 ∧ Byt s := fun e => by
    obtain rfl := (Prod.mk.inj e).1
    exact ⟨by decide, fun s hs => nomatch hs⟩
  unfold openF at h
  split at h
  · exact nil h
  · rename_i hlen
    split at h
    · obtain ⟨L', r'⟩ : ∃ a, a = (xs.take (xs.length - 4)).drop 4 := ⟨_, rfl⟩
      rw [← r'] at h
      have hy : Byt L' := by rw [r']; exact ((hb.take _).drop' 4)
      have hyl : L'.length ≤ xs.length := by rw [r', List.length_drop, List.length_take]; omega
      by_cases hr : r = 0
      · subst hr
        obtain ⟨e1, e2⟩ := inner_inv hy h
        refine ⟨e2, fun s hs => ⟨?_, fun x hx => hy x ?_⟩⟩
        · have h1 := mem_len_le hs
          have h2 := congrArg List.length e1
          simp only [List.length_append] at h2
          omega
        · rw [e1]
          exact List.mem_append_right _ (List.mem_flatten.2 ⟨s, hs, hx⟩)
      · unfold innerF at h
        split at h
        · exact absurd (Prod.mk.inj h).2.symm hr
        · exact nil h
    · exact nil h
/-- Handed-out blocks, as ApartBytes takes them. -/
def lenL (B : List (Value × List Int)) : List (Value × Nat) := B.map fun p => (p.1, p.2.length)
theorem lenL_get {B : List (Value × List Int)} {j n : Nat} {v : Value} (h : (lenL B)[j]? = some (v, n)) : ∃ p, B[j]? = some p ∧ p.1 = v ∧ p.2.length = n := by
  unfold lenL at h
  rw [List.getElem?_map] at h
  obtain ⟨p, hp, he⟩ := Option.map_eq_some_iff.1 h
  obtain ⟨e1, e2⟩ := Prod.mk.inj he
  exact ⟨p, hp, e1, e2⟩
/-- Two lots of blocks behind one another, told as apart. -/
theorem apart_blks (W : World) (m : Nat) (v : Value) (base N c : Nat) (A : Option Addr) (B C : List (Value × List Int)) (hbb : ∀ p ∈ B, Acc W m p.1 p.2 ∧ p.2.length ≤ 16777216) (hcc : ∀ p ∈ C, Acc W m p.1 p.2 ∧ p.2.length ≤ 16777216)
    (sB : ∀ (i j : Nat) (p q : Value × List Int) (k : Nat), i ≠ j → B[i]? = some p → B[j]? = some q → At p.1 k → ¬ At q.1 k) (sC : ∀ (i j : Nat) (p q : Value × List Int) (k : Nat), i ≠ j → C[i]? = some p → C[j]? = some q → At p.1 k → ¬ At q.1 k)
    (sBC : ∀ p ∈ B, ∀ q ∈ C, ∀ k, At p.1 k → ¬ At q.1 k) (hh : Win W base 22 1 (.slice A N c) N (B.map Prod.fst ++ C.map Prod.fst)) (hB : B.length ≤ 1024) (hC : C.length ≤ 1024) (hm : m ≤ W.heap.size) :
    Calls Try.prog 33 #[.slice A N c] W fun e w' => e = .returned (.bool true) ∧ Fr (fun k => m ≤ k) W w' := by
  have hN : N = B.length + C.length := by have := hh.1; rw [List.length_append, List.length_map, List.length_map] at this; omega
  have get : ∀ {j n : Nat} {v : Value}, (lenL (B ++ C))[j]? = some (v, n) → ∃ p ∈ B ++ C, p.1 = v ∧ p.2.length = n ∧ ((j < B.length ∧ B[j]? = some p) ∨ (B.length ≤ j ∧ C[j - B.length]? = some p)) := fun {j n v} h => by
    obtain ⟨p, hp, e1, e2⟩ := lenL_get h
    refine ⟨p, List.mem_of_getElem? hp, e1, e2, ?_⟩
    rcases Nat.lt_or_ge j B.length with hl | hl
    · rw [List.getElem?_append_left hl] at hp
      exact .inl ⟨hl, hp⟩
    · rw [List.getElem?_append_right hl] at hp
      exact .inr ⟨hl, hp⟩
  have win : ∀ p ∈ B ++ C, Acc W m p.1 p.2 ∧ p.2.length ≤ 16777216 := fun p hp => (List.mem_append.1 hp).elim (hbb p) (hcc p)
  have old : ∀ k, ApB.UL (lenL (B ++ C)) k → m ≤ k ∧ ∃ cur, W.heap[k]? = some (.cells cur 5 (0, 0)) := fun k ⟨j, v, n, hj, hk⟩ => by
    obtain ⟨p, hp, rfl, _, _⟩ := get hj
    obtain ⟨a, _, b⟩ := Win.at_ (win p hp).1 hk
    exact ⟨a, b⟩
  refine (ApB.any W m A c N (lenL (B ++ C)) (by unfold lenL; rw [List.length_map, List.length_append]; omega) ?_ (fun j v n hj => ?_) (fun i j v n v' n' k hne hi hj hk hk' => ?_) (fun k ad hk he => ?_) ?_ (by omega) hm).mono ?_
  · have : (lenL (B ++ C)).map Prod.fst = B.map Prod.fst ++ C.map Prod.fst := by unfold lenL; rw [List.map_map, List.map_append]; rfl
    rw [this]
    exact RdV.of_win hh
  · obtain ⟨p, hp, rfl, rfl, _⟩ := get hj
    obtain ⟨h1, h2⟩ := win p hp
    exact ⟨by omega, _, h1⟩
  · obtain ⟨p, hp, rfl, _, h1⟩ := get hi
    obtain ⟨q, hq, rfl, _, h2⟩ := get hj
    rcases h1 with ⟨a1, h1⟩ | ⟨a1, h1⟩ <;> rcases h2 with ⟨a2, h2⟩ | ⟨a2, h2⟩
    · exact sB i j p q k hne h1 h2 hk hk'
    · exact sBC p (List.mem_of_getElem? h1) q (List.mem_of_getElem? h2) k hk hk'
    · exact sBC q (List.mem_of_getElem? h2) p (List.mem_of_getElem? h1) k hk' hk
    · exact sC (i - B.length) (j - B.length) p q k (by omega) h1 h2 hk hk'
  · subst he
    intro e
    obtain ⟨j, v, n, hj, _⟩ := hk
    have hpos : 0 < N := by
      have := (List.getElem?_eq_some_iff.1 hj).1
      unfold lenL at this
      rw [List.length_map, List.length_append] at this
      omega
    obtain ⟨_, cur, hc⟩ := old k ⟨j, v, n, hj, by assumption⟩
    obtain ⟨_, _, hs, hcap⟩ := hh.shape
    injection hs with _ _ hs
    subst hs
    have := hh.ne_type (k := ad.block) (rb_slice _ _ _ (by omega)) (e ▸ hc)
    exact absurd this (by decide)
  · obtain ⟨_, _, hs, hcap⟩ := hh.shape
    injection hs with _ _ hs
    subst hs
    exact hcap
  · rintro e w' ⟨rfl, hf⟩
    exact ⟨rfl, hf.mono (fun k _ hk => (old k hk).1)⟩
theorem one_cells {W : World} {base : Nat} {B : List (Value × List Int)} (h : ∀ p ∈ B, Acc W base p.1 p.2) : ∀ u ∈ B.map Prod.fst, u.oneCell' = true := fun u hu => by
  obtain ⟨p, hp, rfl⟩ := List.mem_map.1 hu
  obtain ⟨A, c, e, _⟩ := Win.shape (h p hp)
  rw [e]
  rfl
end Go.Proofs.Ytchcimkmjoegdaa.C
namespace Go.Proofs.Ytchcimkmjoegdaa.C
open Go.RowKit Go.Proofs.YtchcimkmjoegdaaW.PrintWords Go.Proofs.YtchcimkmjoegdaaW.PrintMore Go.Proofs.Ytchcimkmjoegdaa.M
set_option linter.unusedVariables false
set_option linter.unusedSimpArgs false

theorem blks_len {LL : List (List Int)} {B : List (Value × List Int)} (h : LL.length ≤ 1024 ∧ ∀ s ∈ LL, s.length ≤ 16777216 ∧ Byt s) (e : LL = B.map Prod.snd) : B.length ≤ 1024 := by
  have := h.1
  rwa [e, List.length_map] at this
theorem blks_small {LL : List (List Int)} {B : List (Value × List Int)} (h : LL.length ≤ 1024 ∧ ∀ s ∈ LL, s.length ≤ 16777216 ∧ Byt s) (e : LL = B.map Prod.snd) : ∀ p ∈ B, p.2.length ≤ 16777216 := fun p hp => (h.2 p.2 (by rw [e]; exact List.mem_map.2 ⟨p, hp, rfl⟩)).1
theorem blks_ok {LL : List (List Int)} {B : List (Value × List Int)} (h : LL.length ≤ 1024 ∧ ∀ s ∈ LL, s.length ≤ 16777216 ∧ Byt s) (e : LL = B.map Prod.snd) : ∀ p ∈ B, p.2.length ≤ 140737488355328 ∧ Byt p.2 := fun p hp => by
  have := h.2 p.2 (by rw [e]; exact List.mem_map.2 ⟨p, hp, rfl⟩)
  exact ⟨by omega, this.2⟩
theorem at_new {w : World} {n c : Nat} {v : Value} (h : rb v = rb (.slice none n c) ∨ rb v = some w.heap.size) : ∀ k, At v k → w.heap.size ≤ k := fun k hk => by
  unfold At at hk
  rcases h with h | h
  · rw [h] at hk
    exact nomatch hk
  · rw [h] at hk
    have := Option.some.inj hk
    omega
theorem win_cap {W : World} {base e n c : Nat} {A : Option Addr} {xs : List Value} (h : Win W base e 1 (.slice A n c) n xs) : n ≤ c := by
  obtain ⟨_, _, hs, hc⟩ := h.shape
  injection hs with _ _ hs
  subst hs
  exact hc
set_option maxRecDepth 100000 in
set_option maxHeartbeats 1000000 in
theorem FrameOpens_skip (w : World) (k : Int) (A : Option Addr) (n c : Nat) (h1 : 100000 < n) (h2 : n ≤ 16777216) :
    Calls Try.prog 11 #[.int .u8 k, .slice A n c] w fun e w' => e = .returned (.bool true) ∧ Below w.heap.size w w' := by
  have h1i : (100000 : Int) < (n : Int) := by omega
  have h2i : (n : Int) ≤ 16777216 := by omega
  have hd1 : decide ((100000 : Int) < (n : Int)) = true := by simp; omega
  have hd2 : decide ((n : Int) ≤ 16777216) = true := by simp; omega
  clear h1 h2
  go_enter Try.func11, Try.ntmps11
  go_wp2_with (first | (go_at_call 55; go_must (refine (awake4_any _).mono ?_; rintro e' w1 ⟨rfl, q1⟩; have F1 := Aside0.mk q1; clear q1)))
  go_ret
  exact ⟨rfl, F1.out.no⟩
set_option maxRecDepth 100000 in
set_option maxHeartbeats 8000000 in
theorem FrameOpens_main (w : World) (k : Int) (A : Option Addr) (n c : Nat) (xs : List Int) (hk : 0 ≤ k ∧ k ≤ 255) (hr : RdV w A (nums .u8 xs)) (hl : xs.length = n) (hb : Byt xs) (h0 : A = none → c = 0) (hc : n ≤ c) (hn : n ≤ 140737488351232) (h : n ≤ 100000 ∨ 16777216 < n) :
    Calls Try.prog 11 #[.int .u8 k, .slice A n c] w fun e w' => e = .returned (.bool true) ∧ Below w.heap.size w w' := by
  have key : (decide ((100000 : Int) < (n : Int)) = false) ∨ (decide ((100000 : Int) < (n : Int)) = true ∧ decide ((n : Int) ≤ 16777216) = false) := by
    rcases h with h | h
    · exact .inl (by simp; omega)
    · exact .inr ⟨by simp; omega, by simp; omega⟩
  have HR := Aside0.mk hr
  have HL := Aside0.mk hl
  have HB := Aside0.mk hb
  have HLB := Aside0.mk (LentBytes_any w A n c xs hr hl hc (by omega))
  obtain ⟨LL, r, hO⟩ : ∃ LL r, openF k xs = (LL, r) := ⟨_, _, rfl⟩
  have HLL := Aside0.mk (openF_bounds hb hO)
  have HOP := Aside0.mk (fun (W : World) (A' : Option Addr) (c' : Nat) (q1 : RdV W A' (nums .u8 xs)) (q2 : A' = none → c' = 0) (q3 : n ≤ c') => (by
    refine (open_any W k A' n c' xs q1 hl hb q2 q3 (by omega)).mono ?_
    rintro e w' ⟨v, B, h1, h2, h3, h4⟩
    rw [hO] at h1 h2
    exact ⟨v, B, h1, h2, h3, h4⟩ : Calls Try.prog 60 #[.int .u8 k, .slice A' n c'] W fun e w' => ∃ v B, e = .returned (.tuple #[v, .int .i64 r]) ∧ LL = B.map Prod.snd ∧ Blks w' W.heap.size v B ∧ Fr No W w'))
  have HRO := Aside0.mk (fun (W : World) (q1 : RdV W A (nums .u8 xs)) => (by
    refine (ropen_any W k A n c xs q1 hl hb hc (by omega)).mono ?_
    rintro e w' ⟨v, B, h1, h2, h3, h4⟩
    rw [hO] at h1 h2
    exact ⟨v, B, h1, h2, h3, h4⟩ : Calls Try.prog 61 #[.int .u8 k, .slice A n c] W fun e w' => ∃ v B, e = .returned (.tuple #[v, .int .i64 r]) ∧ LL = B.map Prod.snd ∧ Blks w' W.heap.size v B ∧ Fr No W w'))
  obtain ⟨kk, ok, hK⟩ : ∃ kk ok, kindF xs = (kk, ok) := ⟨_, _, rfl⟩
  have HKI := Aside0.mk (fun (W : World) (A' : Option Addr) (c' : Nat) (q1 : RdV W A' (nums .u8 xs)) (q3 : n ≤ c') => (by
    have := kind_any W A' n c' xs q1 hl hb q3 (by omega)
    rw [hK] at this
    exact this : Calls Try.prog 62 #[.slice A' n c'] W fun e w' => e = .returned (.tuple #[.int .u8 kk, .bool ok]) ∧ W = w'))
  have HRK := Aside0.mk (fun (W : World) (q1 : RdV W A (nums .u8 xs)) => (by
    have := rkind_any W A n c xs q1 hl hb hc (by omega)
    rw [hK] at this
    exact this : Calls Try.prog 63 #[.slice A n c] W fun e w' => e = .returned (.tuple #[.int .u8 kk, .bool ok]) ∧ W = w'))
  have HKE := Aside0.mk (fun (W : World) (A' : Option Addr) (c' : Nat) (q1 : RdV W A' (nums .u8 (xs ++ [201]))) (q2 : n + 1 ≤ c') (q3 : RdV W A (nums .u8 xs)) => (by
    have := KeptBytes_any W A' A n c' c n xs xs 201 q1 q3 hl hl (by omega) (by omega) q2 hc
    rw [decide_eq_true rfl, decide_eq_true rfl] at this
    exact this : Calls Try.prog 32 #[.slice A' n c', .slice A n c] W fun e w' => e = .returned (.bool true) ∧ ∃ m, w' = W.drewN m))
  have hni : (n : Int) ≤ 140737488351232 := by omega
  clear hr hl hb h0 hn h hO hK hk
  rcases key with hd1 | ⟨hd1, hd2⟩
  all_goals
    go_enter Try.func11, Try.ntmps11
    go_wp2_with (first | (go_at_call 55; go_must (refine (awake4_any _).mono ?_; rintro e' w12 ⟨rfl, q1⟩; have F12 := Aside0.mk q1; clear q1)) | (go_at_call 32; refine (HKE.out w10 A1 c1 (RdV.of_win (WIN.out.fr G10.out (fun k h1 h2 => by have a1 := (Q1.out.at_ h1).2.1; omega))) L1'.out (HR.out.below (acc (frt F1.out G19.out).no (Nat.le_refl _) G10.out (fun k hk => Nat.le_trans F1.out.size hk)))).mono ?_; rintro e' w11 ⟨rfl, m11, hm11⟩; have G11 := Aside0.mk (show Fr No w10 w11 from by rw [hm11]; exact Fr.drewN _ _); clear hm11) | (go_at_call 33; go_must (refine (apart_blks w9 w1.heap.size (.slice A6 (B2.length + B3.length) c6) w.heap.size _ c6 A6 B2 B3 (fun p hp => ⟨(Q2.out.2.below (frt G3.out (frt G4.out G49.out)).no).win p hp, (blks_small HLL.out Q2.out.1 p hp)⟩) (fun p hp => ⟨Win.lower ((Q3.out.2.below (frt G4.out G49.out).no).win p hp) G2.out.size, (blks_small HLL.out Q3.out.1 p hp)⟩) Q2.out.2.sep Q3.out.2.sep (fun p hp q hq k h1 h2 => by have a1 := (Win.at_ (Q2.out.2.win p hp) h1).2.1; have a2 := (Win.at_ (Q3.out.2.win q hq) h2).1; omega) (R6.out.below (frt G7.out (frt G8.out G9.out)).no) (blks_len HLL.out Q2.out.1) (blks_len HLL.out Q3.out.1) G19.out.size).mono ?_; rintro e' w10 ⟨rfl, q1⟩; have G10 := Aside0.mk q1; have WIN := Aside0.mk (Q1.out.below G19.out.no); have L1' := Aside0.mk (win_cap Q1.out); clear q1)) | (go_at_call 32; go_must (refine (HKE.out w8 A1 c1 (RdV.of_win (Q1.out.below (frt G2.out (frt G3.out (frt G4.out (frt G46.out (frt G7.out G8.out))))).no)) (win_cap Q1.out) (HR.out.below (frt F1.out (frt G2.out (frt G3.out (frt G4.out (frt G46.out (frt G7.out G8.out)))))).no)).mono ?_; rintro e' w9 ⟨rfl, m9, hm9⟩; have G9 := Aside0.mk (show Fr No w8 w9 from by rw [hm9]; exact Fr.drewN _ _); have G49 := Aside0.mk (frt G46.out (frt G7.out (frt G8.out G9.out))); have G19 := Aside0.mk (frt G2.out (frt G3.out (frt G4.out G49.out))); clear hm9)) | (go_at_call 64; refine (KBlocks_any w7 A3 A4 _ _ c3 c4 B3 B4 (RdB.of_blks (Q3.out.2.below (frt G4.out (frt G46.out G7.out)).no) (by have := blks_len HLL.out Q3.out.1; omega) (blks_ok HLL.out Q3.out.1)) (RdB.of_blks (Q4.out.2.below (frt G46.out G7.out).no) (by have := blks_len HLL.out Q4.out.1; omega) (blks_ok HLL.out Q4.out.1))).mono ?_; rw [decide_eq_true (Q3.out.1.symm.trans Q4.out.1)]; rintro e' w8 ⟨rfl, m8, hm8⟩; have G8 := Aside0.mk (show Fr No w7 w8 from by rw [hm8]; exact Fr.drewN _ _); clear hm8) | (go_at_call 64; go_must (refine (KBlocks_any w6 A2 A4 _ _ c2 c4 B2 B4 (RdB.of_blks (Q2.out.2.below (frt G3.out (frt G4.out G46.out)).no) (by have := blks_len HLL.out Q2.out.1; omega) (blks_ok HLL.out Q2.out.1)) (RdB.of_blks (Q4.out.2.below G46.out.no) (by have := blks_len HLL.out Q4.out.1; omega) (blks_ok HLL.out Q4.out.1))).mono ?_; rw [decide_eq_true (Q2.out.1.symm.trans Q4.out.1)]; rintro e' w7 ⟨rfl, m7, hm7⟩; have G7 := Aside0.mk (show Fr No w6 w7 from by rw [hm7]; exact Fr.drewN _ _); clear hm7)) | ((with_reducible refine gate_builtin (b := .append) (xs := #[.tmp 59, .tmp 60]) rfl ?_); at_builtin; go_must (refine wpl_append w5 w.heap.size rfl (.tmp 59) (.tmp 60) 42 42 22 (.slice none 0 0) 1 24 (.slice 22) rfl Try.underlying42 Try.underlying42 (.inl ⟨_, rfl⟩) info22 rfl v5 B2.length (B2.map Prod.fst) (.slice A3 B3.length c3) B3.length (B3.map Prod.fst) rfl rfl R5.out (Src.of_rd (RdV.of_win (Q3.out.2.below (frt G4.out G5.out).no).hdr) (by simp) (one_cells (Q3.out.2.win))) (frt F1.out (frt G2.out (frt G3.out (frt G4.out G5.out)))).size (by have := blks_len HLL.out Q2.out.1; have := blks_len HLL.out Q3.out.1; simp only [maxLen]; omega) (by have := blks_len HLL.out Q2.out.1; have := blks_len HLL.out Q3.out.1; omega) ?_; intro v6 w6 g1 _ g3 _; obtain ⟨A6, c6, e6, l6⟩ := g1.shape; subst e6; have R6 := Aside0.mk g1; have G46 := Aside0.mk (Fr.of_No (acc G5.out.no (Nat.le_refl _) g3 V5.out)); clear g1 g3 l6)) | ((with_reducible refine gate_builtin (b := .append) (xs := #[.tmp 56, .tmp 57]) rfl ?_); at_builtin; go_must (refine wpl_append w4 w.heap.size rfl (.tmp 56) (.tmp 57) 42 42 22 (.slice none 0 0) 1 24 (.slice 22) rfl Try.underlying42 Try.underlying42 (.inl ⟨_, rfl⟩) info22 rfl (.slice none 0 0) 0 [] (.slice A2 B2.length c2) B2.length (B2.map Prod.fst) rfl rfl (Win.nil _ _ _ _) (Src.of_rd (RdV.of_win (Q2.out.2.below (frt G3.out G4.out).no).hdr) (by simp) (one_cells (Q2.out.2.win))) (frt F1.out (frt G2.out (frt G3.out G4.out))).size (by have := blks_len HLL.out Q2.out.1; simp only [maxLen]; omega) (by have := blks_len HLL.out Q2.out.1; omega) ?_; intro v5 w5 g1 _ g3 g4; have R5 := Aside0.mk (show Win w5 w.heap.size 22 1 v5 B2.length (B2.map Prod.fst) from by simpa using g1); have G5 := Aside0.mk (g3.mono (fun k hk h => (At.none h).elim) : Fr No w4 w5); have V5 := Aside0.mk (at_new g4); clear g1 g3 g4)) | (go_at_call 63; go_must (refine (HRK.out w4 (HR.out.below (frt F1.out (frt G2.out (frt G3.out G4.out))).no)).mono ?_; rintro e' _ ⟨rfl, rfl⟩)) | (go_at_call 62; go_must (refine (HKI.out w4 A1 c1 (RIN.out w4 (frt G2.out (frt G3.out G4.out)).no) L1.out).mono ?_; rintro e' _ ⟨rfl, rfl⟩)) | (go_at_call 61; go_must (refine (HRO.out w3 (HR.out.below (frt F1.out (frt G2.out G3.out)).no)).mono ?_; rintro e' w4 ⟨v4, B4, rfl, q1, q2, q3⟩; obtain ⟨A4, c4, e4, l4⟩ := q2.hdr.shape; subst e4; have Q4 := Aside0.mk (And.intro q1 q2); have G4 := Aside0.mk q3; clear q1 q2 q3)) | (go_at_call 60; refine (HOP.out w2 A1 c1 ((RIN.out w2 G2.out.no)) NC.out L1.out).mono ?_; rintro e' w3 ⟨v3, B3, rfl, q1, q2, q3⟩; obtain ⟨A3, c3, e3, l3⟩ := q2.hdr.shape; subst e3; have Q3 := Aside0.mk (And.intro q1 q2); have G3 := Aside0.mk q3; clear q1 q2 q3) | (go_at_call 60; go_must (refine (HOP.out w1 A1 c1 (RIN.out w1 (Below.refl _ _)) NC.out L1.out).mono ?_; rintro e' w2 ⟨v2, B2, rfl, q1, q2, q3⟩; obtain ⟨A2, c2, e2, l2⟩ := q2.hdr.shape; subst e2; have Q2 := Aside0.mk (And.intro q1 q2); have G2 := Aside0.mk q3; clear q1 q2 q3)) | (go_at_call 27; go_must (refine HLB.out.mono ?_; rintro e' w1 ⟨A1, c1, rfl, q1, q2⟩; have Q1 := Aside0.mk q1; have F1 := Aside0.mk q2; have RIN := Aside0.mk (fun (W : World) (hW : Below w1.heap.size w1 W) => (by have h := (RdV.of_win q1).take n; rw [nums_take, List.take_left' HL.out] at h; exact h.below hW : RdV W A1 (nums .u8 xs))); have NC := Aside0.mk (fun (e : A1 = none) => (by subst e; exact Win.nil_cap q1 : c1 = 0)); have L1 := Aside0.mk (by obtain ⟨_, _, hs, hcap⟩ := q1.shape; injection hs with _ _ hs; subst hs; omega : n ≤ c1); clear q1 q2)))
    go_ret
    exact ⟨rfl, accNo (acc (frt F1.out G19.out).no (Nat.le_refl _) G10.out (fun k hk => Nat.le_trans F1.out.size hk)) (Nat.le_refl _) (frt G11.out F12.out)⟩
theorem FrameOpens_any (w : World) (k : Int) (A : Option Addr) (n c : Nat) (xs : List Int) (hk : 0 ≤ k ∧ k ≤ 255) (hr : RdV w A (nums .u8 xs)) (hl : xs.length = n) (hb : Byt xs) (h0 : A = none → c = 0) (hc : n ≤ c) (hn : n ≤ 140737488351232) :
    Calls Try.prog 11 #[.int .u8 k, .slice A n c] w fun e w' => e = .returned (.bool true) ∧ Below w.heap.size w w' := by
  by_cases h : n ≤ 100000 ∨ 16777216 < n
  · exact FrameOpens_main w k A n c xs hk hr hl hb h0 hc hn h
  · exact FrameOpens_skip w k A n c (by omega) (by omega)
end Go.Proofs.Ytchcimkmjoegdaa.C
namespace Go.Proofs.Ytchcimkmjoegdaa.C
open Go.RowKit Go.Proofs.YtchcimkmjoegdaaW.PrintWords Go.Proofs.YtchcimkmjoegdaaW.PrintMore Go.Proofs.Ytchcimkmjoegdaa.M
set_option linter.unusedVariables false
set_option linter.unusedSimpArgs false

theorem sealR_case (k : Int) (S : List (List Int)) : (∃ bb, sealF k S = some bb ∧ sealR k S = (bb, 0)) ∨ (sealF k S = none ∧ sealR k S = ([], 3)) := by
  unfold sealR
  rcases h : sealF k S with _ | b
  · exact .inr ⟨rfl, rfl⟩
  · exact .inl ⟨b, rfl, rfl⟩
theorem seal_byt {k : Int} (hk : 0 ≤ k ∧ k ≤ 255) {S : List (List Int)} (hs : ∀ s ∈ S, Byt s) {bb : List Int} (h : sealF k S = some bb) : Byt bb := by
  unfold sealF at h
  split at h
  · cases h
  · injection h with h
    subst h
    exact byt_sealedB ((hd_byt hk S _).app (byt_flatten hs))
theorem seal_at (W : World) (k : Int) (A : Option Addr) (N c : Nat) (L : List (Value × List Int)) (hk : 0 ≤ k ∧ k ≤ 255) (q : RdB W A N c L) : Calls Try.prog 56 #[.int .u8 k, .slice A N c] W fun e w' => ∃ v, e = .returned (.tuple #[v, .int .i64 (sealR k (L.map Prod.snd)).2]) ∧ Acc w' W.heap.size v (sealR k (L.map Prod.snd)).1 ∧ Fr No W w' :=
  (seal_any W k A N c L hk q.hdr q.len q.part q.cap q.max).mono fun _ _ h => h.all
/-- Open at a list that is one's own. -/
theorem open_acc (W : World) (k : Int) (B : Nat) (A : Option Addr) (c : Nat) (b : List Int) (h : Acc W B (.slice A b.length c) b) (hb : Byt b) (hn : b.length ≤ 140737488351232) : Calls Try.prog 60 #[.int .u8 k, .slice A b.length c] W fun e w' => ∃ v B', e = .returned (.tuple #[v, .int .i64 (openF k b).2]) ∧ (openF k b).1 = B'.map Prod.snd ∧ Blks w' W.heap.size v B' ∧ Fr No W w' :=
  (open_any W k A b.length c b (RdV.of_win h) rfl hb (fun e => by subst e; exact Win.nil_cap h) (win_cap h) (by omega)).mono fun _ _ h => h
set_option maxRecDepth 100000 in
set_option maxHeartbeats 8000000 in
theorem FrameBack_any (w : World) (k : Int) (A : Option Addr) (N c : Nat) (L : List (Value × List Int)) (D : Option Addr) (n d : Nat) (xs : List Int) (hk : 0 ≤ k ∧ k ≤ 255) (hR : RdB w A N c L) (hs : ∀ p ∈ L, p.2.length ≤ 140737488351232) (hr : RdV w D (nums .u8 xs)) (hl : xs.length = n) (hb : Byt xs) (h0 : D = none → d = 0) (hd : n ≤ d) (hn : n ≤ 140737488351232) :
    Calls Try.prog 13 #[.int .u8 k, .slice A N c, .slice D n d] w fun e w' => e = .returned (.bool true) ∧ Below w.heap.size w w' := by
  have HR := Aside0.mk hR
  have HK := Aside0.mk hk
  have HS := Aside0.mk hs
  have HD := Aside0.mk hr
  have HL := Aside0.mk hl
  have HB := Aside0.mk hb
  have HND := Aside0.mk h0
  have hN : N ≤ 9223372036854775807 := hR.max
  have hni : (n : Int) ≤ 140737488351232 := by omega
  have HPB := Aside0.mk (show ∀ s ∈ L.map Prod.snd, Byt s from fun s h => by obtain ⟨p, hp, rfl⟩ := List.mem_map.1 h; obtain ⟨_, _, _, _, _, _, h2⟩ := hR.part p hp; exact h2)
  clear hR hk hs hr hl hb h0 hn
  go_enter Try.func13, Try.ntmps13
  go_wp2_with fail
  go_loop [7, 8] (fun v7 v8 => ∃ (i : Nat) (m : Int), v8 = .int .i64 i ∧ v7 = .int .i64 m ∧ i ≤ N ∧ 0 ≤ m ∧ m ≤ 140737488451232) (fun _ v8 => N - (intOf v8).toNat)
  case atStart => exact ⟨0, 0, rfl, rfl, by omega, by omega, by omega⟩
  case round =>
    obtain ⟨i, m, rfl, rfl, hi, hm0, hm1⟩ := hrel
    have hcase : (i < N ∧ m < 100000) ∨ (i < N ∧ ¬ m < 100000) ∨ (¬ i < N ∧ ¬ m < 100000) ∨ (¬ i < N ∧ m < 100000) := by omega
    rcases hcase with ⟨hlt, b⟩ | ⟨hlt, b⟩ | ⟨hlt, b⟩ | ⟨hlt, b⟩
    · have hmi : m < 100000 := b
      obtain ⟨p, hp⟩ := get_some' (xs := L) (i := i) (by have := HR.out.len; omega)
      obtain ⟨Ai, ci, he, hlc, hmx, hrd, hby⟩ := HR.out.part p (List.mem_of_getElem? hp)
      obtain ⟨ad, eA, hh⟩ := rdv_at HR.out.hdr hp
      rw [he] at hh
      subst eA
      have hcell := hh
      have hln := HS.out p (List.mem_of_getElem? hp)
      obtain ⟨q, hq⟩ : ∃ q, q = p.2.length := ⟨_, rfl⟩
      rw [← hq] at hcell hlc hmx hln
      have hqi : (q : Int) ≤ 140737488351232 := by omega
      have hmi2 : m + (q : Int) ≤ 140737488451232 := by omega
      clear hp he hrd hby hh hq hmx hln hmi
      go_wp2_with fail
      go_round
      case rel => exact ⟨i + 1, m + q, by simp, rfl, by omega, by omega, by omega⟩
      case measure => simp [intOf]; omega
    · have b2 : (100000 : Int) ≤ m := by omega
      go_wp2_with (first | (go_at_call 55; go_must (refine (awake4_any _).mono ?_; rintro e' w1 ⟨rfl, q1⟩; have F1 := Aside0.mk q1; clear q1)))
      go_ret
      exact ⟨rfl, F1.out.no⟩
    · have b2 : (100000 : Int) ≤ m := by omega
      go_wp2_with (first | (go_at_call 55; go_must (refine (awake4_any _).mono ?_; rintro e' w1 ⟨rfl, q1⟩; have F1 := Aside0.mk q1; clear q1)))
      go_ret
      exact ⟨rfl, F1.out.no⟩
    · have b2 : ¬ (100000 : Int) ≤ m := by omega
      by_cases hbig : 100000 < n
      · have c1 : decide ((100000 : Int) < (n : Int)) = true := decide_eq_true (by omega)
        clear hbig
        go_wp2_with (first | (go_at_call 55; go_must (refine (awake4_any _).mono ?_; rintro e' w1 ⟨rfl, q1⟩; have F1 := Aside0.mk q1; clear q1)))
        go_ret
        exact ⟨rfl, F1.out.no⟩
      · have c1 : decide ((100000 : Int) < (n : Int)) = false := decide_eq_false (by omega)
        have hn5 : n ≤ 100000 := by omega
        clear hbig
        obtain ⟨LL, r, hO⟩ : ∃ LL r, openF k xs = (LL, r) := ⟨_, _, rfl⟩
        have HLL := Aside0.mk (openF_bounds HB.out hO)
        have HOD := Aside0.mk (fun (W : World) (hW : Below w.heap.size w W) => (by
          refine (open_any W k D n d xs (HD.out.below hW) HL.out HB.out HND.out hd (by omega)).mono ?_
          rintro e w' ⟨v, B, h1, h2, h3, h4⟩
          rw [hO] at h1 h2
          exact ⟨v, B, h1, h2, h3, h4⟩ : Calls Try.prog 60 #[.int .u8 k, .slice D n d] W fun e w' => ∃ v B, e = .returned (.tuple #[v, .int .i64 r]) ∧ LL = B.map Prod.snd ∧ Blks w' W.heap.size v B ∧ Fr No W w'))
        have HS2 := Aside0.mk (fun (W : World) (A' : Option Addr) (c' : Nat) (B : List (Value × List Int)) (e : LL = B.map Prod.snd) (q : RdB W A' B.length c' B) => (by
          have := seal_at W k A' B.length c' B HK.out q
          rw [← e] at this
          exact this : Calls Try.prog 56 #[.int .u8 k, .slice A' B.length c'] W fun e w' => ∃ v, e = .returned (.tuple #[v, .int .i64 (sealR k LL).2]) ∧ Acc w' W.heap.size v (sealR k LL).1 ∧ Fr No W w'))
        have HS1 := Aside0.mk (fun (W : World) (hW : Below w.heap.size w W) => seal_at W k A N c L HK.out (HR.out.below hW))
        have hLr : (r = 0 ∧ sealR k LL = (xs, 0)) ∨ (r != 0) = true := by
          by_cases hr0 : r = 0
          · refine .inl ⟨hr0, ?_⟩
            rw [hr0] at hO
            unfold sealR
            rw [seal_open HB.out hO]
          · exact .inr (by simp [hr0])
        obtain ⟨cc, hh, hcc⟩ : ∃ cc hh, sealR k LL = (cc, hh) := ⟨_, _, rfl⟩
        rw [hcc] at HS2 hLr
        simp only at HS2
        have HCC := Aside0.mk (show cc.length ≤ 16777216 from by have := sealR_len k LL; rwa [hcc] at this)
        obtain ⟨bb, r1, hbb⟩ : ∃ bb r1, sealR k (L.map Prod.snd) = (bb, r1) := ⟨_, _, rfl⟩
        rw [hbb] at HS1
        simp only at HS1
        have HBL := Aside0.mk (show bb.length ≤ 16777216 from by have := sealR_len k (L.map Prod.snd); rwa [hbb] at this)
        have HBY := Aside0.mk (show Byt bb from by
          rcases sealR_case k (L.map Prod.snd) with ⟨b', h1, h2⟩ | ⟨h1, h2⟩
          · rw [hbb] at h2
            obtain rfl := (Prod.mk.inj h2).1
            exact seal_byt HK.out HPB.out h1
          · rw [hbb] at h2
            obtain rfl := (Prod.mk.inj h2).1
            exact fun x hx => nomatch hx)
        have hb1 : (r1 = 0 ∧ openF k bb = (L.map Prod.snd, 0)) ∨ (r1 == 0) = false := by
          rcases sealR_case k (L.map Prod.snd) with ⟨b', h1, h2⟩ | ⟨h1, h2⟩
          · rw [hbb] at h2
            obtain ⟨rfl, rfl⟩ := Prod.mk.inj h2
            exact .inl ⟨rfl, (open_seal h1).1⟩
          · rw [hbb] at h2
            obtain ⟨rfl, rfl⟩ := Prod.mk.inj h2
            exact .inr (by decide)
        obtain ⟨L1, f1, hO1⟩ : ∃ L1 f1, openF k bb = (L1, f1) := ⟨_, _, rfl⟩
        have HL1 := Aside0.mk (openF_bounds HBY.out hO1)
        have HO1 := Aside0.mk (fun (W : World) (B : Nat) (A' : Option Addr) (c' : Nat) (q : Acc W B (.slice A' bb.length c') bb) => (by
          have := open_acc W k B A' c' bb q HBY.out (by have := HBL.out; omega)
          rw [hO1] at this
          exact this : Calls Try.prog 60 #[.int .u8 k, .slice A' bb.length c'] W fun e w' => ∃ v B', e = .returned (.tuple #[v, .int .i64 f1]) ∧ L1 = B'.map Prod.snd ∧ Blks w' W.heap.size v B' ∧ Fr No W w'))
        rw [hO1] at hb1
        clear hcc hbb hO hO1
        rcases hb1 with ⟨rfl, e1⟩ | hr1
        · obtain ⟨rfl, rfl⟩ := Prod.mk.inj e1
          clear e1
          rcases hLr with ⟨rfl, e2⟩ | hr2
          · obtain ⟨q1, rfl⟩ := Prod.mk.inj e2
            have q2 := q1.symm
            clear q1 e2
            subst q2
            go_wp2_with (first | (go_at_call 24; go_must (refine (KBytes_any w6 A6 D xs.length n c6 d xs xs (RdV.of_win Q6.out) (HD.out.below F6.out.no) rfl HL.out (Win.max Q6.out) (by omega) (win_cap Q6.out) hd).mono ?_; rw [decide_eq_true rfl]; rintro e' w7 ⟨rfl, m7, hm7⟩; have F7 := Aside0.mk (show Fr No w w7 from by rw [hm7]; exact frt F6.out (Fr.drewN _ _)); clear hm7)) | (go_at_call 56; refine (HS2.out w5 A5 c5 B5 Q5.out.1 (RdB.of_blks Q5.out.2 (by have := blks_len HLL.out Q5.out.1; omega) (blks_ok HLL.out Q5.out.1))).mono ?_; rintro e' w6 ⟨v6, rfl, q1, q2⟩; obtain ⟨A6, c6, e6, l6⟩ := Win.shape q1; subst e6; have Q6 := Aside0.mk q1; have F6 := Aside0.mk (frt F5.out q2); clear q1 q2) | (go_at_call 60; refine (HOD.out w4 F4.out.no).mono ?_; rintro e' w5 ⟨v5, B5, rfl, q1, q2, q3⟩; obtain ⟨A5, c5, e5, l5⟩ := q2.hdr.shape; subst e5; have Q5 := Aside0.mk (And.intro q1 q2); have F5 := Aside0.mk (frt F4.out q3); clear q1 q2 q3) | (go_at_call 64; go_must (refine (KBlocks_any w3 A3 A _ _ c3 c B3 L (RdB.of_blks Q3.out.2 (by have := blks_len HL1.out Q3.out.1; omega) (blks_ok HL1.out Q3.out.1)) (HR.out.below F3.out.no)).mono ?_; rw [decide_eq_true Q3.out.1.symm]; rintro e' w4 ⟨rfl, m4, hm4⟩; have F4 := Aside0.mk (show Fr No w w4 from by rw [hm4]; exact frt F3.out (Fr.drewN _ _)); clear hm4)) | (go_at_call 60; go_must (refine (HO1.out w2 _ A2 c2 Q2.out).mono ?_; rintro e' w3 ⟨v3, B3, rfl, q1, q2, q3⟩; obtain ⟨A3, c3, e3, l3⟩ := q2.hdr.shape; subst e3; have Q3 := Aside0.mk (And.intro q1 q2); have F3 := Aside0.mk (frt F2.out q3); clear q1 q2 q3)) | (go_at_call 56; go_must (refine (HS1.out w1 F1.out.no).mono ?_; rintro e' w2 ⟨v2, rfl, q1, q2⟩; obtain ⟨A2, c2, e2, l2⟩ := Win.shape q1; subst e2; have Q2 := Aside0.mk q1; have F2 := Aside0.mk (frt F1.out q2); clear q1 q2)) | (go_at_call 55; go_must (refine (awake4_any _).mono ?_; rintro e' w1 ⟨rfl, q1⟩; have F1 := Aside0.mk q1; clear q1)))
            go_ret
            exact ⟨rfl, F7.out.no⟩
          · go_wp2_with (first | (go_at_call 24; go_must (refine (KBytes_any w6 A6 D xs.length n c6 d xs xs (RdV.of_win Q6.out) (HD.out.below F6.out.no) rfl HL.out (Win.max Q6.out) (by omega) (win_cap Q6.out) hd).mono ?_; rw [decide_eq_true rfl]; rintro e' w7 ⟨rfl, m7, hm7⟩; have F7 := Aside0.mk (show Fr No w w7 from by rw [hm7]; exact frt F6.out (Fr.drewN _ _)); clear hm7)) | (go_at_call 56; refine (HS2.out w5 A5 c5 B5 Q5.out.1 (RdB.of_blks Q5.out.2 (by have := blks_len HLL.out Q5.out.1; omega) (blks_ok HLL.out Q5.out.1))).mono ?_; rintro e' w6 ⟨v6, rfl, q1, q2⟩; obtain ⟨A6, c6, e6, l6⟩ := Win.shape q1; subst e6; have Q6 := Aside0.mk q1; have F6 := Aside0.mk (frt F5.out q2); clear q1 q2) | (go_at_call 60; refine (HOD.out w4 F4.out.no).mono ?_; rintro e' w5 ⟨v5, B5, rfl, q1, q2, q3⟩; obtain ⟨A5, c5, e5, l5⟩ := q2.hdr.shape; subst e5; have Q5 := Aside0.mk (And.intro q1 q2); have F5 := Aside0.mk (frt F4.out q3); clear q1 q2 q3) | (go_at_call 64; go_must (refine (KBlocks_any w3 A3 A _ _ c3 c B3 L (RdB.of_blks Q3.out.2 (by have := blks_len HL1.out Q3.out.1; omega) (blks_ok HL1.out Q3.out.1)) (HR.out.below F3.out.no)).mono ?_; rw [decide_eq_true Q3.out.1.symm]; rintro e' w4 ⟨rfl, m4, hm4⟩; have F4 := Aside0.mk (show Fr No w w4 from by rw [hm4]; exact frt F3.out (Fr.drewN _ _)); clear hm4)) | (go_at_call 60; go_must (refine (HO1.out w2 _ A2 c2 Q2.out).mono ?_; rintro e' w3 ⟨v3, B3, rfl, q1, q2, q3⟩; obtain ⟨A3, c3, e3, l3⟩ := q2.hdr.shape; subst e3; have Q3 := Aside0.mk (And.intro q1 q2); have F3 := Aside0.mk (frt F2.out q3); clear q1 q2 q3)) | (go_at_call 56; go_must (refine (HS1.out w1 F1.out.no).mono ?_; rintro e' w2 ⟨v2, rfl, q1, q2⟩; obtain ⟨A2, c2, e2, l2⟩ := Win.shape q1; subst e2; have Q2 := Aside0.mk q1; have F2 := Aside0.mk (frt F1.out q2); clear q1 q2)) | (go_at_call 55; go_must (refine (awake4_any _).mono ?_; rintro e' w1 ⟨rfl, q1⟩; have F1 := Aside0.mk q1; clear q1)))
            go_ret
            exact ⟨rfl, F6.out.no⟩
        · rcases hLr with ⟨rfl, e2⟩ | hr2
          · obtain ⟨q1, rfl⟩ := Prod.mk.inj e2
            have q2 := q1.symm
            clear q1 e2
            subst q2
            go_wp2_with (first | (go_at_call 24; go_must (refine (KBytes_any w6 A6 D xs.length n c6 d xs xs (RdV.of_win Q6.out) (HD.out.below F6.out.no) rfl HL.out (Win.max Q6.out) (by omega) (win_cap Q6.out) hd).mono ?_; rw [decide_eq_true rfl]; rintro e' w7 ⟨rfl, m7, hm7⟩; have F7 := Aside0.mk (show Fr No w w7 from by rw [hm7]; exact frt F6.out (Fr.drewN _ _)); clear hm7)) | (go_at_call 56; refine (HS2.out w5 A5 c5 B5 Q5.out.1 (RdB.of_blks Q5.out.2 (by have := blks_len HLL.out Q5.out.1; omega) (blks_ok HLL.out Q5.out.1))).mono ?_; rintro e' w6 ⟨v6, rfl, q1, q2⟩; obtain ⟨A6, c6, e6, l6⟩ := Win.shape q1; subst e6; have Q6 := Aside0.mk q1; have F6 := Aside0.mk (frt F5.out q2); clear q1 q2) | (go_at_call 60; refine (HOD.out w3 F3.out.no).mono ?_; rintro e' w5 ⟨v5, B5, rfl, q1, q2, q3⟩; obtain ⟨A5, c5, e5, l5⟩ := q2.hdr.shape; subst e5; have Q5 := Aside0.mk (And.intro q1 q2); have F5 := Aside0.mk (frt F3.out q3); clear q1 q2 q3) | (go_at_call 60; go_must (refine (HO1.out w2 _ A2 c2 Q2.out).mono ?_; rintro e' w3 ⟨v3, B3, rfl, q1, q2, q3⟩; obtain ⟨A3, c3, e3, l3⟩ := q2.hdr.shape; subst e3; have Q3 := Aside0.mk (And.intro q1 q2); have F3 := Aside0.mk (frt F2.out q3); clear q1 q2 q3)) | (go_at_call 56; go_must (refine (HS1.out w1 F1.out.no).mono ?_; rintro e' w2 ⟨v2, rfl, q1, q2⟩; obtain ⟨A2, c2, e2, l2⟩ := Win.shape q1; subst e2; have Q2 := Aside0.mk q1; have F2 := Aside0.mk (frt F1.out q2); clear q1 q2)) | (go_at_call 55; go_must (refine (awake4_any _).mono ?_; rintro e' w1 ⟨rfl, q1⟩; have F1 := Aside0.mk q1; clear q1)))
            go_ret
            exact ⟨rfl, F7.out.no⟩
          · go_wp2_with (first | (go_at_call 24; go_must (refine (KBytes_any w6 A6 D xs.length n c6 d xs xs (RdV.of_win Q6.out) (HD.out.below F6.out.no) rfl HL.out (Win.max Q6.out) (by omega) (win_cap Q6.out) hd).mono ?_; rw [decide_eq_true rfl]; rintro e' w7 ⟨rfl, m7, hm7⟩; have F7 := Aside0.mk (show Fr No w w7 from by rw [hm7]; exact frt F6.out (Fr.drewN _ _)); clear hm7)) | (go_at_call 56; refine (HS2.out w5 A5 c5 B5 Q5.out.1 (RdB.of_blks Q5.out.2 (by have := blks_len HLL.out Q5.out.1; omega) (blks_ok HLL.out Q5.out.1))).mono ?_; rintro e' w6 ⟨v6, rfl, q1, q2⟩; obtain ⟨A6, c6, e6, l6⟩ := Win.shape q1; subst e6; have Q6 := Aside0.mk q1; have F6 := Aside0.mk (frt F5.out q2); clear q1 q2) | (go_at_call 60; refine (HOD.out w3 F3.out.no).mono ?_; rintro e' w5 ⟨v5, B5, rfl, q1, q2, q3⟩; obtain ⟨A5, c5, e5, l5⟩ := q2.hdr.shape; subst e5; have Q5 := Aside0.mk (And.intro q1 q2); have F5 := Aside0.mk (frt F3.out q3); clear q1 q2 q3) | (go_at_call 60; go_must (refine (HO1.out w2 _ A2 c2 Q2.out).mono ?_; rintro e' w3 ⟨v3, B3, rfl, q1, q2, q3⟩; obtain ⟨A3, c3, e3, l3⟩ := q2.hdr.shape; subst e3; have Q3 := Aside0.mk (And.intro q1 q2); have F3 := Aside0.mk (frt F2.out q3); clear q1 q2 q3)) | (go_at_call 56; go_must (refine (HS1.out w1 F1.out.no).mono ?_; rintro e' w2 ⟨v2, rfl, q1, q2⟩; obtain ⟨A2, c2, e2, l2⟩ := Win.shape q1; subst e2; have Q2 := Aside0.mk q1; have F2 := Aside0.mk (frt F1.out q2); clear q1 q2)) | (go_at_call 55; go_must (refine (awake4_any _).mono ?_; rintro e' w1 ⟨rfl, q1⟩; have F1 := Aside0.mk q1; clear q1)))
            go_ret
            exact ⟨rfl, F6.out.no⟩
theorem FrameBack_row (w : World) {k : Int} {a : Option Addr} {n c : Nat} {L : List (Value × List Int)} {a2 : Option Addr} {len cap : Nat} {zs : List Int} (hq : (Lit.int .u8 k).wf = true) (h : RdB w a n c L ∧ n ≤ 5864062014634 ∧ ∀ p ∈ L, p.2.length ≤ 140737488351232)
    (h2 : (a2 = none ∧ len = 0 ∧ cap = 0 ∧ zs = []) ∨ ∃ x, a2 = some x ∧ len ≤ cap ∧ cap ≤ maxLen ∧ zs.length = cap ∧ (∀ i, i < zs.length → w.cell? (x.add i) = some (.int .u8 (zs.getD i 0))) ∧ ∀ n ∈ zs, (Lit.int .u8 n).wf = true) (y : len * 1 ≤ 140737488351232) :
    Calls Try.prog 13 #[.int .u8 k, .slice a n c, .slice a2 len cap] w fun e w' => e = .returned (.bool true) ∧ Below w.heap.size w w' := by
  obtain ⟨l, g1, g2, g3, g4, g5, g6⟩ := row_read h2
  exact FrameBack_any w k a n c L a2 len cap l (u8_wf hq) h.1 h.2.2 g2 g1 (byt_wf g6) g3 g4 (by omega)
end Go.Proofs.Ytchcimkmjoegdaa.C
namespace Go.Proofs.Ytchcimkmjoegdaa.C
open Go.RowKit Go.Proofs.YtchcimkmjoegdaaW.PrintWords Go.Proofs.YtchcimkmjoegdaaW.PrintMore Go.Proofs.Ytchcimkmjoegdaa.M
set_option linter.unusedVariables false

theorem xor_shift (a b k : Nat) : (a ^^^ b) * 2 ^ k = (a * 2 ^ k) ^^^ (b * 2 ^ k) := by
  apply Nat.eq_of_testBit_eq
  intro j
  rw [Nat.testBit_xor, Nat.testBit_mul_two_pow, Nat.testBit_mul_two_pow, Nat.testBit_mul_two_pow, Nat.testBit_xor]
  by_cases h : k ≤ j <;> simp [h]
/-- A list as one number, low bytes first. -/
def numL : List Int → Nat
  | [] => 0
  | x :: l => x.toNat ^^^ (numL l * 2 ^ 8)
theorem crc_num : ∀ (l : List Int) (c : Nat), crc c l = Crc.bits (8 * l.length) (c ^^^ numL l)
  | [], c => by simp [crc, Crc.run, numL, Crc.bits]
  | x :: l, c => by
    have h1 : crc c (x :: l) = crc (Crc.byte c x.toNat) l := rfl
    rw [h1, crc_num l, List.length_cons, Nat.mul_add, Nat.mul_one, Nat.add_comm (8 * l.length) 8, Crc.bits_add, numL, ← Nat.xor_assoc, Crc.bits_xor 8, Crc.bits_low]
    rfl
theorem bit_ne {c : Nat} (h : c < 4294967296) (h0 : c ≠ 0) : Crc.bit c ≠ 0 := by
  unfold Crc.bit
  split
  · intro e
    have e2 : c / 2 = 3988292384 := by
      have := congrArg (· ^^^ 3988292384) e
      simp only [Nat.xor_assoc, Nat.xor_self, Nat.xor_zero, Nat.zero_xor] at this
      exact this
    omega
  · omega
theorem bits_ne : ∀ (k : Nat) {c : Nat}, c < 4294967296 → c ≠ 0 → Crc.bits k c ≠ 0
  | 0, _, _, h0 => h0
  | k + 1, _, h, h0 => bits_ne k (Crc.bit_lt h) (bit_ne h h0)
theorem xor_ne {a b : Nat} (h : b ≠ 0) : a ^^^ b ≠ a := fun e => by
  have := congrArg (a ^^^ ·) e
  simp only [← Nat.xor_assoc, Nat.xor_self, Nat.zero_xor] at this
  exact h this
/-- A burst turns the checksum. -/
theorem burst_crc (x x' : List Int) (from_ ev c : Nat) (hl : x'.length = x.length) (hf : from_ ≤ 8 * x.length) (hn : numL x' = numL x ^^^ (ev * 2 ^ from_)) (h0 : ev ≠ 0) (h1 : ev < 4294967296) : crc c x' ≠ crc c x := by
  rw [crc_num, crc_num, hl, hn, ← Nat.xor_assoc, Crc.bits_xor]
  refine xor_ne ?_
  obtain ⟨d, hd⟩ : ∃ d, 8 * x.length = from_ + d := ⟨8 * x.length - from_, by omega⟩
  rw [hd, Crc.bits_add, Crc.bits_low]
  exact bits_ne d h1 h0
theorem numL_four (s : Nat) (hs : s < 4294967296) : numL (four s) = s := by
  have e0 := Crc.split_xor 8 s
  have e1 := Crc.split_xor 8 (s / 256)
  have e2 := Crc.split_xor 8 (s / 65536)
  rw [show (2 : Nat) ^ 8 = 256 from rfl] at e0 e1 e2
  rw [show s / 256 / 256 = s / 65536 from by omega] at e1
  rw [show s / 65536 / 256 = s / 16777216 from by omega] at e2
  have n0 : ((s : Int) % 256).toNat = s % 256 := by omega
  have n1 : ((s : Int) / 256 % 256).toNat = s / 256 % 256 := by omega
  have n2 : ((s : Int) / 65536 % 256).toNat = s / 65536 % 256 := by omega
  have n3 : ((s : Int) / 16777216).toNat = s / 16777216 := by omega
  show ((s : Int) % 256).toNat ^^^ ((((s : Int) / 256 % 256).toNat ^^^ ((((s : Int) / 65536 % 256).toNat ^^^ ((((s : Int) / 16777216).toNat ^^^ (0 * 2 ^ 8)) * 2 ^ 8)) * 2 ^ 8)) * 2 ^ 8) = s
  rw [n0, n1, n2, n3, Nat.zero_mul, Nat.xor_zero, show (2 : Nat) ^ 8 = 256 from rfl]
  rw [Nat.xor_comm (s / 65536 % 256), ← e2, Nat.xor_comm (s / 256 % 256), ← e1, Nat.xor_comm (s % 256), ← e0]
/-- A list that bears its check has one checksum, whatever it is. -/
theorem check_crc {b : List Int} (hb : Byt b) : crc 4294967295 (b ++ four (csum b)) = Crc.bits 32 4294967295 := by
  have hlt := crc_lt (c := 4294967295) (by decide) hb
  rw [crc_append, crc_num, numL_four _ (csum_lt b)]
  show Crc.bits 32 (crc 4294967295 b ^^^ (4294967295 - crc 4294967295 b)) = _
  congr 1
  rw [← ones32 _ hlt, Nat.xor_comm 4294967295, ← Nat.xor_assoc, Nat.xor_self, Nat.zero_xor]
/-- A sealed file that a burst has turned is refused, whatever the kind. -/
theorem burst_open {k k' : Int} {S : List (List Int)} {x x' : List Int} {from_ ev : Nat} (hk : 0 ≤ k ∧ k ≤ 255) (hs : ∀ s ∈ S, Byt s) (h : sealF k S = some x) (hb : Byt x') (hl : x'.length = x.length) (hf : from_ ≤ 8 * x.length) (hn : numL x' = numL x ^^^ (ev * 2 ^ from_)) (h0 : ev ≠ 0) (h1 : ev < 4294967296) : badF k' x' = true := by
  have hlen := (open_seal h).2
  have hx : crc 4294967295 x = Crc.bits 32 4294967295 := by
    unfold sealF at h
    split at h
    · cases h
    · injection h with h
      rw [← h]
      exact check_crc ((hd_byt hk S _).app (byt_flatten hs))
  have hne := burst_crc x x' from_ ev 4294967295 hl hf hn h0 h1
  have ho : openF k' x' = ([], 20) := by
    unfold openF
    rw [if_neg (by omega), if_neg]
    rintro ⟨_, _, _, h4⟩
    refine hne ?_
    rw [hx, ← check_crc (hb.take' (x'.length - 4)), ← h4, List.take_append_drop]
  unfold badF
  rw [ho]
  rfl
/-- One bit turned. -/
theorem numL_set : ∀ (l : List Int) (q r : Nat) (v : Int), l[q]? = some v → numL (l.set q ((v.toNat ^^^ 2 ^ r : Nat) : Int)) = numL l ^^^ 2 ^ (8 * q + r)
  | x :: l, 0, r, v, h => by
    obtain rfl := Option.some.inj h
    rw [List.set_cons_zero, numL, numL, Int.toNat_natCast, Nat.mul_zero, Nat.zero_add, Nat.xor_assoc, Nat.xor_comm (2 ^ r), ← Nat.xor_assoc]
  | x :: l, q + 1, r, v, h => by
    rw [List.set_cons_succ, numL, numL, numL_set l q r v h, xor_shift, ← Nat.xor_assoc, ← Nat.pow_add, show 8 * q + r + 8 = 8 * (q + 1) + r from by omega]
  | [], _, _, _, h => nomatch h
/-- The burst's first j bits. -/
theorem burst_bit (u j from_ : Nat) : (u % 2 ^ (j + 1)) * 2 ^ from_ = ((u % 2 ^ j) * 2 ^ from_) ^^^ (if u / 2 ^ j % 2 = 1 then 2 ^ (from_ + j) else 0) := by
  have h1 : u % 2 ^ (j + 1) = (u % 2 ^ j) ^^^ (if u / 2 ^ j % 2 = 1 then 2 ^ j else 0) := by
    apply Nat.eq_of_testBit_eq
    intro i
    have hb : u.testBit j = decide (u / 2 ^ j % 2 = 1) := by rw [Nat.testBit_eq_decide_div_mod_eq]
    rw [Nat.testBit_xor, Nat.testBit_mod_two_pow, Nat.testBit_mod_two_pow]
    by_cases hc : u / 2 ^ j % 2 = 1
    · rw [if_pos hc, Nat.testBit_two_pow]
      by_cases hij : i = j
      · subst hij
        rw [hb, decide_eq_true hc]
        simp
      · have : (j = i) ↔ False := ⟨fun e => hij e.symm, False.elim⟩
        by_cases hlt : i < j
        · simp [hlt, this, Nat.lt_succ_of_lt hlt]
        · have : ¬ i < j + 1 := by omega
          simp [hlt, this]
          omega
    · rw [if_neg hc, Nat.zero_testBit]
      by_cases hij : i = j
      · subst hij
        rw [hb, decide_eq_false hc]
        simp
      · by_cases hlt : i < j
        · simp [hlt, Nat.lt_succ_of_lt hlt]
        · have : ¬ i < j + 1 := by omega
          simp [hlt, this]
  rw [h1, xor_shift]
  congr 1
  split
  · rw [← Nat.pow_add, Nat.add_comm]
  · simp
theorem burst_ne {u j : Nat} : u % 2 ^ (j + 1) = 0 ↔ u % 2 ^ j = 0 ∧ u / 2 ^ j % 2 = 0 := by
  rw [Nat.pow_succ, Nat.mod_mul]
  constructor
  · intro h
    have hp : 0 < 2 ^ j := Nat.pow_pos (by decide)
    have h1 : u % 2 ^ j = 0 := by omega
    have h2 : 2 ^ j * (u / 2 ^ j % 2) = 0 := by omega
    rcases Nat.mul_eq_zero.1 h2 with h3 | h3
    · omega
    · exact ⟨h1, h3⟩
  · rintro ⟨h1, h2⟩
    rw [h1, h2, Nat.mul_zero]
end Go.Proofs.Ytchcimkmjoegdaa.C
namespace Go.Proofs.Ytchcimkmjoegdaa.C
open Go.RowKit Go.Proofs.YtchcimkmjoegdaaW.PrintWords Go.Proofs.YtchcimkmjoegdaaW.PrintMore Go.Proofs.Ytchcimkmjoegdaa.M
set_option linter.unusedVariables false
set_option linter.unusedSimpArgs false

/-- Behind j bits of the burst. -/
def BurSt (W : World) (base : Nat) (v : Value) (bb : List Int) (f u j : Nat) (hit : Bool) : Prop :=
  ∃ x : List Int, x.length = bb.length ∧ Byt x ∧ numL x = numL bb ^^^ ((u % 2 ^ j) * 2 ^ f) ∧ Acc W base v x ∧ hit = decide (u % 2 ^ j ≠ 0)
theorem byte_xor {v : Int} (h0 : 0 ≤ v) (h1 : v ≤ 255) {r : Nat} (hr : r < 8) : Go.bits .xor .u8 v ((2 ^ r : Nat) : Int) = ((v.toNat ^^^ 2 ^ r : Nat) : Int) ∧ v.toNat ^^^ 2 ^ r < 256 := by
  have hp : 2 ^ r < 256 := Nat.pow_lt_pow_right (a := 2) (m := r) (n := 8) (by decide) hr
  have hx : v.toNat ^^^ 2 ^ r < 2 ^ 8 := Nat.xor_lt_two_pow (by omega) hp
  refine ⟨?_, hx⟩
  obtain ⟨n, rfl⟩ := Int.eq_ofNat_of_zero_le h0
  rw [Int.toNat_natCast] at hx ⊢
  have e1 : (BitVec.ofInt 8 (n : Int)).toNat = n := by rw [BitVec.ofInt_natCast, BitVec.toNat_ofNat]; exact Nat.mod_eq_of_lt (by omega)
  have e2 : (BitVec.ofInt 8 ((2 ^ r : Nat) : Int)).toNat = 2 ^ r := by rw [BitVec.ofInt_natCast, BitVec.toNat_ofNat]; exact Nat.mod_eq_of_lt hp
  show IntKind.u8.wrap ((BitVec.ofInt 8 (n : Int) ^^^ BitVec.ofInt 8 ((2 ^ r : Nat) : Int)).toNat : Int) = _
  rw [BitVec.toNat_xor, e1, e2, IntKind.wrap_u8]
  omega
theorem BurSt.skip {W : World} {base : Nat} {v : Value} {bb : List Int} {f u j : Nat} {hit : Bool} (h : BurSt W base v bb f u j hit) (h0 : u / 2 ^ j % 2 ≠ 1) : BurSt W base v bb f u (j + 1) hit := by
  obtain ⟨x, h1, h2, h3, h4, h5⟩ := h
  have hz : u / 2 ^ j % 2 = 0 := by omega
  refine ⟨x, h1, h2, ?_, h4, ?_⟩
  · rw [burst_bit, if_neg h0, Nat.xor_zero]
    exact h3
  · rw [h5, decide_eq_decide]
    have := burst_ne (u := u) (j := j)
    constructor
    · exact fun a b => a (this.1 b).1
    · exact fun a b => a (this.2 ⟨b, hz⟩)
theorem BurSt.turn {W : World} {base g off c : Nat} {bb : List Int} {f u j n : Nat} {hit : Bool} (h : BurSt W base (.slice (some ⟨g, off, none⟩) n c) bb f u j hit) (hn : n = bb.length) (hf : f + j < 8 * n) (h1 : u / 2 ^ j % 2 = 1) :
    ∃ z : Int, 0 ≤ z ∧ z ≤ 255 ∧ W.cell? ⟨g, off + (f + j) / 8, none⟩ = some (.int .u8 z) ∧ W.frozen? ⟨g, off + (f + j) / 8, none⟩ = false ∧
      BurSt (W.setCell ⟨g, off + (f + j) / 8, none⟩ (.int .u8 ((z.toNat ^^^ 2 ^ ((f + j) % 8) : Nat) : Int))) base (.slice (some ⟨g, off, none⟩) n c) bb f u (j + 1) true ∧ Fr (At (.slice (some ⟨g, off, none⟩) n c)) W (W.setCell ⟨g, off + (f + j) / 8, none⟩ (.int .u8 ((z.toNat ^^^ 2 ^ ((f + j) % 8) : Nat) : Int))) := by
  obtain ⟨x, h2, h3, h4, h5, h6⟩ := h
  obtain ⟨z, hz⟩ := get_some (xs := x) (i := (f + j) / 8) (by omega)
  have h5' : Win W base 5 1 (.slice (some ⟨g, off, none⟩) n c) n (nums .u8 x) := by unfold Acc at h5; rw [h2, ← hn] at h5; exact h5
  obtain ⟨c1, c2⟩ := h5'.cell (j := (f + j) / 8) (u := .int .u8 z) (by simp [nums, hz])
  obtain ⟨s1, s2⟩ := h5'.store ((f + j) / 8) (by omega) (.int .u8 ((z.toNat ^^^ 2 ^ ((f + j) % 8) : Nat) : Int))
  obtain ⟨z0, z1⟩ := h3 z (List.mem_of_getElem? hz)
  have hbx := (byte_xor z0 z1 (r := (f + j) % 8) (by omega)).2
  have hset : (nums .u8 x).set ((f + j) / 8) (.int .u8 ((z.toNat ^^^ 2 ^ ((f + j) % 8) : Nat) : Int)) = nums .u8 (x.set ((f + j) / 8) ((z.toNat ^^^ 2 ^ ((f + j) % 8) : Nat) : Int)) := by
    unfold nums
    rw [List.map_set]
  rw [hset] at s1
  refine ⟨z, z0, z1, c1, c2, ⟨x.set ((f + j) / 8) ((z.toNat ^^^ 2 ^ ((f + j) % 8) : Nat) : Int), by rw [List.length_set]; exact h2, fun y hy => ?_, ?_, ?_, ?_⟩, s2⟩
  · rcases List.mem_or_eq_of_mem_set hy with hy | hy
    · exact h3 y hy
    · omega
  · rw [numL_set x _ _ z hz, h4, burst_bit, if_pos h1, ← Nat.xor_assoc, show 8 * ((f + j) / 8) + (f + j) % 8 = f + j from by omega]
  · unfold Acc
    rw [List.length_set, h2, ← hn]
    exact s1
  · symm
    refine decide_eq_true (fun e => ?_)
    have := (burst_ne (u := u) (j := j)).1 e
    omega
theorem BurSt.win {W : World} {base n c : Nat} {A : Option Addr} {bb : List Int} {f u j : Nat} {hit : Bool} (h : BurSt W base (.slice A n c) bb f u j hit) : ∃ x : List Int, Acc W base (.slice A n c) x := by
  obtain ⟨x, _, _, _, h4, _⟩ := h
  exact ⟨x, h4⟩
theorem byte_xor' {v : Int} (h0 : 0 ≤ v) (h1 : v ≤ 255) {r : Nat} (hr : r < 8) : Go.bits .xor .u8 v (2 ^ r % 256) = ((v.toNat ^^^ 2 ^ r : Nat) : Int) := by
  have hp : 2 ^ r < 256 := Nat.pow_lt_pow_right (a := 2) (m := r) (n := 8) (by decide) hr
  have e : (2 : Int) ^ r % 256 = ((2 ^ r : Nat) : Int) := by
    have h2 : ((2 ^ r : Nat) : Int) = (2 : Int) ^ r := by norm_cast
    rw [← h2]
    clear h2
    generalize 2 ^ r = q at hp ⊢
    omega
  rw [e]
  exact (byte_xor h0 h1 hr).1
/-- The burst's place. -/
theorem burst_place (a : Int) (n : Nat) (hn : 0 < n) (hn2 : n ≤ 134217728) : ∃ f : Nat, f < n ∧ ((a.tmod n < 0 ∧ wrap64 (a.tmod n + n) = f) ∨ (0 ≤ a.tmod n ∧ a.tmod n = f)) := by
  have h1 : a.tmod n < n := Int.tmod_lt_of_pos a (by omega)
  have h2 : -(n : Int) < a.tmod n := by
    have h := Int.tmod_lt_of_pos (-a) (b := (n : Int)) (by omega)
    rw [Int.neg_tmod] at h
    omega
  by_cases h3 : a.tmod n < 0
  · exact ⟨(a.tmod n + n).toNat, by omega, .inl ⟨h3, by unfold wrap64; omega⟩⟩
  · exact ⟨(a.tmod n).toNat, by omega, .inr ⟨by omega, by omega⟩⟩
set_option maxRecDepth 100000 in
set_option maxHeartbeats 8000000 in
theorem FrameBursts_any (w : World) (k : Int) (A : Option Addr) (N c : Nat) (L : List (Value × List Int)) (at_ : Int) (u : Nat) (hk : 0 ≤ k ∧ k ≤ 255) (hR : RdB w A N c L) (hs : ∀ p ∈ L, p.2.length ≤ 140737488351232) (ha0 : -9223372036854775808 ≤ at_) (ha1 : at_ ≤ 9223372036854775807) (hu : u < 4294967296) :
    Calls Try.prog 14 #[.int .u8 k, .slice A N c, .int .i64 at_, .int .u32 u] w fun e w' => e = .returned (.bool true) ∧ Below w.heap.size w w' := by
  have HR := Aside0.mk hR
  have HK := Aside0.mk hk
  have HS := Aside0.mk hs
  have HU := Aside0.mk hu
  have hN : N ≤ 9223372036854775807 := hR.max
  have HPB := Aside0.mk (show ∀ s ∈ L.map Prod.snd, Byt s from fun s h => by obtain ⟨p, hp, rfl⟩ := List.mem_map.1 h; obtain ⟨_, _, _, _, _, _, h2⟩ := hR.part p hp; exact h2)
  have HS1 := Aside0.mk (seal_at w k A N c L hk hR)
  have hcs := sealR_case k (L.map Prod.snd)
  obtain ⟨bb, r1, hbb⟩ : ∃ bb r1, sealR k (L.map Prod.snd) = (bb, r1) := ⟨_, _, rfl⟩
  rw [hbb] at HS1 hcs
  simp only at HS1
  have hcs2 : (r1 = 0 ∧ sealF k (L.map Prod.snd) = some bb) ∨ (r1 != 0) = true := by
    rcases hcs with ⟨b', h1, h2⟩ | ⟨h1, h2⟩
    · obtain ⟨rfl, rfl⟩ := Prod.mk.inj h2
      exact .inl ⟨rfl, h1⟩
    · obtain ⟨rfl, rfl⟩ := Prod.mk.inj h2
      exact .inr (by decide)
  have HC := Aside0.mk hcs2
  clear hR hk hs hu hcs hbb hcs2
  go_enter Try.func14, Try.ntmps14
  go_wp2_with fail
  go_loop [9, 10] (fun v7 v8 => ∃ (i : Nat) (m : Int), v8 = .int .i64 i ∧ v7 = .int .i64 m ∧ i ≤ N ∧ 0 ≤ m ∧ m ≤ 140737488451232) (fun _ v8 => N - (intOf v8).toNat)
  case atStart => exact ⟨0, 0, rfl, rfl, by omega, by omega, by omega⟩
  case round =>
    obtain ⟨i, m, rfl, rfl, hi, hm0, hm1⟩ := hrel
    have hcase : (i < N ∧ m < 100000) ∨ (i < N ∧ ¬ m < 100000) ∨ (¬ i < N ∧ ¬ m < 100000) ∨ (¬ i < N ∧ m < 100000) := by omega
    rcases hcase with ⟨hlt, b⟩ | ⟨hlt, b⟩ | ⟨hlt, b⟩ | ⟨hlt, b⟩
    · have hmi : m < 100000 := b
      obtain ⟨p, hp⟩ := get_some' (xs := L) (i := i) (by have := HR.out.len; omega)
      obtain ⟨Ai, ci, he, hlc, hmx, hrd, hby⟩ := HR.out.part p (List.mem_of_getElem? hp)
      obtain ⟨ad, eA, hh⟩ := rdv_at HR.out.hdr hp
      rw [he] at hh
      subst eA
      have hcell := hh
      have hln := HS.out p (List.mem_of_getElem? hp)
      obtain ⟨q, hq⟩ : ∃ q, q = p.2.length := ⟨_, rfl⟩
      rw [← hq] at hcell hlc hmx hln
      have hqi : (q : Int) ≤ 140737488351232 := by omega
      have hmi2 : m + (q : Int) ≤ 140737488451232 := by omega
      clear hp he hrd hby hh hq hmx hln hmi
      go_wp2_with fail
      go_round
      case rel => exact ⟨i + 1, m + q, by simp, rfl, by omega, by omega, by omega⟩
      case measure => simp [intOf]; omega
    · have b2 : (100000 : Int) ≤ m := by omega
      go_wp2_with (first | (go_at_call 55; go_must (refine (awake4_any _).mono ?_; rintro e' w1 ⟨rfl, q1⟩; have F1 := Aside0.mk (frt F0.out q1); clear q1)) | (go_at_call 56; go_must (refine HS1.out.mono ?_; rintro e' w0 ⟨v0, rfl, q1, q2⟩; have F0 := Aside0.mk q2; clear q1 q2)))
      go_ret
      exact ⟨rfl, F1.out.no⟩
    · have b2 : (100000 : Int) ≤ m := by omega
      go_wp2_with (first | (go_at_call 55; go_must (refine (awake4_any _).mono ?_; rintro e' w1 ⟨rfl, q1⟩; have F1 := Aside0.mk (frt F0.out q1); clear q1)) | (go_at_call 56; go_must (refine HS1.out.mono ?_; rintro e' w0 ⟨v0, rfl, q1, q2⟩; have F0 := Aside0.mk q2; clear q1 q2)))
      go_ret
      exact ⟨rfl, F1.out.no⟩
    · have b2 : ¬ (100000 : Int) ≤ m := by omega
      rcases HC.out with ⟨rfl, hseal⟩ | hne
      · by_cases hu0 : u = 0
        · subst hu0
          clear hseal
          go_wp2_with (first | (go_at_call 55; go_must (refine (awake4_any _).mono ?_; rintro e' w1 ⟨rfl, q1⟩; have F1 := Aside0.mk (frt F0.out q1); clear q1)) | (go_at_call 56; go_must (refine HS1.out.mono ?_; rintro e' w0 ⟨v0, rfl, q1, q2⟩; have F0 := Aside0.mk q2; clear q1 q2)))
          go_ret
          exact ⟨rfl, F1.out.no⟩
        · have hub : ((u : Int) == 0) = false := by simp; omega
          have HSE := Aside0.mk hseal
          have hlen := (open_seal hseal).2
          have hpos : 0 < bb.length := by
            unfold sealF at hseal
            split at hseal
            · cases hseal
            · injection hseal with hseal
              rw [← hseal, sealedB, List.length_append]
              show 0 < _ + 4
              omega
          have HBY := Aside0.mk (seal_byt HK.out HPB.out hseal)
          obtain ⟨n, hn⟩ : ∃ n, bb.length = n := ⟨_, rfl⟩
          obtain ⟨f, hf, hfc⟩ := burst_place at_ (8 * n) (by omega) (by omega)
          have HN := Aside0.mk hn
          rw [hn] at hlen hpos
          have HSB := Aside0.mk (small_bound (n := n) (by omega))
          have e8 : (((8 * n : Nat)) : Int) = 8 * (n : Int) := by omega
          rw [e8] at hfc
          have hni : (n : Int) ≤ 16777216 := by omega
          have hnp : (0 : Int) < 8 * (n : Int) := by omega
          have HS2 := Aside0.mk (show Calls Try.prog 56 #[.int .u8 k, .slice A N c] w fun e w' => ∃ v, e = .returned (.tuple #[v, .int .i64 0]) ∧ Win w' w.heap.size 5 1 v n (nums .u8 bb) ∧ Fr No w w' from HS1.out.mono fun e w' h => by
            obtain ⟨v, h1, h2, h3⟩ := h
            unfold Acc at h2
            rw [hn] at h2
            exact ⟨v, h1, h2, h3⟩)
          clear hseal hu0 hn e8 hlen
          rcases hfc with ⟨hneg, hwr⟩ | ⟨hneg, hwr⟩
          all_goals
            go_wp2_with (first | (at_builtin; go_must (refine wpl_append w1 w.heap.size rfl (.tmp 69) (.tmp 70) 22 22 5 (.int .u8 0) 1 1 (.slice 5) rfl Try.underlying22 Try.underlying22 (.inl ⟨_, rfl⟩) info5 rfl (.slice none 0 0) 0 [] (.slice A0 n c0) n (nums .u8 bb) rfl rfl (Win.nil _ _ _ _) (Src.of_rd (RdV.of_win Q1.out) (by rw [nums_length, HN.out, Nat.mul_one]) (nums_one _ _)) F1.out.size (by rw [Nat.zero_add]; exact HSB.out.1) (by rw [Nat.zero_add]; exact HSB.out.2) ?_; intro v2 w2 g1 _ g3 _; have Q2 := Aside0.mk (show Win w2 w.heap.size 5 1 v2 n (nums .u8 bb) from by simpa using g1); have F2 := Aside0.mk (frt F1.out (g3.mono (fun k hk h => (At.none h).elim) : Fr No w1 w2)); clear g1 g3)) | (go_at_call 55; go_must (refine (awake4_any _).mono ?_; rintro e' w1 ⟨rfl, q1⟩; have F1 := Aside0.mk (frt F0.out q1); have Q1 := Aside0.mk (Q0.out.below q1.no); clear q1)) | (go_at_call 56; go_must (refine HS2.out.mono ?_; rintro e' w0 ⟨v0, rfl, q1, q2⟩; obtain ⟨A0, c0, e0, l0⟩ := q1.shape; subst e0; have Q0 := Aside0.mk q1; have F0 := Aside0.mk q2; clear q1 q2)))
            obtain ⟨g, off, c2, rfl⟩ : ∃ g off c2, v2 = .slice (some ⟨g, off, none⟩) n c2 := by
              obtain ⟨A2, c2, hv, _⟩ := Q2.out.shape
              subst hv
              obtain ⟨g, off, hA⟩ := ApB.win_pos Q2.out hpos
              subst hA
              exact ⟨g, off, c2, rfl⟩
            have HB0 := Aside0.mk (show BurSt w2 w.heap.size (.slice (some ⟨g, off, none⟩) n c2) bb f u 0 false from ⟨bb, rfl, HBY.out, by rw [Nat.pow_zero, Nat.mod_one, Nat.zero_mul, Nat.xor_zero], by unfold Acc; rw [HN.out]; exact Q2.out, by simp [Nat.mod_one]⟩)
            go_loopw [16, 17] (fun v16 v17 wr => ∃ (j : Nat) (hit : Bool), v17 = .int .i64 j ∧ v16 = .bool hit ∧ j ≤ 32 ∧ f + j ≤ 8 * n ∧ Aside0 (BurSt wr w.heap.size (.slice (some ⟨g, off, none⟩) n c2) bb f u j hit ∧ Fr No w wr)) (fun _ v17 _ => 32 - (intOf v17).toNat)
            case atStart => exact ⟨0, false, rfl, rfl, by omega, by omega, ⟨HB0.out, F2.out⟩⟩
            case round =>
              obtain ⟨j, hit, rfl, rfl, hj, hfj, HT⟩ := hrel
              by_cases hgo : j < 32 ∧ f + j < 8 * n
              · obtain ⟨hj2, hfj2⟩ := hgo
                have hfi : (f : Int) + (j : Int) < 8 * (n : Int) := by omega
                obtain ⟨m2, e2, hm2⟩ : ∃ m : Nat, Go.bits .and .u32 ((u : Int) / 2 ^ j) 1 = (m : Int) ∧ Aside0 (m = u / 2 ^ j % 2) := ⟨_, by
                  have h := and1_u32 (u / 2 ^ j) (Nat.lt_of_le_of_lt (Nat.div_le_self _ _) HU.out)
                  rw [show ((u / 2 ^ j : Nat) : Int) = (u : Int) / 2 ^ j from by norm_cast] at h
                  exact h, ⟨rfl⟩⟩
                by_cases hbit : m2 = 1
                · have hb1 : ((m2 : Int) == 1) = true := by simp [hbit]
                  obtain ⟨z, z0, z1, hc, hfz, HT2, HF2⟩ := HT.out.1.turn HN.out.symm hfj2 (hm2.out ▸ hbit)
                  clear hbit
                  have HT3 := Aside0.mk HT2
                  have HF3 := Aside0.mk HF2
                  have HBX := Aside0.mk (byte_xor' z0 z1 (r := (f + j) % 8) (by omega))
                  clear HT2 HF2
                  go_wp2_with fail
                  go_roundw
                  case rel => exact ⟨j + 1, true, by simp, rfl, by omega, by omega, ⟨by rw [HBX.out]; exact HT3.out, by rw [HBX.out]; exact own_step HT.out.2 (BurSt.win HT.out.1).choose_spec HF3.out⟩⟩
                  case measure => simp [intOf]; omega
                · have hb1 : ((m2 : Int) == 1) = false := by simp; omega
                  have HSK := Aside0.mk (HT.out.1.skip (hm2.out ▸ hbit))
                  clear hbit
                  go_wp2_with fail
                  go_roundw
                  case rel => exact ⟨j + 1, hit, by simp, rfl, by omega, by omega, ⟨HSK.out, HT.out.2⟩⟩
                  case measure => simp [intOf]; omega
              · have hout : ¬ j < 32 ∨ (j < 32 ∧ ¬ f + j < 8 * n) := by omega
                have hex : ∀ x : World, True := fun _ => trivial
                clear hgo hex
                cases hit
                · rcases hout with ho | ⟨ho, ho2⟩
                  · go_wp2_with fail
                    go_ret
                    exact ⟨rfl, HT.out.2.no⟩
                  · have ho3 : ¬ ((f : Int) + (j : Int) < 8 * (n : Int)) := by omega
                    go_wp2_with fail
                    go_ret
                    exact ⟨rfl, HT.out.2.no⟩
                · obtain ⟨x, x1, x2, x3, x4, x5⟩ := HT.out.1
                  have hbad : ∀ k', badF k' x = true := fun k' => burst_open HK.out HPB.out HSE.out x2 x1 (by rw [HN.out]; omega) x3 (by simpa using x5) (Nat.lt_of_le_of_lt (Nat.mod_le _ _) HU.out)
                  have hxl : x.length = n := x1.trans HN.out
                  have hW : Win wr w.heap.size 5 1 (.slice (some ⟨g, off, none⟩) n c2) n (nums .u8 x) := by unfold Acc at x4; rwa [hxl] at x4
                  have HBD := Aside0.mk (fun (W : World) (k' : Int) (h : Below wr.heap.size wr W) => (by
                    have := bad_any W k' (some ⟨g, off, none⟩) n c2 x ((RdV.of_win hW).below h) hxl x2 (fun e => nomatch e) (win_cap hW) (by omega)
                    rwa [hbad k'] at this : Calls Try.prog 66 #[.int .u8 k', .slice (some ⟨g, off, none⟩) n c2] W fun e w' => e = .returned (.bool true) ∧ Fr No W w'))
                  have hkd := kind_any wr (some ⟨g, off, none⟩) n c2 x (RdV.of_win hW) hxl x2 (win_cap hW) (by omega)
                  obtain ⟨kk, ok, hK⟩ : ∃ kk ok, kindF x = (kk, ok) := ⟨_, _, rfl⟩
                  rw [hK] at hkd
                  have HKD := Aside0.mk hkd
                  clear x1 x2 x3 x4 x5 hbad hxl hW hkd hK
                  rcases hout with ho | ⟨ho, ho2⟩
                  · cases ok
                    · go_wp2_with (first | (go_at_call 66; go_must (refine (HBD.out _ _ (Below.refl _ _)).mono ?_; rintro e' w5 ⟨rfl, q1⟩; have F5 := Aside0.mk q1; clear q1)) | (go_at_call 62; go_must (refine HKD.out.mono ?_; rintro e' _ ⟨rfl, rfl⟩)))
                      go_ret
                      exact ⟨rfl, (frt HT.out.2 F5.out).no⟩
                    · go_wp2_with (first | (go_at_call 66; refine (HBD.out _ _ F5.out.no).mono ?_; rintro e' w6 ⟨rfl, q1⟩; have F6 := Aside0.mk (frt F5.out q1); clear q1) | (go_at_call 66; go_must (refine (HBD.out _ _ (Below.refl _ _)).mono ?_; rintro e' w5 ⟨rfl, q1⟩; have F5 := Aside0.mk q1; clear q1)) | (go_at_call 62; go_must (refine HKD.out.mono ?_; rintro e' _ ⟨rfl, rfl⟩)))
                      go_ret
                      exact ⟨rfl, (frt HT.out.2 F6.out).no⟩
                  · have ho3 : ¬ ((f : Int) + (j : Int) < 8 * (n : Int)) := by omega
                    cases ok
                    · go_wp2_with (first | (go_at_call 66; go_must (refine (HBD.out _ _ (Below.refl _ _)).mono ?_; rintro e' w5 ⟨rfl, q1⟩; have F5 := Aside0.mk q1; clear q1)) | (go_at_call 62; go_must (refine HKD.out.mono ?_; rintro e' _ ⟨rfl, rfl⟩)))
                      go_ret
                      exact ⟨rfl, (frt HT.out.2 F5.out).no⟩
                    · go_wp2_with (first | (go_at_call 66; refine (HBD.out _ _ F5.out.no).mono ?_; rintro e' w6 ⟨rfl, q1⟩; have F6 := Aside0.mk (frt F5.out q1); clear q1) | (go_at_call 66; go_must (refine (HBD.out _ _ (Below.refl _ _)).mono ?_; rintro e' w5 ⟨rfl, q1⟩; have F5 := Aside0.mk q1; clear q1)) | (go_at_call 62; go_must (refine HKD.out.mono ?_; rintro e' _ ⟨rfl, rfl⟩)))
                      go_ret
                      exact ⟨rfl, (frt HT.out.2 F6.out).no⟩
      · go_wp2_with (first | (go_at_call 55; go_must (refine (awake4_any _).mono ?_; rintro e' w1 ⟨rfl, q1⟩; have F1 := Aside0.mk (frt F0.out q1); clear q1)) | (go_at_call 56; go_must (refine HS1.out.mono ?_; rintro e' w0 ⟨v0, rfl, q1, q2⟩; have F0 := Aside0.mk q2; clear q1 q2)))
        go_ret
        exact ⟨rfl, F1.out.no⟩
theorem u32_wf {u : Int} (h : (Lit.int .u32 u).wf = true) : 0 ≤ u ∧ u < 4294967296 := by
  have h' : decide (IntKind.u32.min ≤ u) && decide (u ≤ IntKind.u32.max) := h
  have h0 : IntKind.u32.min = 0 := by decide +kernel
  have h1 : IntKind.u32.max = 4294967295 := by decide +kernel
  rw [h0, h1] at h'
  simp at h'
  omega
theorem FrameBursts_row (w : World) {k at_ u : Int} {a : Option Addr} {n c : Nat} {L : List (Value × List Int)} (hq : (Lit.int .u8 k).wf = true) (h : RdB w a n c L ∧ n ≤ 5864062014634 ∧ ∀ p ∈ L, p.2.length ≤ 140737488351232) (h2 : (Lit.int .i64 at_).wf = true) (h3 : (Lit.int .u32 u).wf = true) :
    Calls Try.prog 14 #[.int .u8 k, .slice a n c, .int .i64 at_, .int .u32 u] w fun e w' => e = .returned (.bool true) ∧ Below w.heap.size w w' := by
  obtain ⟨g0, g1⟩ := u32_wf h3
  obtain ⟨q, rfl⟩ := Int.eq_ofNat_of_zero_le g0
  exact FrameBursts_any w k a n c L at_ q (u8_wf hq) h.1 h.2.2 (i64_wf h2).1 (i64_wf h2).2 (by omega)
end Go.Proofs.Ytchcimkmjoegdaa.C
