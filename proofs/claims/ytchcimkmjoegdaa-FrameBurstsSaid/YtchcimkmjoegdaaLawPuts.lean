/- CodecPuts' walk, in the row's terms: for every bytes, numbers and string of the row the call answers true. Conditions: the sizes of the given '..Upto' statement. -/
import Derived.Test.YtchcimkmjoegdaaPuts
namespace Go.Proofs.Ytchcimkmjoegdaa.C
open Go.RowKit Go.Proofs.YtchcimkmjoegdaaW.PrintWords Go.Proofs.YtchcimkmjoegdaaW.PrintMore Go.Proofs.Ytchcimkmjoegdaa.M

theorem u64_wf {u : Int} (h : (Lit.int .u64 u).wf = true) : 0 ≤ u ∧ u < 18446744073709551616 := by
  have h' : decide (IntKind.u64.min ≤ u) && decide (u ≤ IntKind.u64.max) := h
  have h0 : IntKind.u64.min = 0 := by decide +kernel
  have h1 : IntKind.u64.max = 18446744073709551615 := by decide +kernel
  rw [h0, h1] at h'
  simp at h'
  omega
theorem i64_wf {u : Int} (h : (Lit.int .i64 u).wf = true) : -9223372036854775808 ≤ u ∧ u ≤ 9223372036854775807 := by
  have h' : decide (IntKind.i64.min ≤ u) && decide (u ≤ IntKind.i64.max) := h
  have h0 : IntKind.i64.min = -9223372036854775808 := by decide +kernel
  have h1 : IntKind.i64.max = 9223372036854775807 := by decide +kernel
  rw [h0, h1] at h'
  simp at h'
  omega
theorem CodecPuts_row (w : World) {a : Option Addr} {len cap : Nat} {zs : List Int} (h : (a = none ∧ len = 0 ∧ cap = 0 ∧ zs = []) ∨ ∃ x, a = some x ∧ len ≤ cap ∧ cap ≤ maxLen ∧ zs.length = cap ∧ (∀ i, i < zs.length → w.cell? (x.add i) = some (.int .u8 (zs.getD i 0))) ∧ ∀ n ∈ zs, (Lit.int .u8 n).wf = true) (y : len ≤ 1048576) {u q : Int} (hu : (Lit.int .u64 u).wf = true) (hq : (Lit.int .i64 q).wf = true) {s : ByteArray} (hs : s.size ≤ 1048576) :
    Calls Try.prog 4 #[.slice a len cap, .int .u64 u, .int .i64 q, .string s] w fun e w' => e = .returned (.bool true) ∧ Below w.heap.size w w' := by
  obtain ⟨l, hl, hr, h0, hc, _, hw⟩ := row_read h
  have h1 : 0 ≤ u ∧ u < 18446744073709551616 := Go.Proofs.Ytchcimkmjoegdaa.C.u64_wf hu
  have h2 : -9223372036854775808 ≤ q ∧ q ≤ 9223372036854775807 := i64_wf hq
  obtain ⟨k, rfl⟩ := Int.eq_ofNat_of_zero_le h1.1
  exact CodecPuts_walk w a len cap l k q s hr hl h0 hc (by omega) (by omega) (by rw [M64_eq]; omega) h2.1 h2.2
end Go.Proofs.Ytchcimkmjoegdaa.C
