/-
  No cell of these rows narrows 'for every input' (looked for: loops, veiled, ifaces, maps, wideKeys, modest, calm, conditions, laid).
  DERIVED. THE GIVEN ROWS OF THIS SEAT. 15 by the template 'for every input the law returns true; each argument reads behind the call as it read before'; 0 by the template 'total and deterministic' (their statements: YtchcimkmjoegdaaTotals.lean).
  GIVEN WITH THE SEED: the statements are not yours to turn. If you find one false, say at which input.
  Laid BY PROGRAM, IN A SANDBOX (cutbox-rows.mjs): the forced cells as the released guide's own fill.sh prints them over the translation ae6f43042988d5df… (all of the seat's roots in one cut). By AI agents, Wed Nov 11 2026. No macro, syntax, notation, axiom, sorry.
-/
import Derived.Test.YtchcimkmjoegdaaChecked
import GoSem.Claim
import GoSem.ClaimJoined
import GoSem.ClaimMapViews
import Derived.JoinedTies
import Derived.KernelRfl
namespace Go.Proofs.Ytchcimkmjoegdaa
/- THE CELL 'sum', in the pinned program and in every row, IS THE sha256 OF THE DUMP (.gsa) THAT YtchcimkmjoegdaaProg.lean LOADS. Nothing in Lean hashes anything: it is a label: what it is worth is what the hold of that sum in a sandbox is worth. -/
noncomputable def Try.pinned : Pinned := { name := "ytchcimkmjoegdaa", sum := "ae6f43042988d5dff4b24e5fab6f257b2c306344d7d08e5571796fcc51fff58d", checked := Try.checked }
namespace Rows
def none {H : Type} : Left H := { results := [], args := [] }

/-- 'lecternlaw02.CodecOne': WHATEVER THE INPUT: true; the input reads as it did. -/
def codecOneSpec : ChangeSpec := { name := "codecOne", fn := fun _ => fun
  | [d] => { results := [.lit (.bool true)], args := [d] }
  | _ => none }
def codecOneRow : OpenClaim := { program := "ytchcimkmjoegdaa", sum := "ae6f43042988d5dff4b24e5fab6f257b2c306344d7d08e5571796fcc51fff58d", func := "lectern/lecternlaw02.CodecOne", spec := "codecOne", unfollowed := true, recurses := true, apart := false }
def CodecOneSaid : Prop := codecOneRow.holds Try.pinned (OpenSpec.ofChange codecOneSpec)

/-- ITS FALSE NEIGHBOUR: 'it returns false'. Refute it at one input. -/
def codecOneWrong : ChangeSpec := { name := "codecOne", fn := fun _ => fun
  | [d] => { results := [.lit (.bool false)], args := [d] }
  | _ => none }
def CodecOneWrongFalsely : Prop := codecOneRow.holds Try.pinned (OpenSpec.ofChange codecOneWrong)

/-- 'lecternlaw02.CodecPuts': WHATEVER THE INPUT: true; the input reads as it did. -/
def codecPutsSpec : ChangeSpec := { name := "codecPuts", fn := fun _ => fun
  | [d1, d2, d3, d4] => { results := [.lit (.bool true)], args := [d1, d2, d3, d4] }
  | _ => none }
def codecPutsRow : OpenClaim := { program := "ytchcimkmjoegdaa", sum := "ae6f43042988d5dff4b24e5fab6f257b2c306344d7d08e5571796fcc51fff58d", func := "lectern/lecternlaw02.CodecPuts", spec := "codecPuts", unfollowed := true, recurses := true, apart := false }
def CodecPutsSaid : Prop := codecPutsRow.holds Try.pinned (OpenSpec.ofChange codecPutsSpec)

/-- ITS FALSE NEIGHBOUR: 'it returns false'. Refute it at one input. -/
def codecPutsWrong : ChangeSpec := { name := "codecPuts", fn := fun _ => fun
  | [d1, d2, d3, d4] => { results := [.lit (.bool false)], args := [d1, d2, d3, d4] }
  | _ => none }
def CodecPutsWrongFalsely : Prop := codecPutsRow.holds Try.pinned (OpenSpec.ofChange codecPutsWrong)

/-- 'lecternlaw02.CodecBack': WHATEVER THE INPUT: true; the input reads as it did. -/
def codecBackSpec : ChangeSpec := { name := "codecBack", fn := fun _ => fun
  | [d1, d2, d3, d4] => { results := [.lit (.bool true)], args := [d1, d2, d3, d4] }
  | _ => none }
def codecBackRow : OpenClaim := { program := "ytchcimkmjoegdaa", sum := "ae6f43042988d5dff4b24e5fab6f257b2c306344d7d08e5571796fcc51fff58d", func := "lectern/lecternlaw02.CodecBack", spec := "codecBack", unfollowed := true, recurses := true, apart := false }
def CodecBackSaid : Prop := codecBackRow.holds Try.pinned (OpenSpec.ofChange codecBackSpec)

/-- ITS FALSE NEIGHBOUR: 'it returns false'. Refute it at one input. -/
def codecBackWrong : ChangeSpec := { name := "codecBack", fn := fun _ => fun
  | [d1, d2, d3, d4] => { results := [.lit (.bool false)], args := [d1, d2, d3, d4] }
  | _ => none }
def CodecBackWrongFalsely : Prop := codecBackRow.holds Try.pinned (OpenSpec.ofChange codecBackWrong)

/-- 'lecternlaw11.StoredOpens': WHATEVER THE INPUT: true; the input reads as it did. -/
def storedOpensSpec : ChangeSpec := { name := "storedOpens", fn := fun _ => fun
  | [d1, d2] => { results := [.lit (.bool true)], args := [d1, d2] }
  | _ => none }
def storedOpensRow : OpenClaim := { program := "ytchcimkmjoegdaa", sum := "ae6f43042988d5dff4b24e5fab6f257b2c306344d7d08e5571796fcc51fff58d", func := "lectern/lecternlaw11.StoredOpens", spec := "storedOpens", unfollowed := true, recurses := true, apart := false }
def StoredOpensSaid : Prop := storedOpensRow.holds Try.pinned (OpenSpec.ofChange storedOpensSpec)

/-- ITS FALSE NEIGHBOUR: 'it returns false'. Refute it at one input. -/
def storedOpensWrong : ChangeSpec := { name := "storedOpens", fn := fun _ => fun
  | [d1, d2] => { results := [.lit (.bool false)], args := [d1, d2] }
  | _ => none }
def StoredOpensWrongFalsely : Prop := storedOpensRow.holds Try.pinned (OpenSpec.ofChange storedOpensWrong)

/-- 'lecternlaw11.StoredBack': WHATEVER THE INPUT: true; the input reads as it did. -/
def storedBackSpec : ChangeSpec := { name := "storedBack", fn := fun _ => fun
  | [d] => { results := [.lit (.bool true)], args := [d] }
  | _ => none }
def storedBackRow : OpenClaim := { program := "ytchcimkmjoegdaa", sum := "ae6f43042988d5dff4b24e5fab6f257b2c306344d7d08e5571796fcc51fff58d", func := "lectern/lecternlaw11.StoredBack", spec := "storedBack", unfollowed := true, recurses := true, apart := false }
def StoredBackSaid : Prop := storedBackRow.holds Try.pinned (OpenSpec.ofChange storedBackSpec)

/-- ITS FALSE NEIGHBOUR: 'it returns false'. Refute it at one input. -/
def storedBackWrong : ChangeSpec := { name := "storedBack", fn := fun _ => fun
  | [d] => { results := [.lit (.bool false)], args := [d] }
  | _ => none }
def StoredBackWrongFalsely : Prop := storedBackRow.holds Try.pinned (OpenSpec.ofChange storedBackWrong)

/-- 'lecternlaw02.CodecReads': WHATEVER THE INPUT: true; the input reads as it did. -/
def codecReadsSpec : ChangeSpec := { name := "codecReads", fn := fun _ => fun
  | [d1, d2] => { results := [.lit (.bool true)], args := [d1, d2] }
  | _ => none }
def codecReadsRow : OpenClaim := { program := "ytchcimkmjoegdaa", sum := "ae6f43042988d5dff4b24e5fab6f257b2c306344d7d08e5571796fcc51fff58d", func := "lectern/lecternlaw02.CodecReads", spec := "codecReads", unfollowed := true, recurses := true, apart := false }
def CodecReadsSaid : Prop := codecReadsRow.holds Try.pinned (OpenSpec.ofChange codecReadsSpec)

/-- ITS FALSE NEIGHBOUR: 'it returns false'. Refute it at one input. -/
def codecReadsWrong : ChangeSpec := { name := "codecReads", fn := fun _ => fun
  | [d1, d2] => { results := [.lit (.bool false)], args := [d1, d2] }
  | _ => none }
def CodecReadsWrongFalsely : Prop := codecReadsRow.holds Try.pinned (OpenSpec.ofChange codecReadsWrong)

/-- 'lecternlaw02.CodecKnown': WHATEVER THE INPUT: true; the input reads as it did. -/
def codecKnownSpec : ChangeSpec := { name := "codecKnown", fn := fun _ => fun
  | [] => { results := [.lit (.bool true)], args := [] }
  | _ => none }
def codecKnownRow : OpenClaim := { program := "ytchcimkmjoegdaa", sum := "ae6f43042988d5dff4b24e5fab6f257b2c306344d7d08e5571796fcc51fff58d", func := "lectern/lecternlaw02.CodecKnown", spec := "codecKnown", unfollowed := true, recurses := true, apart := false }
def CodecKnownSaid : Prop := codecKnownRow.holds Try.pinned (OpenSpec.ofChange codecKnownSpec)

/-- ITS FALSE NEIGHBOUR: 'it returns false'. Refute it at one input. -/
def codecKnownWrong : ChangeSpec := { name := "codecKnown", fn := fun _ => fun
  | [] => { results := [.lit (.bool false)], args := [] }
  | _ => none }
def CodecKnownWrongFalsely : Prop := codecKnownRow.holds Try.pinned (OpenSpec.ofChange codecKnownWrong)

/-- 'lecternlaw04.FrameSeals': WHATEVER THE INPUT: true; the input reads as it did. -/
def frameSealsSpec : ChangeSpec := { name := "frameSeals", fn := fun _ => fun
  | [d1, d2] => { results := [.lit (.bool true)], args := [d1, d2] }
  | _ => none }
def frameSealsRow : OpenClaim := { program := "ytchcimkmjoegdaa", sum := "ae6f43042988d5dff4b24e5fab6f257b2c306344d7d08e5571796fcc51fff58d", func := "lectern/lecternlaw04.FrameSeals", spec := "frameSeals", unfollowed := true, recurses := true, apart := false }
def FrameSealsSaid : Prop := frameSealsRow.holds Try.pinned (OpenSpec.ofChange frameSealsSpec)

/-- ITS FALSE NEIGHBOUR: 'it returns false'. Refute it at one input. -/
def frameSealsWrong : ChangeSpec := { name := "frameSeals", fn := fun _ => fun
  | [d1, d2] => { results := [.lit (.bool false)], args := [d1, d2] }
  | _ => none }
def FrameSealsWrongFalsely : Prop := frameSealsRow.holds Try.pinned (OpenSpec.ofChange frameSealsWrong)

/-- 'lecternlaw04.FrameOpens': WHATEVER THE INPUT: true; the input reads as it did. -/
def frameOpensSpec : ChangeSpec := { name := "frameOpens", fn := fun _ => fun
  | [d1, d2] => { results := [.lit (.bool true)], args := [d1, d2] }
  | _ => none }
def frameOpensRow : OpenClaim := { program := "ytchcimkmjoegdaa", sum := "ae6f43042988d5dff4b24e5fab6f257b2c306344d7d08e5571796fcc51fff58d", func := "lectern/lecternlaw04.FrameOpens", spec := "frameOpens", unfollowed := true, recurses := true, apart := false }
def FrameOpensSaid : Prop := frameOpensRow.holds Try.pinned (OpenSpec.ofChange frameOpensSpec)

/-- ITS FALSE NEIGHBOUR: 'it returns false'. Refute it at one input. -/
def frameOpensWrong : ChangeSpec := { name := "frameOpens", fn := fun _ => fun
  | [d1, d2] => { results := [.lit (.bool false)], args := [d1, d2] }
  | _ => none }
def FrameOpensWrongFalsely : Prop := frameOpensRow.holds Try.pinned (OpenSpec.ofChange frameOpensWrong)

/-- 'lecternlaw04.FrameKnown': WHATEVER THE INPUT: true; the input reads as it did. -/
def frameKnownSpec : ChangeSpec := { name := "frameKnown", fn := fun _ => fun
  | [] => { results := [.lit (.bool true)], args := [] }
  | _ => none }
def frameKnownRow : OpenClaim := { program := "ytchcimkmjoegdaa", sum := "ae6f43042988d5dff4b24e5fab6f257b2c306344d7d08e5571796fcc51fff58d", func := "lectern/lecternlaw04.FrameKnown", spec := "frameKnown", unfollowed := true, recurses := true, apart := false }
def FrameKnownSaid : Prop := frameKnownRow.holds Try.pinned (OpenSpec.ofChange frameKnownSpec)

/-- ITS FALSE NEIGHBOUR: 'it returns false'. Refute it at one input. -/
def frameKnownWrong : ChangeSpec := { name := "frameKnown", fn := fun _ => fun
  | [] => { results := [.lit (.bool false)], args := [] }
  | _ => none }
def FrameKnownWrongFalsely : Prop := frameKnownRow.holds Try.pinned (OpenSpec.ofChange frameKnownWrong)

/-- 'lecternlaw04.FrameBack': WHATEVER THE INPUT: true; the input reads as it did. -/
def frameBackSpec : ChangeSpec := { name := "frameBack", fn := fun _ => fun
  | [d1, d2, d3] => { results := [.lit (.bool true)], args := [d1, d2, d3] }
  | _ => none }
def frameBackRow : OpenClaim := { program := "ytchcimkmjoegdaa", sum := "ae6f43042988d5dff4b24e5fab6f257b2c306344d7d08e5571796fcc51fff58d", func := "lectern/lecternlaw04.FrameBack", spec := "frameBack", unfollowed := true, recurses := true, apart := false }
def FrameBackSaid : Prop := frameBackRow.holds Try.pinned (OpenSpec.ofChange frameBackSpec)

/-- ITS FALSE NEIGHBOUR: 'it returns false'. Refute it at one input. -/
def frameBackWrong : ChangeSpec := { name := "frameBack", fn := fun _ => fun
  | [d1, d2, d3] => { results := [.lit (.bool false)], args := [d1, d2, d3] }
  | _ => none }
def FrameBackWrongFalsely : Prop := frameBackRow.holds Try.pinned (OpenSpec.ofChange frameBackWrong)

/-- 'lecternlaw04.FrameBursts': WHATEVER THE INPUT: true; the input reads as it did. -/
def frameBurstsSpec : ChangeSpec := { name := "frameBursts", fn := fun _ => fun
  | [d1, d2, d3, d4] => { results := [.lit (.bool true)], args := [d1, d2, d3, d4] }
  | _ => none }
def frameBurstsRow : OpenClaim := { program := "ytchcimkmjoegdaa", sum := "ae6f43042988d5dff4b24e5fab6f257b2c306344d7d08e5571796fcc51fff58d", func := "lectern/lecternlaw04.FrameBursts", spec := "frameBursts", unfollowed := true, recurses := true, apart := false }
def FrameBurstsSaid : Prop := frameBurstsRow.holds Try.pinned (OpenSpec.ofChange frameBurstsSpec)

/-- ITS FALSE NEIGHBOUR: 'it returns false'. Refute it at one input. -/
def frameBurstsWrong : ChangeSpec := { name := "frameBursts", fn := fun _ => fun
  | [d1, d2, d3, d4] => { results := [.lit (.bool false)], args := [d1, d2, d3, d4] }
  | _ => none }
def FrameBurstsWrongFalsely : Prop := frameBurstsRow.holds Try.pinned (OpenSpec.ofChange frameBurstsWrong)

/-- 'lecternlaw11.StoredBuilds': WHATEVER THE INPUT: true; the input reads as it did. -/
def storedBuildsSpec : ChangeSpec := { name := "storedBuilds", fn := fun _ => fun
  | [d] => { results := [.lit (.bool true)], args := [d] }
  | _ => none }
def storedBuildsRow : OpenClaim := { program := "ytchcimkmjoegdaa", sum := "ae6f43042988d5dff4b24e5fab6f257b2c306344d7d08e5571796fcc51fff58d", func := "lectern/lecternlaw11.StoredBuilds", spec := "storedBuilds", unfollowed := true, recurses := true, apart := false }
def StoredBuildsSaid : Prop := storedBuildsRow.holds Try.pinned (OpenSpec.ofChange storedBuildsSpec)

/-- ITS FALSE NEIGHBOUR: 'it returns false'. Refute it at one input. -/
def storedBuildsWrong : ChangeSpec := { name := "storedBuilds", fn := fun _ => fun
  | [d] => { results := [.lit (.bool false)], args := [d] }
  | _ => none }
def StoredBuildsWrongFalsely : Prop := storedBuildsRow.holds Try.pinned (OpenSpec.ofChange storedBuildsWrong)

/-- 'lecternlaw11.StoredCut': WHATEVER THE INPUT: true; the input reads as it did. -/
def storedCutSpec : ChangeSpec := { name := "storedCut", fn := fun _ => fun
  | [d1, d2, d3] => { results := [.lit (.bool true)], args := [d1, d2, d3] }
  | _ => none }
def storedCutRow : OpenClaim := { program := "ytchcimkmjoegdaa", sum := "ae6f43042988d5dff4b24e5fab6f257b2c306344d7d08e5571796fcc51fff58d", func := "lectern/lecternlaw11.StoredCut", spec := "storedCut", unfollowed := true, recurses := true, apart := false }
def StoredCutSaid : Prop := storedCutRow.holds Try.pinned (OpenSpec.ofChange storedCutSpec)

/-- ITS FALSE NEIGHBOUR: 'it returns false'. Refute it at one input. -/
def storedCutWrong : ChangeSpec := { name := "storedCut", fn := fun _ => fun
  | [d1, d2, d3] => { results := [.lit (.bool false)], args := [d1, d2, d3] }
  | _ => none }
def StoredCutWrongFalsely : Prop := storedCutRow.holds Try.pinned (OpenSpec.ofChange storedCutWrong)

/-- 'lecternlaw11.StoredOwn': WHATEVER THE INPUT: true; the input reads as it did. -/
def storedOwnSpec : ChangeSpec := { name := "storedOwn", fn := fun _ => fun
  | [d] => { results := [.lit (.bool true)], args := [d] }
  | _ => none }
def storedOwnRow : OpenClaim := { program := "ytchcimkmjoegdaa", sum := "ae6f43042988d5dff4b24e5fab6f257b2c306344d7d08e5571796fcc51fff58d", func := "lectern/lecternlaw11.StoredOwn", spec := "storedOwn", unfollowed := true, recurses := true, apart := false }
def StoredOwnSaid : Prop := storedOwnRow.holds Try.pinned (OpenSpec.ofChange storedOwnSpec)

/-- ITS FALSE NEIGHBOUR: 'it returns false'. Refute it at one input. -/
def storedOwnWrong : ChangeSpec := { name := "storedOwn", fn := fun _ => fun
  | [d] => { results := [.lit (.bool false)], args := [d] }
  | _ => none }
def StoredOwnWrongFalsely : Prop := storedOwnRow.holds Try.pinned (OpenSpec.ofChange storedOwnWrong)

/- THE SECOND FORM. 'bulk': how many values and letters a reading holds, each counted each time it is reached (what is shared counts as often as it is met; a slice's spare places count too). A statement '..UptoSaid' is the law's where the arguments, and the package variables that the reading takes, are together of bulk at most 1048576: NARROWER than '..Said'. Prove '..Said' where nothing that the law and all that it calls make is longer than what came in: it says more and counts as full. Else prove '..UptoSaid'. A law counts once. -/
mutual
def uptoBulk {H : Type} : DataW H → Nat
  | .lit (.string bytes) => bytes.length + 1
  | .lit _ => 1
  | .nil => 1
  | .ptr d => uptoBulk d + 1
  | .slice elems spare => uptoBulkAll elems + uptoBulkAll spare + 1
  | .agg parts => uptoBulkAll parts + 1
  | .iface _ d => uptoBulk d + 1
  | .map entries => uptoBulkEntries entries + 1
  | .held _ => 1
def uptoBulkAll {H : Type} : List (DataW H) → Nat
  | [] => 0
  | d :: r => uptoBulk d + uptoBulkAll r
def uptoBulkEntries {H : Type} : List (Lit × DataW H) → Nat
  | [] => 0
  | x :: r => uptoBulkEntry x + uptoBulkEntries r
def uptoBulkEntry {H : Type} : Lit × DataW H → Nat
  | (.string bytes, d) => bytes.length + uptoBulk d + 1
  | (_, d) => uptoBulk d + 1
 end
def uptoSmall : (H : Type) → List (DataW H) → Bool := fun _ ds => decide (uptoBulkAll ds ≤ 1048576)
def OpenSpec.upto (s : _root_.Go.ChangeSpec) : _root_.Go.OpenSpec := { _root_.Go.OpenSpec.ofChange s with cond := some uptoSmall }

/-- 'lecternlaw02.CodecOne', WHERE WHAT IT READS IS OF BULK AT MOST 1048576: true; the input reads as it did. -/
def codecOneUptoRow : OpenClaim := { program := "ytchcimkmjoegdaa", sum := "ae6f43042988d5dff4b24e5fab6f257b2c306344d7d08e5571796fcc51fff58d", func := "lectern/lecternlaw02.CodecOne", spec := "codecOne", unfollowed := true, recurses := true, apart := false, narrowed := true }
def CodecOneUptoSaid : Prop := codecOneUptoRow.holds Try.pinned (OpenSpec.upto codecOneSpec)

/-- 'lecternlaw02.CodecPuts', WHERE WHAT IT READS IS OF BULK AT MOST 1048576: true; the input reads as it did. -/
def codecPutsUptoRow : OpenClaim := { program := "ytchcimkmjoegdaa", sum := "ae6f43042988d5dff4b24e5fab6f257b2c306344d7d08e5571796fcc51fff58d", func := "lectern/lecternlaw02.CodecPuts", spec := "codecPuts", unfollowed := true, recurses := true, apart := false, narrowed := true }
def CodecPutsUptoSaid : Prop := codecPutsUptoRow.holds Try.pinned (OpenSpec.upto codecPutsSpec)

/-- 'lecternlaw02.CodecBack', WHERE WHAT IT READS IS OF BULK AT MOST 1048576: true; the input reads as it did. -/
def codecBackUptoRow : OpenClaim := { program := "ytchcimkmjoegdaa", sum := "ae6f43042988d5dff4b24e5fab6f257b2c306344d7d08e5571796fcc51fff58d", func := "lectern/lecternlaw02.CodecBack", spec := "codecBack", unfollowed := true, recurses := true, apart := false, narrowed := true }
def CodecBackUptoSaid : Prop := codecBackUptoRow.holds Try.pinned (OpenSpec.upto codecBackSpec)

/-- 'lecternlaw11.StoredOpens', WHERE WHAT IT READS IS OF BULK AT MOST 1048576: true; the input reads as it did. -/
def storedOpensUptoRow : OpenClaim := { program := "ytchcimkmjoegdaa", sum := "ae6f43042988d5dff4b24e5fab6f257b2c306344d7d08e5571796fcc51fff58d", func := "lectern/lecternlaw11.StoredOpens", spec := "storedOpens", unfollowed := true, recurses := true, apart := false, narrowed := true }
def StoredOpensUptoSaid : Prop := storedOpensUptoRow.holds Try.pinned (OpenSpec.upto storedOpensSpec)

/-- 'lecternlaw11.StoredBack', WHERE WHAT IT READS IS OF BULK AT MOST 1048576: true; the input reads as it did. -/
def storedBackUptoRow : OpenClaim := { program := "ytchcimkmjoegdaa", sum := "ae6f43042988d5dff4b24e5fab6f257b2c306344d7d08e5571796fcc51fff58d", func := "lectern/lecternlaw11.StoredBack", spec := "storedBack", unfollowed := true, recurses := true, apart := false, narrowed := true }
def StoredBackUptoSaid : Prop := storedBackUptoRow.holds Try.pinned (OpenSpec.upto storedBackSpec)

/-- 'lecternlaw02.CodecReads', WHERE WHAT IT READS IS OF BULK AT MOST 1048576: true; the input reads as it did. -/
def codecReadsUptoRow : OpenClaim := { program := "ytchcimkmjoegdaa", sum := "ae6f43042988d5dff4b24e5fab6f257b2c306344d7d08e5571796fcc51fff58d", func := "lectern/lecternlaw02.CodecReads", spec := "codecReads", unfollowed := true, recurses := true, apart := false, narrowed := true }
def CodecReadsUptoSaid : Prop := codecReadsUptoRow.holds Try.pinned (OpenSpec.upto codecReadsSpec)

/-- 'lecternlaw02.CodecKnown', WHERE WHAT IT READS IS OF BULK AT MOST 1048576: true; the input reads as it did. -/
def codecKnownUptoRow : OpenClaim := { program := "ytchcimkmjoegdaa", sum := "ae6f43042988d5dff4b24e5fab6f257b2c306344d7d08e5571796fcc51fff58d", func := "lectern/lecternlaw02.CodecKnown", spec := "codecKnown", unfollowed := true, recurses := true, apart := false, narrowed := true }
def CodecKnownUptoSaid : Prop := codecKnownUptoRow.holds Try.pinned (OpenSpec.upto codecKnownSpec)

/-- 'lecternlaw04.FrameSeals', WHERE WHAT IT READS IS OF BULK AT MOST 1048576: true; the input reads as it did. -/
def frameSealsUptoRow : OpenClaim := { program := "ytchcimkmjoegdaa", sum := "ae6f43042988d5dff4b24e5fab6f257b2c306344d7d08e5571796fcc51fff58d", func := "lectern/lecternlaw04.FrameSeals", spec := "frameSeals", unfollowed := true, recurses := true, apart := false, narrowed := true }
def FrameSealsUptoSaid : Prop := frameSealsUptoRow.holds Try.pinned (OpenSpec.upto frameSealsSpec)

/-- 'lecternlaw04.FrameOpens', WHERE WHAT IT READS IS OF BULK AT MOST 1048576: true; the input reads as it did. -/
def frameOpensUptoRow : OpenClaim := { program := "ytchcimkmjoegdaa", sum := "ae6f43042988d5dff4b24e5fab6f257b2c306344d7d08e5571796fcc51fff58d", func := "lectern/lecternlaw04.FrameOpens", spec := "frameOpens", unfollowed := true, recurses := true, apart := false, narrowed := true }
def FrameOpensUptoSaid : Prop := frameOpensUptoRow.holds Try.pinned (OpenSpec.upto frameOpensSpec)

/-- 'lecternlaw04.FrameKnown', WHERE WHAT IT READS IS OF BULK AT MOST 1048576: true; the input reads as it did. -/
def frameKnownUptoRow : OpenClaim := { program := "ytchcimkmjoegdaa", sum := "ae6f43042988d5dff4b24e5fab6f257b2c306344d7d08e5571796fcc51fff58d", func := "lectern/lecternlaw04.FrameKnown", spec := "frameKnown", unfollowed := true, recurses := true, apart := false, narrowed := true }
def FrameKnownUptoSaid : Prop := frameKnownUptoRow.holds Try.pinned (OpenSpec.upto frameKnownSpec)

/-- 'lecternlaw04.FrameBack', WHERE WHAT IT READS IS OF BULK AT MOST 1048576: true; the input reads as it did. -/
def frameBackUptoRow : OpenClaim := { program := "ytchcimkmjoegdaa", sum := "ae6f43042988d5dff4b24e5fab6f257b2c306344d7d08e5571796fcc51fff58d", func := "lectern/lecternlaw04.FrameBack", spec := "frameBack", unfollowed := true, recurses := true, apart := false, narrowed := true }
def FrameBackUptoSaid : Prop := frameBackUptoRow.holds Try.pinned (OpenSpec.upto frameBackSpec)

/-- 'lecternlaw04.FrameBursts', WHERE WHAT IT READS IS OF BULK AT MOST 1048576: true; the input reads as it did. -/
def frameBurstsUptoRow : OpenClaim := { program := "ytchcimkmjoegdaa", sum := "ae6f43042988d5dff4b24e5fab6f257b2c306344d7d08e5571796fcc51fff58d", func := "lectern/lecternlaw04.FrameBursts", spec := "frameBursts", unfollowed := true, recurses := true, apart := false, narrowed := true }
def FrameBurstsUptoSaid : Prop := frameBurstsUptoRow.holds Try.pinned (OpenSpec.upto frameBurstsSpec)

/-- 'lecternlaw11.StoredBuilds', WHERE WHAT IT READS IS OF BULK AT MOST 1048576: true; the input reads as it did. -/
def storedBuildsUptoRow : OpenClaim := { program := "ytchcimkmjoegdaa", sum := "ae6f43042988d5dff4b24e5fab6f257b2c306344d7d08e5571796fcc51fff58d", func := "lectern/lecternlaw11.StoredBuilds", spec := "storedBuilds", unfollowed := true, recurses := true, apart := false, narrowed := true }
def StoredBuildsUptoSaid : Prop := storedBuildsUptoRow.holds Try.pinned (OpenSpec.upto storedBuildsSpec)

/-- 'lecternlaw11.StoredCut', WHERE WHAT IT READS IS OF BULK AT MOST 1048576: true; the input reads as it did. -/
def storedCutUptoRow : OpenClaim := { program := "ytchcimkmjoegdaa", sum := "ae6f43042988d5dff4b24e5fab6f257b2c306344d7d08e5571796fcc51fff58d", func := "lectern/lecternlaw11.StoredCut", spec := "storedCut", unfollowed := true, recurses := true, apart := false, narrowed := true }
def StoredCutUptoSaid : Prop := storedCutUptoRow.holds Try.pinned (OpenSpec.upto storedCutSpec)

/-- 'lecternlaw11.StoredOwn', WHERE WHAT IT READS IS OF BULK AT MOST 1048576: true; the input reads as it did. -/
def storedOwnUptoRow : OpenClaim := { program := "ytchcimkmjoegdaa", sum := "ae6f43042988d5dff4b24e5fab6f257b2c306344d7d08e5571796fcc51fff58d", func := "lectern/lecternlaw11.StoredOwn", spec := "storedOwn", unfollowed := true, recurses := true, apart := false, narrowed := true }
def StoredOwnUptoSaid : Prop := storedOwnUptoRow.holds Try.pinned (OpenSpec.upto storedOwnSpec)

end Rows
end Go.Proofs.Ytchcimkmjoegdaa
