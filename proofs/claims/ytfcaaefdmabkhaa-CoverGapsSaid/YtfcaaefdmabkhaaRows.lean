/-
  No cell of these rows narrows 'for every input' (looked for: loops, veiled, ifaces, maps, wideKeys, modest, calm, conditions, laid).
  DERIVED. THE GIVEN ROWS OF THIS SEAT. 12 by the template 'for every input the law returns true; each argument reads behind the call as it read before'; 0 by the template 'total and deterministic' (their statements: YtfcaaefdmabkhaaTotals.lean).
  GIVEN WITH THE SEED: the statements are not yours to turn. If you find one false, say at which input.
  Laid BY PROGRAM, IN A SANDBOX (cutbox-rows.mjs): the forced cells as the released guide's own fill.sh prints them over the translation cbfbb648a0c495f2… (all of the seat's roots in one cut). By AI agents, Wed Nov 11 2026. No macro, syntax, notation, axiom, sorry.
-/
import Derived.Test.YtfcaaefdmabkhaaChecked
import GoSem.Claim
import GoSem.ClaimJoined
import GoSem.ClaimMapViews
import Derived.JoinedTies
import Derived.KernelRfl
namespace Go.Proofs.Ytfcaaefdmabkhaa
/- THE CELL 'sum', in the pinned program and in every row, IS THE sha256 OF THE DUMP (.gsa) THAT YtfcaaefdmabkhaaProg.lean LOADS. Nothing in Lean hashes anything: it is a label: what it is worth is what the hold of that sum in a sandbox is worth. -/
noncomputable def Try.pinned : Pinned := { name := "ytfcaaefdmabkhaa", sum := "cbfbb648a0c495f294ff24423ae7227cecd46f30e3940feb44eb80e009f4459f", checked := Try.checked }
namespace Rows
def none {H : Type} : Left H := { results := [], args := [] }

/-- 'contangolaw34.CoverLacks': WHATEVER THE INPUT: true; the input reads as it did. -/
def coverLacksSpec : ChangeSpec := { name := "coverLacks", fn := fun _ => fun
  | [d1, d2] => { results := [.lit (.bool true)], args := [d1, d2] }
  | _ => none }
def coverLacksRow : OpenClaim := { program := "ytfcaaefdmabkhaa", sum := "cbfbb648a0c495f294ff24423ae7227cecd46f30e3940feb44eb80e009f4459f", func := "contango/contangolaw34.CoverLacks", spec := "coverLacks", unfollowed := true, recurses := true, named := ["math/bits.divideError", "math/bits.overflowError"], apart := false }
def CoverLacksSaid : Prop := coverLacksRow.holds Try.pinned (OpenSpec.ofChange coverLacksSpec)

/-- ITS FALSE NEIGHBOUR: 'it returns false'. Refute it at one input. -/
def coverLacksWrong : ChangeSpec := { name := "coverLacks", fn := fun _ => fun
  | [d1, d2] => { results := [.lit (.bool false)], args := [d1, d2] }
  | _ => none }
def CoverLacksWrongFalsely : Prop := coverLacksRow.holds Try.pinned (OpenSpec.ofChange coverLacksWrong)

/-- 'contangolaw34.CoverAll': WHATEVER THE INPUT: true; the input reads as it did. -/
def coverAllSpec : ChangeSpec := { name := "coverAll", fn := fun _ => fun
  | [d1, d2] => { results := [.lit (.bool true)], args := [d1, d2] }
  | _ => none }
def coverAllRow : OpenClaim := { program := "ytfcaaefdmabkhaa", sum := "cbfbb648a0c495f294ff24423ae7227cecd46f30e3940feb44eb80e009f4459f", func := "contango/contangolaw34.CoverAll", spec := "coverAll", unfollowed := true, recurses := true, named := ["math/bits.divideError", "math/bits.overflowError"], apart := false }
def CoverAllSaid : Prop := coverAllRow.holds Try.pinned (OpenSpec.ofChange coverAllSpec)

/-- ITS FALSE NEIGHBOUR: 'it returns false'. Refute it at one input. -/
def coverAllWrong : ChangeSpec := { name := "coverAll", fn := fun _ => fun
  | [d1, d2] => { results := [.lit (.bool false)], args := [d1, d2] }
  | _ => none }
def CoverAllWrongFalsely : Prop := coverAllRow.holds Try.pinned (OpenSpec.ofChange coverAllWrong)

/-- 'contangolaw34.CoverGaps': WHATEVER THE INPUT: true; the input reads as it did. -/
def coverGapsSpec : ChangeSpec := { name := "coverGaps", fn := fun _ => fun
  | [d1, d2] => { results := [.lit (.bool true)], args := [d1, d2] }
  | _ => none }
def coverGapsRow : OpenClaim := { program := "ytfcaaefdmabkhaa", sum := "cbfbb648a0c495f294ff24423ae7227cecd46f30e3940feb44eb80e009f4459f", func := "contango/contangolaw34.CoverGaps", spec := "coverGaps", unfollowed := true, recurses := true, named := ["math/bits.divideError", "math/bits.overflowError"], apart := false }
def CoverGapsSaid : Prop := coverGapsRow.holds Try.pinned (OpenSpec.ofChange coverGapsSpec)

/-- ITS FALSE NEIGHBOUR: 'it returns false'. Refute it at one input. -/
def coverGapsWrong : ChangeSpec := { name := "coverGaps", fn := fun _ => fun
  | [d1, d2] => { results := [.lit (.bool false)], args := [d1, d2] }
  | _ => none }
def CoverGapsWrongFalsely : Prop := coverGapsRow.holds Try.pinned (OpenSpec.ofChange coverGapsWrong)

/-- 'contangolaw34.CoverLeast': WHATEVER THE INPUT: true; the input reads as it did. -/
def coverLeastSpec : ChangeSpec := { name := "coverLeast", fn := fun _ => fun
  | [d1, d2, d3] => { results := [.lit (.bool true)], args := [d1, d2, d3] }
  | _ => none }
def coverLeastRow : OpenClaim := { program := "ytfcaaefdmabkhaa", sum := "cbfbb648a0c495f294ff24423ae7227cecd46f30e3940feb44eb80e009f4459f", func := "contango/contangolaw34.CoverLeast", spec := "coverLeast", unfollowed := true, recurses := true, named := ["math/bits.divideError", "math/bits.overflowError"], apart := false }
def CoverLeastSaid : Prop := coverLeastRow.holds Try.pinned (OpenSpec.ofChange coverLeastSpec)

/-- ITS FALSE NEIGHBOUR: 'it returns false'. Refute it at one input. -/
def coverLeastWrong : ChangeSpec := { name := "coverLeast", fn := fun _ => fun
  | [d1, d2, d3] => { results := [.lit (.bool false)], args := [d1, d2, d3] }
  | _ => none }
def CoverLeastWrongFalsely : Prop := coverLeastRow.holds Try.pinned (OpenSpec.ofChange coverLeastWrong)

/-- 'contangolaw34.CoverCalls': WHATEVER THE INPUT: true; the input reads as it did. -/
def coverCallsSpec : ChangeSpec := { name := "coverCalls", fn := fun _ => fun
  | [d1, d2, d3] => { results := [.lit (.bool true)], args := [d1, d2, d3] }
  | _ => none }
def coverCallsRow : OpenClaim := { program := "ytfcaaefdmabkhaa", sum := "cbfbb648a0c495f294ff24423ae7227cecd46f30e3940feb44eb80e009f4459f", func := "contango/contangolaw34.CoverCalls", spec := "coverCalls", unfollowed := true, recurses := true, named := ["math/bits.divideError", "math/bits.overflowError"], apart := false }
def CoverCallsSaid : Prop := coverCallsRow.holds Try.pinned (OpenSpec.ofChange coverCallsSpec)

/-- ITS FALSE NEIGHBOUR: 'it returns false'. Refute it at one input. -/
def coverCallsWrong : ChangeSpec := { name := "coverCalls", fn := fun _ => fun
  | [d1, d2, d3] => { results := [.lit (.bool false)], args := [d1, d2, d3] }
  | _ => none }
def CoverCallsWrongFalsely : Prop := coverCallsRow.holds Try.pinned (OpenSpec.ofChange coverCallsWrong)

/-- 'contangolaw33.LimitCounts': WHATEVER THE INPUT: true; the input reads as it did. -/
def limitCountsSpec : ChangeSpec := { name := "limitCounts", fn := fun _ => fun
  | [d] => { results := [.lit (.bool true)], args := [d] }
  | _ => none }
def limitCountsRow : OpenClaim := { program := "ytfcaaefdmabkhaa", sum := "cbfbb648a0c495f294ff24423ae7227cecd46f30e3940feb44eb80e009f4459f", func := "contango/contangolaw33.LimitCounts", spec := "limitCounts", unfollowed := true, recurses := true, named := ["math/bits.divideError", "math/bits.overflowError"], apart := false }
def LimitCountsSaid : Prop := limitCountsRow.holds Try.pinned (OpenSpec.ofChange limitCountsSpec)

/-- ITS FALSE NEIGHBOUR: 'it returns false'. Refute it at one input. -/
def limitCountsWrong : ChangeSpec := { name := "limitCounts", fn := fun _ => fun
  | [d] => { results := [.lit (.bool false)], args := [d] }
  | _ => none }
def LimitCountsWrongFalsely : Prop := limitCountsRow.holds Try.pinned (OpenSpec.ofChange limitCountsWrong)

/-- 'contangolaw33.LimitFree': WHATEVER THE INPUT: true; the input reads as it did. -/
def limitFreeSpec : ChangeSpec := { name := "limitFree", fn := fun _ => fun
  | [d1, d2] => { results := [.lit (.bool true)], args := [d1, d2] }
  | _ => none }
def limitFreeRow : OpenClaim := { program := "ytfcaaefdmabkhaa", sum := "cbfbb648a0c495f294ff24423ae7227cecd46f30e3940feb44eb80e009f4459f", func := "contango/contangolaw33.LimitFree", spec := "limitFree", unfollowed := true, recurses := true, named := ["math/bits.divideError", "math/bits.overflowError"], apart := false }
def LimitFreeSaid : Prop := limitFreeRow.holds Try.pinned (OpenSpec.ofChange limitFreeSpec)

/-- ITS FALSE NEIGHBOUR: 'it returns false'. Refute it at one input. -/
def limitFreeWrong : ChangeSpec := { name := "limitFree", fn := fun _ => fun
  | [d1, d2] => { results := [.lit (.bool false)], args := [d1, d2] }
  | _ => none }
def LimitFreeWrongFalsely : Prop := limitFreeRow.holds Try.pinned (OpenSpec.ofChange limitFreeWrong)

/-- 'contangolaw33.LimitKinds': WHATEVER THE INPUT: true; the input reads as it did. -/
def limitKindsSpec : ChangeSpec := { name := "limitKinds", fn := fun _ => fun
  | [d] => { results := [.lit (.bool true)], args := [d] }
  | _ => none }
def limitKindsRow : OpenClaim := { program := "ytfcaaefdmabkhaa", sum := "cbfbb648a0c495f294ff24423ae7227cecd46f30e3940feb44eb80e009f4459f", func := "contango/contangolaw33.LimitKinds", spec := "limitKinds", unfollowed := true, recurses := true, named := ["math/bits.divideError", "math/bits.overflowError"], apart := false }
def LimitKindsSaid : Prop := limitKindsRow.holds Try.pinned (OpenSpec.ofChange limitKindsSpec)

/-- ITS FALSE NEIGHBOUR: 'it returns false'. Refute it at one input. -/
def limitKindsWrong : ChangeSpec := { name := "limitKinds", fn := fun _ => fun
  | [d] => { results := [.lit (.bool false)], args := [d] }
  | _ => none }
def LimitKindsWrongFalsely : Prop := limitKindsRow.holds Try.pinned (OpenSpec.ofChange limitKindsWrong)

/-- 'contangolaw33.LimitFrees': WHATEVER THE INPUT: true; the input reads as it did. -/
def limitFreesSpec : ChangeSpec := { name := "limitFrees", fn := fun _ => fun
  | [d1, d2] => { results := [.lit (.bool true)], args := [d1, d2] }
  | _ => none }
def limitFreesRow : OpenClaim := { program := "ytfcaaefdmabkhaa", sum := "cbfbb648a0c495f294ff24423ae7227cecd46f30e3940feb44eb80e009f4459f", func := "contango/contangolaw33.LimitFrees", spec := "limitFrees", unfollowed := true, recurses := true, named := ["math/bits.divideError", "math/bits.overflowError"], apart := false }
def LimitFreesSaid : Prop := limitFreesRow.holds Try.pinned (OpenSpec.ofChange limitFreesSpec)

/-- ITS FALSE NEIGHBOUR: 'it returns false'. Refute it at one input. -/
def limitFreesWrong : ChangeSpec := { name := "limitFrees", fn := fun _ => fun
  | [d1, d2] => { results := [.lit (.bool false)], args := [d1, d2] }
  | _ => none }
def LimitFreesWrongFalsely : Prop := limitFreesRow.holds Try.pinned (OpenSpec.ofChange limitFreesWrong)

/-- 'contangolaw33.LimitCaps': WHATEVER THE INPUT: true; the input reads as it did. -/
def limitCapsSpec : ChangeSpec := { name := "limitCaps", fn := fun _ => fun
  | [d] => { results := [.lit (.bool true)], args := [d] }
  | _ => none }
def limitCapsRow : OpenClaim := { program := "ytfcaaefdmabkhaa", sum := "cbfbb648a0c495f294ff24423ae7227cecd46f30e3940feb44eb80e009f4459f", func := "contango/contangolaw33.LimitCaps", spec := "limitCaps", unfollowed := true, recurses := true, named := ["math/bits.divideError", "math/bits.overflowError"], apart := false }
def LimitCapsSaid : Prop := limitCapsRow.holds Try.pinned (OpenSpec.ofChange limitCapsSpec)

/-- ITS FALSE NEIGHBOUR: 'it returns false'. Refute it at one input. -/
def limitCapsWrong : ChangeSpec := { name := "limitCaps", fn := fun _ => fun
  | [d] => { results := [.lit (.bool false)], args := [d] }
  | _ => none }
def LimitCapsWrongFalsely : Prop := limitCapsRow.holds Try.pinned (OpenSpec.ofChange limitCapsWrong)

/-- 'contangotop.TopCoverFree': WHATEVER THE INPUT: true; the input reads as it did. -/
def topCoverFreeSpec : ChangeSpec := { name := "topCoverFree", fn := fun _ => fun
  | [d] => { results := [.lit (.bool true)], args := [d] }
  | _ => none }
def topCoverFreeRow : OpenClaim := { program := "ytfcaaefdmabkhaa", sum := "cbfbb648a0c495f294ff24423ae7227cecd46f30e3940feb44eb80e009f4459f", func := "contango/contangotop.TopCoverFree", spec := "topCoverFree", unfollowed := true, recurses := true, named := ["math/bits.divideError", "math/bits.overflowError"], apart := false }
def TopCoverFreeSaid : Prop := topCoverFreeRow.holds Try.pinned (OpenSpec.ofChange topCoverFreeSpec)

/-- ITS FALSE NEIGHBOUR: 'it returns false'. Refute it at one input. -/
def topCoverFreeWrong : ChangeSpec := { name := "topCoverFree", fn := fun _ => fun
  | [d] => { results := [.lit (.bool false)], args := [d] }
  | _ => none }
def TopCoverFreeWrongFalsely : Prop := topCoverFreeRow.holds Try.pinned (OpenSpec.ofChange topCoverFreeWrong)

/-- 'contangotop.TopCoverCloses': WHATEVER THE INPUT: true; the input reads as it did. -/
def topCoverClosesSpec : ChangeSpec := { name := "topCoverCloses", fn := fun _ => fun
  | [d] => { results := [.lit (.bool true)], args := [d] }
  | _ => none }
def topCoverClosesRow : OpenClaim := { program := "ytfcaaefdmabkhaa", sum := "cbfbb648a0c495f294ff24423ae7227cecd46f30e3940feb44eb80e009f4459f", func := "contango/contangotop.TopCoverCloses", spec := "topCoverCloses", unfollowed := true, recurses := true, named := ["math/bits.divideError", "math/bits.overflowError"], apart := false }
def TopCoverClosesSaid : Prop := topCoverClosesRow.holds Try.pinned (OpenSpec.ofChange topCoverClosesSpec)

/-- ITS FALSE NEIGHBOUR: 'it returns false'. Refute it at one input. -/
def topCoverClosesWrong : ChangeSpec := { name := "topCoverCloses", fn := fun _ => fun
  | [d] => { results := [.lit (.bool false)], args := [d] }
  | _ => none }
def TopCoverClosesWrongFalsely : Prop := topCoverClosesRow.holds Try.pinned (OpenSpec.ofChange topCoverClosesWrong)

/- THE SECOND FORM. 'bulk': how many values and letters a reading holds, each counted each time it is reached (what is shared counts as often as it is met; a slice's spare places count too). A statement '..UptoSaid' is the law's where the arguments, and the package variables that the reading takes, are together of bulk at most 1048576: NARROWER than '..Said'. Prove '..Said' where nothing that the law and all that it calls make is longer than what came in: it says more and counts as full. Else prove '..UptoSaid'. A law counts once. -/
mutual
def uptoBulk {H : Type} : DataW H → Nat
  | .lit (.string bytes) => bytes.length + 1
  | .lit _ => 1
  | .nil => 1
  | .ptr d => uptoBulk d + 1
  | .slice elems spare => uptoBulkAll elems + uptoBulkAll spare + 1
  | .agg parts => uptoBulkAll parts + 1
  | .iface _ d => uptoBulk d + 1
  | .map entries => uptoBulkEntries entries + 1
  | .held _ => 1
def uptoBulkAll {H : Type} : List (DataW H) → Nat
  | [] => 0
  | d :: r => uptoBulk d + uptoBulkAll r
def uptoBulkEntries {H : Type} : List (Lit × DataW H) → Nat
  | [] => 0
  | x :: r => uptoBulkEntry x + uptoBulkEntries r
def uptoBulkEntry {H : Type} : Lit × DataW H → Nat
  | (.string bytes, d) => bytes.length + uptoBulk d + 1
  | (_, d) => uptoBulk d + 1
 end
def uptoSmall : (H : Type) → List (DataW H) → Bool := fun _ ds => decide (uptoBulkAll ds ≤ 1048576)
def OpenSpec.upto (s : _root_.Go.ChangeSpec) : _root_.Go.OpenSpec := { _root_.Go.OpenSpec.ofChange s with cond := some uptoSmall }

/-- 'contangolaw34.CoverLacks', WHERE WHAT IT READS IS OF BULK AT MOST 1048576: true; the input reads as it did. -/
def coverLacksUptoRow : OpenClaim := { program := "ytfcaaefdmabkhaa", sum := "cbfbb648a0c495f294ff24423ae7227cecd46f30e3940feb44eb80e009f4459f", func := "contango/contangolaw34.CoverLacks", spec := "coverLacks", unfollowed := true, recurses := true, named := ["math/bits.divideError", "math/bits.overflowError"], apart := false, narrowed := true }
def CoverLacksUptoSaid : Prop := coverLacksUptoRow.holds Try.pinned (OpenSpec.upto coverLacksSpec)

/-- 'contangolaw34.CoverAll', WHERE WHAT IT READS IS OF BULK AT MOST 1048576: true; the input reads as it did. -/
def coverAllUptoRow : OpenClaim := { program := "ytfcaaefdmabkhaa", sum := "cbfbb648a0c495f294ff24423ae7227cecd46f30e3940feb44eb80e009f4459f", func := "contango/contangolaw34.CoverAll", spec := "coverAll", unfollowed := true, recurses := true, named := ["math/bits.divideError", "math/bits.overflowError"], apart := false, narrowed := true }
def CoverAllUptoSaid : Prop := coverAllUptoRow.holds Try.pinned (OpenSpec.upto coverAllSpec)

/-- 'contangolaw34.CoverGaps', WHERE WHAT IT READS IS OF BULK AT MOST 1048576: true; the input reads as it did. -/
def coverGapsUptoRow : OpenClaim := { program := "ytfcaaefdmabkhaa", sum := "cbfbb648a0c495f294ff24423ae7227cecd46f30e3940feb44eb80e009f4459f", func := "contango/contangolaw34.CoverGaps", spec := "coverGaps", unfollowed := true, recurses := true, named := ["math/bits.divideError", "math/bits.overflowError"], apart := false, narrowed := true }
def CoverGapsUptoSaid : Prop := coverGapsUptoRow.holds Try.pinned (OpenSpec.upto coverGapsSpec)

/-- 'contangolaw34.CoverLeast', WHERE WHAT IT READS IS OF BULK AT MOST 1048576: true; the input reads as it did. -/
def coverLeastUptoRow : OpenClaim := { program := "ytfcaaefdmabkhaa", sum := "cbfbb648a0c495f294ff24423ae7227cecd46f30e3940feb44eb80e009f4459f", func := "contango/contangolaw34.CoverLeast", spec := "coverLeast", unfollowed := true, recurses := true, named := ["math/bits.divideError", "math/bits.overflowError"], apart := false, narrowed := true }
def CoverLeastUptoSaid : Prop := coverLeastUptoRow.holds Try.pinned (OpenSpec.upto coverLeastSpec)

/-- 'contangolaw34.CoverCalls', WHERE WHAT IT READS IS OF BULK AT MOST 1048576: true; the input reads as it did. -/
def coverCallsUptoRow : OpenClaim := { program := "ytfcaaefdmabkhaa", sum := "cbfbb648a0c495f294ff24423ae7227cecd46f30e3940feb44eb80e009f4459f", func := "contango/contangolaw34.CoverCalls", spec := "coverCalls", unfollowed := true, recurses := true, named := ["math/bits.divideError", "math/bits.overflowError"], apart := false, narrowed := true }
def CoverCallsUptoSaid : Prop := coverCallsUptoRow.holds Try.pinned (OpenSpec.upto coverCallsSpec)

/-- 'contangolaw33.LimitCounts', WHERE WHAT IT READS IS OF BULK AT MOST 1048576: true; the input reads as it did. -/
def limitCountsUptoRow : OpenClaim := { program := "ytfcaaefdmabkhaa", sum := "cbfbb648a0c495f294ff24423ae7227cecd46f30e3940feb44eb80e009f4459f", func := "contango/contangolaw33.LimitCounts", spec := "limitCounts", unfollowed := true, recurses := true, named := ["math/bits.divideError", "math/bits.overflowError"], apart := false, narrowed := true }
def LimitCountsUptoSaid : Prop := limitCountsUptoRow.holds Try.pinned (OpenSpec.upto limitCountsSpec)

/-- 'contangolaw33.LimitFree', WHERE WHAT IT READS IS OF BULK AT MOST 1048576: true; the input reads as it did. -/
def limitFreeUptoRow : OpenClaim := { program := "ytfcaaefdmabkhaa", sum := "cbfbb648a0c495f294ff24423ae7227cecd46f30e3940feb44eb80e009f4459f", func := "contango/contangolaw33.LimitFree", spec := "limitFree", unfollowed := true, recurses := true, named := ["math/bits.divideError", "math/bits.overflowError"], apart := false, narrowed := true }
def LimitFreeUptoSaid : Prop := limitFreeUptoRow.holds Try.pinned (OpenSpec.upto limitFreeSpec)

/-- 'contangolaw33.LimitKinds', WHERE WHAT IT READS IS OF BULK AT MOST 1048576: true; the input reads as it did. -/
def limitKindsUptoRow : OpenClaim := { program := "ytfcaaefdmabkhaa", sum := "cbfbb648a0c495f294ff24423ae7227cecd46f30e3940feb44eb80e009f4459f", func := "contango/contangolaw33.LimitKinds", spec := "limitKinds", unfollowed := true, recurses := true, named := ["math/bits.divideError", "math/bits.overflowError"], apart := false, narrowed := true }
def LimitKindsUptoSaid : Prop := limitKindsUptoRow.holds Try.pinned (OpenSpec.upto limitKindsSpec)

/-- 'contangolaw33.LimitFrees', WHERE WHAT IT READS IS OF BULK AT MOST 1048576: true; the input reads as it did. -/
def limitFreesUptoRow : OpenClaim := { program := "ytfcaaefdmabkhaa", sum := "cbfbb648a0c495f294ff24423ae7227cecd46f30e3940feb44eb80e009f4459f", func := "contango/contangolaw33.LimitFrees", spec := "limitFrees", unfollowed := true, recurses := true, named := ["math/bits.divideError", "math/bits.overflowError"], apart := false, narrowed := true }
def LimitFreesUptoSaid : Prop := limitFreesUptoRow.holds Try.pinned (OpenSpec.upto limitFreesSpec)

/-- 'contangolaw33.LimitCaps', WHERE WHAT IT READS IS OF BULK AT MOST 1048576: true; the input reads as it did. -/
def limitCapsUptoRow : OpenClaim := { program := "ytfcaaefdmabkhaa", sum := "cbfbb648a0c495f294ff24423ae7227cecd46f30e3940feb44eb80e009f4459f", func := "contango/contangolaw33.LimitCaps", spec := "limitCaps", unfollowed := true, recurses := true, named := ["math/bits.divideError", "math/bits.overflowError"], apart := false, narrowed := true }
def LimitCapsUptoSaid : Prop := limitCapsUptoRow.holds Try.pinned (OpenSpec.upto limitCapsSpec)

/-- 'contangotop.TopCoverFree', WHERE WHAT IT READS IS OF BULK AT MOST 1048576: true; the input reads as it did. -/
def topCoverFreeUptoRow : OpenClaim := { program := "ytfcaaefdmabkhaa", sum := "cbfbb648a0c495f294ff24423ae7227cecd46f30e3940feb44eb80e009f4459f", func := "contango/contangotop.TopCoverFree", spec := "topCoverFree", unfollowed := true, recurses := true, named := ["math/bits.divideError", "math/bits.overflowError"], apart := false, narrowed := true }
def TopCoverFreeUptoSaid : Prop := topCoverFreeUptoRow.holds Try.pinned (OpenSpec.upto topCoverFreeSpec)

/-- 'contangotop.TopCoverCloses', WHERE WHAT IT READS IS OF BULK AT MOST 1048576: true; the input reads as it did. -/
def topCoverClosesUptoRow : OpenClaim := { program := "ytfcaaefdmabkhaa", sum := "cbfbb648a0c495f294ff24423ae7227cecd46f30e3940feb44eb80e009f4459f", func := "contango/contangotop.TopCoverCloses", spec := "topCoverCloses", unfollowed := true, recurses := true, named := ["math/bits.divideError", "math/bits.overflowError"], apart := false, narrowed := true }
def TopCoverClosesUptoSaid : Prop := topCoverClosesUptoRow.holds Try.pinned (OpenSpec.upto topCoverClosesSpec)

end Rows
end Go.Proofs.Ytfcaaefdmabkhaa
