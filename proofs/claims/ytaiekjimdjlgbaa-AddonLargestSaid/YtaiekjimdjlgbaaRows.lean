/-
  No cell of these rows narrows 'for every input' (looked for: loops, veiled, ifaces, maps, wideKeys, modest, calm, conditions, laid).
  DERIVED. THE GIVEN ROWS OF THIS SEAT. 12 by the template 'for every input the law returns true; each argument reads behind the call as it read before'; 0 by the template 'total and deterministic' (their statements: YtaiekjimdjlgbaaTotals.lean).
  GIVEN WITH THE SEED: the statements are not yours to turn. If you find one false, say at which input.
  Laid BY PROGRAM, IN A SANDBOX (cutbox-rows.mjs): the forced cells as the released guide's own fill.sh prints them over the translation 3396abba379d8081… (all of the seat's roots in one cut). By AI agents, Wed Nov 11 2026. No macro, syntax, notation, axiom, sorry.
-/
import Derived.Test.YtaiekjimdjlgbaaChecked
import GoSem.Claim
import GoSem.ClaimJoined
import GoSem.ClaimMapViews
import Derived.JoinedTies
import Derived.KernelRfl
namespace Go.Proofs.Ytaiekjimdjlgbaa
/- THE CELL 'sum', in the pinned program and in every row, IS THE sha256 OF THE DUMP (.gsa) THAT YtaiekjimdjlgbaaProg.lean LOADS. Nothing in Lean hashes anything: it is a label: what it is worth is what the hold of that sum in a sandbox is worth. -/
noncomputable def Try.pinned : Pinned := { name := "ytaiekjimdjlgbaa", sum := "3396abba379d8081c242bc60b3f15ff167bf552ea3a3c7f7d7455d661e135830", checked := Try.checked }
namespace Rows
def none {H : Type} : Left H := { results := [], args := [] }

/-- 'contangolaw31.AssetWorths': WHATEVER THE INPUT: true; the input reads as it did. -/
def assetWorthsSpec : ChangeSpec := { name := "assetWorths", fn := fun _ => fun
  | [d1, d2, d3] => { results := [.lit (.bool true)], args := [d1, d2, d3] }
  | _ => none }
def assetWorthsRow : OpenClaim := { program := "ytaiekjimdjlgbaa", sum := "3396abba379d8081c242bc60b3f15ff167bf552ea3a3c7f7d7455d661e135830", func := "contango/contangolaw31.AssetWorths", spec := "assetWorths", unfollowed := true, recurses := true, named := ["math/bits.divideError", "math/bits.overflowError"], apart := false }
def AssetWorthsSaid : Prop := assetWorthsRow.holds Try.pinned (OpenSpec.ofChange assetWorthsSpec)

/-- ITS FALSE NEIGHBOUR: 'it returns false'. Refute it at one input. -/
def assetWorthsWrong : ChangeSpec := { name := "assetWorths", fn := fun _ => fun
  | [d1, d2, d3] => { results := [.lit (.bool false)], args := [d1, d2, d3] }
  | _ => none }
def AssetWorthsWrongFalsely : Prop := assetWorthsRow.holds Try.pinned (OpenSpec.ofChange assetWorthsWrong)

/-- 'contangolaw31.AssetUnits': WHATEVER THE INPUT: true; the input reads as it did. -/
def assetUnitsSpec : ChangeSpec := { name := "assetUnits", fn := fun _ => fun
  | [d1, d2, d3] => { results := [.lit (.bool true)], args := [d1, d2, d3] }
  | _ => none }
def assetUnitsRow : OpenClaim := { program := "ytaiekjimdjlgbaa", sum := "3396abba379d8081c242bc60b3f15ff167bf552ea3a3c7f7d7455d661e135830", func := "contango/contangolaw31.AssetUnits", spec := "assetUnits", unfollowed := true, recurses := true, named := ["math/bits.divideError", "math/bits.overflowError"], apart := false }
def AssetUnitsSaid : Prop := assetUnitsRow.holds Try.pinned (OpenSpec.ofChange assetUnitsSpec)

/-- ITS FALSE NEIGHBOUR: 'it returns false'. Refute it at one input. -/
def assetUnitsWrong : ChangeSpec := { name := "assetUnits", fn := fun _ => fun
  | [d1, d2, d3] => { results := [.lit (.bool false)], args := [d1, d2, d3] }
  | _ => none }
def AssetUnitsWrongFalsely : Prop := assetUnitsRow.holds Try.pinned (OpenSpec.ofChange assetUnitsWrong)

/-- 'contangolaw31.AssetLeast': WHATEVER THE INPUT: true; the input reads as it did. -/
def assetLeastSpec : ChangeSpec := { name := "assetLeast", fn := fun _ => fun
  | [d1, d2, d3] => { results := [.lit (.bool true)], args := [d1, d2, d3] }
  | _ => none }
def assetLeastRow : OpenClaim := { program := "ytaiekjimdjlgbaa", sum := "3396abba379d8081c242bc60b3f15ff167bf552ea3a3c7f7d7455d661e135830", func := "contango/contangolaw31.AssetLeast", spec := "assetLeast", unfollowed := true, recurses := true, named := ["math/bits.divideError", "math/bits.overflowError"], apart := false }
def AssetLeastSaid : Prop := assetLeastRow.holds Try.pinned (OpenSpec.ofChange assetLeastSpec)

/-- ITS FALSE NEIGHBOUR: 'it returns false'. Refute it at one input. -/
def assetLeastWrong : ChangeSpec := { name := "assetLeast", fn := fun _ => fun
  | [d1, d2, d3] => { results := [.lit (.bool false)], args := [d1, d2, d3] }
  | _ => none }
def AssetLeastWrongFalsely : Prop := assetLeastRow.holds Try.pinned (OpenSpec.ofChange assetLeastWrong)

/-- 'contangolaw31.AssetRises': WHATEVER THE INPUT: true; the input reads as it did. -/
def assetRisesSpec : ChangeSpec := { name := "assetRises", fn := fun _ => fun
  | [d1, d2, d3] => { results := [.lit (.bool true)], args := [d1, d2, d3] }
  | _ => none }
def assetRisesRow : OpenClaim := { program := "ytaiekjimdjlgbaa", sum := "3396abba379d8081c242bc60b3f15ff167bf552ea3a3c7f7d7455d661e135830", func := "contango/contangolaw31.AssetRises", spec := "assetRises", unfollowed := true, recurses := true, named := ["math/bits.divideError", "math/bits.overflowError"], apart := false }
def AssetRisesSaid : Prop := assetRisesRow.holds Try.pinned (OpenSpec.ofChange assetRisesSpec)

/-- ITS FALSE NEIGHBOUR: 'it returns false'. Refute it at one input. -/
def assetRisesWrong : ChangeSpec := { name := "assetRises", fn := fun _ => fun
  | [d1, d2, d3] => { results := [.lit (.bool false)], args := [d1, d2, d3] }
  | _ => none }
def AssetRisesWrongFalsely : Prop := assetRisesRow.holds Try.pinned (OpenSpec.ofChange assetRisesWrong)

/-- 'contangolaw31.AssetChecks': WHATEVER THE INPUT: true; the input reads as it did. -/
def assetChecksSpec : ChangeSpec := { name := "assetChecks", fn := fun _ => fun
  | [d1, d2, d3] => { results := [.lit (.bool true)], args := [d1, d2, d3] }
  | _ => none }
def assetChecksRow : OpenClaim := { program := "ytaiekjimdjlgbaa", sum := "3396abba379d8081c242bc60b3f15ff167bf552ea3a3c7f7d7455d661e135830", func := "contango/contangolaw31.AssetChecks", spec := "assetChecks", unfollowed := true, recurses := true, named := ["math/bits.divideError", "math/bits.overflowError"], apart := false }
def AssetChecksSaid : Prop := assetChecksRow.holds Try.pinned (OpenSpec.ofChange assetChecksSpec)

/-- ITS FALSE NEIGHBOUR: 'it returns false'. Refute it at one input. -/
def assetChecksWrong : ChangeSpec := { name := "assetChecks", fn := fun _ => fun
  | [d1, d2, d3] => { results := [.lit (.bool false)], args := [d1, d2, d3] }
  | _ => none }
def AssetChecksWrongFalsely : Prop := assetChecksRow.holds Try.pinned (OpenSpec.ofChange assetChecksWrong)

/-- 'contangolaw28.AddonCharges': WHATEVER THE INPUT: true; the input reads as it did. -/
def addonChargesSpec : ChangeSpec := { name := "addonCharges", fn := fun _ => fun
  | [d1, d2] => { results := [.lit (.bool true)], args := [d1, d2] }
  | _ => none }
def addonChargesRow : OpenClaim := { program := "ytaiekjimdjlgbaa", sum := "3396abba379d8081c242bc60b3f15ff167bf552ea3a3c7f7d7455d661e135830", func := "contango/contangolaw28.AddonCharges", spec := "addonCharges", unfollowed := true, recurses := true, named := ["math/bits.divideError", "math/bits.overflowError"], apart := false }
def AddonChargesSaid : Prop := addonChargesRow.holds Try.pinned (OpenSpec.ofChange addonChargesSpec)

/-- ITS FALSE NEIGHBOUR: 'it returns false'. Refute it at one input. -/
def addonChargesWrong : ChangeSpec := { name := "addonCharges", fn := fun _ => fun
  | [d1, d2] => { results := [.lit (.bool false)], args := [d1, d2] }
  | _ => none }
def AddonChargesWrongFalsely : Prop := addonChargesRow.holds Try.pinned (OpenSpec.ofChange addonChargesWrong)

/-- 'contangolaw28.AddonOvers': WHATEVER THE INPUT: true; the input reads as it did. -/
def addonOversSpec : ChangeSpec := { name := "addonOvers", fn := fun _ => fun
  | [d1, d2, d3] => { results := [.lit (.bool true)], args := [d1, d2, d3] }
  | _ => none }
def addonOversRow : OpenClaim := { program := "ytaiekjimdjlgbaa", sum := "3396abba379d8081c242bc60b3f15ff167bf552ea3a3c7f7d7455d661e135830", func := "contango/contangolaw28.AddonOvers", spec := "addonOvers", unfollowed := true, recurses := true, named := ["math/bits.divideError", "math/bits.overflowError"], apart := false }
def AddonOversSaid : Prop := addonOversRow.holds Try.pinned (OpenSpec.ofChange addonOversSpec)

/-- ITS FALSE NEIGHBOUR: 'it returns false'. Refute it at one input. -/
def addonOversWrong : ChangeSpec := { name := "addonOvers", fn := fun _ => fun
  | [d1, d2, d3] => { results := [.lit (.bool false)], args := [d1, d2, d3] }
  | _ => none }
def AddonOversWrongFalsely : Prop := addonOversRow.holds Try.pinned (OpenSpec.ofChange addonOversWrong)

/-- 'contangolaw28.AddonLargest': WHATEVER THE INPUT: true; the input reads as it did. -/
def addonLargestSpec : ChangeSpec := { name := "addonLargest", fn := fun _ => fun
  | [d] => { results := [.lit (.bool true)], args := [d] }
  | _ => none }
def addonLargestRow : OpenClaim := { program := "ytaiekjimdjlgbaa", sum := "3396abba379d8081c242bc60b3f15ff167bf552ea3a3c7f7d7455d661e135830", func := "contango/contangolaw28.AddonLargest", spec := "addonLargest", unfollowed := true, recurses := true, named := ["math/bits.divideError", "math/bits.overflowError"], apart := false }
def AddonLargestSaid : Prop := addonLargestRow.holds Try.pinned (OpenSpec.ofChange addonLargestSpec)

/-- ITS FALSE NEIGHBOUR: 'it returns false'. Refute it at one input. -/
def addonLargestWrong : ChangeSpec := { name := "addonLargest", fn := fun _ => fun
  | [d] => { results := [.lit (.bool false)], args := [d] }
  | _ => none }
def AddonLargestWrongFalsely : Prop := addonLargestRow.holds Try.pinned (OpenSpec.ofChange addonLargestWrong)

/-- 'contangolaw28.AddonRises': WHATEVER THE INPUT: true; the input reads as it did. -/
def addonRisesSpec : ChangeSpec := { name := "addonRises", fn := fun _ => fun
  | [d1, d2, d3] => { results := [.lit (.bool true)], args := [d1, d2, d3] }
  | _ => none }
def addonRisesRow : OpenClaim := { program := "ytaiekjimdjlgbaa", sum := "3396abba379d8081c242bc60b3f15ff167bf552ea3a3c7f7d7455d661e135830", func := "contango/contangolaw28.AddonRises", spec := "addonRises", unfollowed := true, recurses := true, named := ["math/bits.divideError", "math/bits.overflowError"], apart := false }
def AddonRisesSaid : Prop := addonRisesRow.holds Try.pinned (OpenSpec.ofChange addonRisesSpec)

/-- ITS FALSE NEIGHBOUR: 'it returns false'. Refute it at one input. -/
def addonRisesWrong : ChangeSpec := { name := "addonRises", fn := fun _ => fun
  | [d1, d2, d3] => { results := [.lit (.bool false)], args := [d1, d2, d3] }
  | _ => none }
def AddonRisesWrongFalsely : Prop := addonRisesRow.holds Try.pinned (OpenSpec.ofChange addonRisesWrong)

/-- 'contangolaw32.PledgeWorths': WHATEVER THE INPUT: true; the input reads as it did. -/
def pledgeWorthsSpec : ChangeSpec := { name := "pledgeWorths", fn := fun _ => fun
  | [d1, d2, d3] => { results := [.lit (.bool true)], args := [d1, d2, d3] }
  | _ => none }
def pledgeWorthsRow : OpenClaim := { program := "ytaiekjimdjlgbaa", sum := "3396abba379d8081c242bc60b3f15ff167bf552ea3a3c7f7d7455d661e135830", func := "contango/contangolaw32.PledgeWorths", spec := "pledgeWorths", unfollowed := true, recurses := true, named := ["math/bits.divideError", "math/bits.overflowError"], apart := false }
def PledgeWorthsSaid : Prop := pledgeWorthsRow.holds Try.pinned (OpenSpec.ofChange pledgeWorthsSpec)

/-- ITS FALSE NEIGHBOUR: 'it returns false'. Refute it at one input. -/
def pledgeWorthsWrong : ChangeSpec := { name := "pledgeWorths", fn := fun _ => fun
  | [d1, d2, d3] => { results := [.lit (.bool false)], args := [d1, d2, d3] }
  | _ => none }
def PledgeWorthsWrongFalsely : Prop := pledgeWorthsRow.holds Try.pinned (OpenSpec.ofChange pledgeWorthsWrong)

/-- 'contangotop.TopPledgeUnits': WHATEVER THE INPUT: true; the input reads as it did. -/
def topPledgeUnitsSpec : ChangeSpec := { name := "topPledgeUnits", fn := fun _ => fun
  | [d] => { results := [.lit (.bool true)], args := [d] }
  | _ => none }
def topPledgeUnitsRow : OpenClaim := { program := "ytaiekjimdjlgbaa", sum := "3396abba379d8081c242bc60b3f15ff167bf552ea3a3c7f7d7455d661e135830", func := "contango/contangotop.TopPledgeUnits", spec := "topPledgeUnits", unfollowed := true, recurses := true, named := ["math/bits.divideError", "math/bits.overflowError"], apart := false }
def TopPledgeUnitsSaid : Prop := topPledgeUnitsRow.holds Try.pinned (OpenSpec.ofChange topPledgeUnitsSpec)

/-- ITS FALSE NEIGHBOUR: 'it returns false'. Refute it at one input. -/
def topPledgeUnitsWrong : ChangeSpec := { name := "topPledgeUnits", fn := fun _ => fun
  | [d] => { results := [.lit (.bool false)], args := [d] }
  | _ => none }
def TopPledgeUnitsWrongFalsely : Prop := topPledgeUnitsRow.holds Try.pinned (OpenSpec.ofChange topPledgeUnitsWrong)

/-- 'contangotop.TopPledgeMoved': WHATEVER THE INPUT: true; the input reads as it did. -/
def topPledgeMovedSpec : ChangeSpec := { name := "topPledgeMoved", fn := fun _ => fun
  | [d] => { results := [.lit (.bool true)], args := [d] }
  | _ => none }
def topPledgeMovedRow : OpenClaim := { program := "ytaiekjimdjlgbaa", sum := "3396abba379d8081c242bc60b3f15ff167bf552ea3a3c7f7d7455d661e135830", func := "contango/contangotop.TopPledgeMoved", spec := "topPledgeMoved", unfollowed := true, recurses := true, named := ["math/bits.divideError", "math/bits.overflowError"], apart := false }
def TopPledgeMovedSaid : Prop := topPledgeMovedRow.holds Try.pinned (OpenSpec.ofChange topPledgeMovedSpec)

/-- ITS FALSE NEIGHBOUR: 'it returns false'. Refute it at one input. -/
def topPledgeMovedWrong : ChangeSpec := { name := "topPledgeMoved", fn := fun _ => fun
  | [d] => { results := [.lit (.bool false)], args := [d] }
  | _ => none }
def TopPledgeMovedWrongFalsely : Prop := topPledgeMovedRow.holds Try.pinned (OpenSpec.ofChange topPledgeMovedWrong)

/- THE SECOND FORM. 'bulk': how many values and letters a reading holds, each counted each time it is reached (what is shared counts as often as it is met; a slice's spare places count too). A statement '..UptoSaid' is the law's where the arguments, and the package variables that the reading takes, are together of bulk at most 1048576: NARROWER than '..Said'. Prove '..Said' where nothing that the law and all that it calls make is longer than what came in: it says more and counts as full. Else prove '..UptoSaid'. A law counts once. -/
mutual
def uptoBulk {H : Type} : DataW H → Nat
  | .lit (.string bytes) => bytes.length + 1
  | .lit _ => 1
  | .nil => 1
  | .ptr d => uptoBulk d + 1
  | .slice elems spare => uptoBulkAll elems + uptoBulkAll spare + 1
  | .agg parts => uptoBulkAll parts + 1
  | .iface _ d => uptoBulk d + 1
  | .map entries => uptoBulkEntries entries + 1
  | .held _ => 1
def uptoBulkAll {H : Type} : List (DataW H) → Nat
  | [] => 0
  | d :: r => uptoBulk d + uptoBulkAll r
def uptoBulkEntries {H : Type} : List (Lit × DataW H) → Nat
  | [] => 0
  | x :: r => uptoBulkEntry x + uptoBulkEntries r
def uptoBulkEntry {H : Type} : Lit × DataW H → Nat
  | (.string bytes, d) => bytes.length + uptoBulk d + 1
  | (_, d) => uptoBulk d + 1
 end
def uptoSmall : (H : Type) → List (DataW H) → Bool := fun _ ds => decide (uptoBulkAll ds ≤ 1048576)
def OpenSpec.upto (s : _root_.Go.ChangeSpec) : _root_.Go.OpenSpec := { _root_.Go.OpenSpec.ofChange s with cond := some uptoSmall }

/-- 'contangolaw31.AssetWorths', WHERE WHAT IT READS IS OF BULK AT MOST 1048576: true; the input reads as it did. -/
def assetWorthsUptoRow : OpenClaim := { program := "ytaiekjimdjlgbaa", sum := "3396abba379d8081c242bc60b3f15ff167bf552ea3a3c7f7d7455d661e135830", func := "contango/contangolaw31.AssetWorths", spec := "assetWorths", unfollowed := true, recurses := true, named := ["math/bits.divideError", "math/bits.overflowError"], apart := false, narrowed := true }
def AssetWorthsUptoSaid : Prop := assetWorthsUptoRow.holds Try.pinned (OpenSpec.upto assetWorthsSpec)

/-- 'contangolaw31.AssetUnits', WHERE WHAT IT READS IS OF BULK AT MOST 1048576: true; the input reads as it did. -/
def assetUnitsUptoRow : OpenClaim := { program := "ytaiekjimdjlgbaa", sum := "3396abba379d8081c242bc60b3f15ff167bf552ea3a3c7f7d7455d661e135830", func := "contango/contangolaw31.AssetUnits", spec := "assetUnits", unfollowed := true, recurses := true, named := ["math/bits.divideError", "math/bits.overflowError"], apart := false, narrowed := true }
def AssetUnitsUptoSaid : Prop := assetUnitsUptoRow.holds Try.pinned (OpenSpec.upto assetUnitsSpec)

/-- 'contangolaw31.AssetLeast', WHERE WHAT IT READS IS OF BULK AT MOST 1048576: true; the input reads as it did. -/
def assetLeastUptoRow : OpenClaim := { program := "ytaiekjimdjlgbaa", sum := "3396abba379d8081c242bc60b3f15ff167bf552ea3a3c7f7d7455d661e135830", func := "contango/contangolaw31.AssetLeast", spec := "assetLeast", unfollowed := true, recurses := true, named := ["math/bits.divideError", "math/bits.overflowError"], apart := false, narrowed := true }
def AssetLeastUptoSaid : Prop := assetLeastUptoRow.holds Try.pinned (OpenSpec.upto assetLeastSpec)

/-- 'contangolaw31.AssetRises', WHERE WHAT IT READS IS OF BULK AT MOST 1048576: true; the input reads as it did. -/
def assetRisesUptoRow : OpenClaim := { program := "ytaiekjimdjlgbaa", sum := "3396abba379d8081c242bc60b3f15ff167bf552ea3a3c7f7d7455d661e135830", func := "contango/contangolaw31.AssetRises", spec := "assetRises", unfollowed := true, recurses := true, named := ["math/bits.divideError", "math/bits.overflowError"], apart := false, narrowed := true }
def AssetRisesUptoSaid : Prop := assetRisesUptoRow.holds Try.pinned (OpenSpec.upto assetRisesSpec)

/-- 'contangolaw31.AssetChecks', WHERE WHAT IT READS IS OF BULK AT MOST 1048576: true; the input reads as it did. -/
def assetChecksUptoRow : OpenClaim := { program := "ytaiekjimdjlgbaa", sum := "3396abba379d8081c242bc60b3f15ff167bf552ea3a3c7f7d7455d661e135830", func := "contango/contangolaw31.AssetChecks", spec := "assetChecks", unfollowed := true, recurses := true, named := ["math/bits.divideError", "math/bits.overflowError"], apart := false, narrowed := true }
def AssetChecksUptoSaid : Prop := assetChecksUptoRow.holds Try.pinned (OpenSpec.upto assetChecksSpec)

/-- 'contangolaw28.AddonCharges', WHERE WHAT IT READS IS OF BULK AT MOST 1048576: true; the input reads as it did. -/
def addonChargesUptoRow : OpenClaim := { program := "ytaiekjimdjlgbaa", sum := "3396abba379d8081c242bc60b3f15ff167bf552ea3a3c7f7d7455d661e135830", func := "contango/contangolaw28.AddonCharges", spec := "addonCharges", unfollowed := true, recurses := true, named := ["math/bits.divideError", "math/bits.overflowError"], apart := false, narrowed := true }
def AddonChargesUptoSaid : Prop := addonChargesUptoRow.holds Try.pinned (OpenSpec.upto addonChargesSpec)

/-- 'contangolaw28.AddonOvers', WHERE WHAT IT READS IS OF BULK AT MOST 1048576: true; the input reads as it did. -/
def addonOversUptoRow : OpenClaim := { program := "ytaiekjimdjlgbaa", sum := "3396abba379d8081c242bc60b3f15ff167bf552ea3a3c7f7d7455d661e135830", func := "contango/contangolaw28.AddonOvers", spec := "addonOvers", unfollowed := true, recurses := true, named := ["math/bits.divideError", "math/bits.overflowError"], apart := false, narrowed := true }
def AddonOversUptoSaid : Prop := addonOversUptoRow.holds Try.pinned (OpenSpec.upto addonOversSpec)

/-- 'contangolaw28.AddonLargest', WHERE WHAT IT READS IS OF BULK AT MOST 1048576: true; the input reads as it did. -/
def addonLargestUptoRow : OpenClaim := { program := "ytaiekjimdjlgbaa", sum := "3396abba379d8081c242bc60b3f15ff167bf552ea3a3c7f7d7455d661e135830", func := "contango/contangolaw28.AddonLargest", spec := "addonLargest", unfollowed := true, recurses := true, named := ["math/bits.divideError", "math/bits.overflowError"], apart := false, narrowed := true }
def AddonLargestUptoSaid : Prop := addonLargestUptoRow.holds Try.pinned (OpenSpec.upto addonLargestSpec)

/-- 'contangolaw28.AddonRises', WHERE WHAT IT READS IS OF BULK AT MOST 1048576: true; the input reads as it did. -/
def addonRisesUptoRow : OpenClaim := { program := "ytaiekjimdjlgbaa", sum := "3396abba379d8081c242bc60b3f15ff167bf552ea3a3c7f7d7455d661e135830", func := "contango/contangolaw28.AddonRises", spec := "addonRises", unfollowed := true, recurses := true, named := ["math/bits.divideError", "math/bits.overflowError"], apart := false, narrowed := true }
def AddonRisesUptoSaid : Prop := addonRisesUptoRow.holds Try.pinned (OpenSpec.upto addonRisesSpec)

/-- 'contangolaw32.PledgeWorths', WHERE WHAT IT READS IS OF BULK AT MOST 1048576: true; the input reads as it did. -/
def pledgeWorthsUptoRow : OpenClaim := { program := "ytaiekjimdjlgbaa", sum := "3396abba379d8081c242bc60b3f15ff167bf552ea3a3c7f7d7455d661e135830", func := "contango/contangolaw32.PledgeWorths", spec := "pledgeWorths", unfollowed := true, recurses := true, named := ["math/bits.divideError", "math/bits.overflowError"], apart := false, narrowed := true }
def PledgeWorthsUptoSaid : Prop := pledgeWorthsUptoRow.holds Try.pinned (OpenSpec.upto pledgeWorthsSpec)

/-- 'contangotop.TopPledgeUnits', WHERE WHAT IT READS IS OF BULK AT MOST 1048576: true; the input reads as it did. -/
def topPledgeUnitsUptoRow : OpenClaim := { program := "ytaiekjimdjlgbaa", sum := "3396abba379d8081c242bc60b3f15ff167bf552ea3a3c7f7d7455d661e135830", func := "contango/contangotop.TopPledgeUnits", spec := "topPledgeUnits", unfollowed := true, recurses := true, named := ["math/bits.divideError", "math/bits.overflowError"], apart := false, narrowed := true }
def TopPledgeUnitsUptoSaid : Prop := topPledgeUnitsUptoRow.holds Try.pinned (OpenSpec.upto topPledgeUnitsSpec)

/-- 'contangotop.TopPledgeMoved', WHERE WHAT IT READS IS OF BULK AT MOST 1048576: true; the input reads as it did. -/
def topPledgeMovedUptoRow : OpenClaim := { program := "ytaiekjimdjlgbaa", sum := "3396abba379d8081c242bc60b3f15ff167bf552ea3a3c7f7d7455d661e135830", func := "contango/contangotop.TopPledgeMoved", spec := "topPledgeMoved", unfollowed := true, recurses := true, named := ["math/bits.divideError", "math/bits.overflowError"], apart := false, narrowed := true }
def TopPledgeMovedUptoSaid : Prop := topPledgeMovedUptoRow.holds Try.pinned (OpenSpec.upto topPledgeMovedSpec)

end Rows
end Go.Proofs.Ytaiekjimdjlgbaa
