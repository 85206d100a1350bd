/-
  No cell of these rows narrows 'for every input' (looked for: loops, veiled, ifaces, maps, wideKeys, modest, calm, conditions, laid).
  DERIVED. THE GIVEN ROWS OF THIS SEAT. 11 by the template 'for every input the law returns true; each argument reads behind the call as it read before'; 0 by the template 'total and deterministic' (their statements: YtaembbndjpebhaaTotals.lean).
  GIVEN WITH THE SEED: the statements are not yours to turn. If you find one false, say at which input.
  Laid BY PROGRAM, IN A SANDBOX (cutbox-rows.mjs): the forced cells as the released guide's own fill.sh prints them over the translation 5d5679c344308e8f… (all of the seat's roots in one cut). By AI agents, Wed Nov 11 2026. No macro, syntax, notation, axiom, sorry.
-/
import Derived.Test.YtaembbndjpebhaaChecked
import GoSem.Claim
import GoSem.ClaimJoined
import GoSem.ClaimMapViews
import Derived.JoinedTies
import Derived.KernelRfl
namespace Go.Proofs.Ytaembbndjpebhaa
/- THE CELL 'sum', in the pinned program and in every row, IS THE sha256 OF THE DUMP (.gsa) THAT YtaembbndjpebhaaProg.lean LOADS. Nothing in Lean hashes anything: it is a label: what it is worth is what the hold of that sum in a sandbox is worth. -/
noncomputable def Try.pinned : Pinned := { name := "ytaembbndjpebhaa", sum := "5d5679c344308e8f2ca39cf360fb61530849e9299b8ad28a311d685ce74da6b6", checked := Try.checked }
namespace Rows
def none {H : Type} : Left H := { results := [], args := [] }

/-- 'contangolaw08.RateChecks': WHATEVER THE INPUT: true; the input reads as it did. -/
def rateChecksSpec : ChangeSpec := { name := "rateChecks", fn := fun _ => fun
  | [d1, d2] => { results := [.lit (.bool true)], args := [d1, d2] }
  | _ => none }
def rateChecksRow : OpenClaim := { program := "ytaembbndjpebhaa", sum := "5d5679c344308e8f2ca39cf360fb61530849e9299b8ad28a311d685ce74da6b6", func := "contango/contangolaw08.RateChecks", spec := "rateChecks", unfollowed := true, recurses := true, named := ["math/bits.divideError", "math/bits.overflowError"], apart := false }
def RateChecksSaid : Prop := rateChecksRow.holds Try.pinned (OpenSpec.ofChange rateChecksSpec)

/-- ITS FALSE NEIGHBOUR: 'it returns false'. Refute it at one input. -/
def rateChecksWrong : ChangeSpec := { name := "rateChecks", fn := fun _ => fun
  | [d1, d2] => { results := [.lit (.bool false)], args := [d1, d2] }
  | _ => none }
def RateChecksWrongFalsely : Prop := rateChecksRow.holds Try.pinned (OpenSpec.ofChange rateChecksWrong)

/-- 'contangolaw08.RateConverts': WHATEVER THE INPUT: true; the input reads as it did. -/
def rateConvertsSpec : ChangeSpec := { name := "rateConverts", fn := fun _ => fun
  | [d1, d2, d3] => { results := [.lit (.bool true)], args := [d1, d2, d3] }
  | _ => none }
def rateConvertsRow : OpenClaim := { program := "ytaembbndjpebhaa", sum := "5d5679c344308e8f2ca39cf360fb61530849e9299b8ad28a311d685ce74da6b6", func := "contango/contangolaw08.RateConverts", spec := "rateConverts", unfollowed := true, recurses := true, named := ["math/bits.divideError", "math/bits.overflowError"], apart := false }
def RateConvertsSaid : Prop := rateConvertsRow.holds Try.pinned (OpenSpec.ofChange rateConvertsSpec)

/-- ITS FALSE NEIGHBOUR: 'it returns false'. Refute it at one input. -/
def rateConvertsWrong : ChangeSpec := { name := "rateConverts", fn := fun _ => fun
  | [d1, d2, d3] => { results := [.lit (.bool false)], args := [d1, d2, d3] }
  | _ => none }
def RateConvertsWrongFalsely : Prop := rateConvertsRow.holds Try.pinned (OpenSpec.ofChange rateConvertsWrong)

/-- 'contangolaw08.RateTotals': WHATEVER THE INPUT: true; the input reads as it did. -/
def rateTotalsSpec : ChangeSpec := { name := "rateTotals", fn := fun _ => fun
  | [d1, d2, d3] => { results := [.lit (.bool true)], args := [d1, d2, d3] }
  | _ => none }
def rateTotalsRow : OpenClaim := { program := "ytaembbndjpebhaa", sum := "5d5679c344308e8f2ca39cf360fb61530849e9299b8ad28a311d685ce74da6b6", func := "contango/contangolaw08.RateTotals", spec := "rateTotals", unfollowed := true, recurses := true, named := ["math/bits.divideError", "math/bits.overflowError"], apart := false }
def RateTotalsSaid : Prop := rateTotalsRow.holds Try.pinned (OpenSpec.ofChange rateTotalsSpec)

/-- ITS FALSE NEIGHBOUR: 'it returns false'. Refute it at one input. -/
def rateTotalsWrong : ChangeSpec := { name := "rateTotals", fn := fun _ => fun
  | [d1, d2, d3] => { results := [.lit (.bool false)], args := [d1, d2, d3] }
  | _ => none }
def RateTotalsWrongFalsely : Prop := rateTotalsRow.holds Try.pinned (OpenSpec.ofChange rateTotalsWrong)

/-- 'contangolaw08.RateBack': WHATEVER THE INPUT: true; the input reads as it did. -/
def rateBackSpec : ChangeSpec := { name := "rateBack", fn := fun _ => fun
  | [d1, d2, d3] => { results := [.lit (.bool true)], args := [d1, d2, d3] }
  | _ => none }
def rateBackRow : OpenClaim := { program := "ytaembbndjpebhaa", sum := "5d5679c344308e8f2ca39cf360fb61530849e9299b8ad28a311d685ce74da6b6", func := "contango/contangolaw08.RateBack", spec := "rateBack", unfollowed := true, recurses := true, named := ["math/bits.divideError", "math/bits.overflowError"], apart := false }
def RateBackSaid : Prop := rateBackRow.holds Try.pinned (OpenSpec.ofChange rateBackSpec)

/-- ITS FALSE NEIGHBOUR: 'it returns false'. Refute it at one input. -/
def rateBackWrong : ChangeSpec := { name := "rateBack", fn := fun _ => fun
  | [d1, d2, d3] => { results := [.lit (.bool false)], args := [d1, d2, d3] }
  | _ => none }
def RateBackWrongFalsely : Prop := rateBackRow.holds Try.pinned (OpenSpec.ofChange rateBackWrong)

/-- 'contangolaw08.RateRises': WHATEVER THE INPUT: true; the input reads as it did. -/
def rateRisesSpec : ChangeSpec := { name := "rateRises", fn := fun _ => fun
  | [d1, d2, d3] => { results := [.lit (.bool true)], args := [d1, d2, d3] }
  | _ => none }
def rateRisesRow : OpenClaim := { program := "ytaembbndjpebhaa", sum := "5d5679c344308e8f2ca39cf360fb61530849e9299b8ad28a311d685ce74da6b6", func := "contango/contangolaw08.RateRises", spec := "rateRises", unfollowed := true, recurses := true, named := ["math/bits.divideError", "math/bits.overflowError"], apart := false }
def RateRisesSaid : Prop := rateRisesRow.holds Try.pinned (OpenSpec.ofChange rateRisesSpec)

/-- ITS FALSE NEIGHBOUR: 'it returns false'. Refute it at one input. -/
def rateRisesWrong : ChangeSpec := { name := "rateRises", fn := fun _ => fun
  | [d1, d2, d3] => { results := [.lit (.bool false)], args := [d1, d2, d3] }
  | _ => none }
def RateRisesWrongFalsely : Prop := rateRisesRow.holds Try.pinned (OpenSpec.ofChange rateRisesWrong)

/-- 'contangolaw19.CurveAts': WHATEVER THE INPUT: true; the input reads as it did. -/
def curveAtsSpec : ChangeSpec := { name := "curveAts", fn := fun _ => fun
  | [d1, d2, d3] => { results := [.lit (.bool true)], args := [d1, d2, d3] }
  | _ => none }
def curveAtsRow : OpenClaim := { program := "ytaembbndjpebhaa", sum := "5d5679c344308e8f2ca39cf360fb61530849e9299b8ad28a311d685ce74da6b6", func := "contango/contangolaw19.CurveAts", spec := "curveAts", unfollowed := true, recurses := true, named := ["math/bits.divideError", "math/bits.overflowError"], apart := false }
def CurveAtsSaid : Prop := curveAtsRow.holds Try.pinned (OpenSpec.ofChange curveAtsSpec)

/-- ITS FALSE NEIGHBOUR: 'it returns false'. Refute it at one input. -/
def curveAtsWrong : ChangeSpec := { name := "curveAts", fn := fun _ => fun
  | [d1, d2, d3] => { results := [.lit (.bool false)], args := [d1, d2, d3] }
  | _ => none }
def CurveAtsWrongFalsely : Prop := curveAtsRow.holds Try.pinned (OpenSpec.ofChange curveAtsWrong)

/-- 'contangolaw19.CurveBetween': WHATEVER THE INPUT: true; the input reads as it did. -/
def curveBetweenSpec : ChangeSpec := { name := "curveBetween", fn := fun _ => fun
  | [d1, d2, d3] => { results := [.lit (.bool true)], args := [d1, d2, d3] }
  | _ => none }
def curveBetweenRow : OpenClaim := { program := "ytaembbndjpebhaa", sum := "5d5679c344308e8f2ca39cf360fb61530849e9299b8ad28a311d685ce74da6b6", func := "contango/contangolaw19.CurveBetween", spec := "curveBetween", unfollowed := true, recurses := true, named := ["math/bits.divideError", "math/bits.overflowError"], apart := false }
def CurveBetweenSaid : Prop := curveBetweenRow.holds Try.pinned (OpenSpec.ofChange curveBetweenSpec)

/-- ITS FALSE NEIGHBOUR: 'it returns false'. Refute it at one input. -/
def curveBetweenWrong : ChangeSpec := { name := "curveBetween", fn := fun _ => fun
  | [d1, d2, d3] => { results := [.lit (.bool false)], args := [d1, d2, d3] }
  | _ => none }
def CurveBetweenWrongFalsely : Prop := curveBetweenRow.holds Try.pinned (OpenSpec.ofChange curveBetweenWrong)

/-- 'contangolaw19.CurveAgain': WHATEVER THE INPUT: true; the input reads as it did. -/
def curveAgainSpec : ChangeSpec := { name := "curveAgain", fn := fun _ => fun
  | [d1, d2] => { results := [.lit (.bool true)], args := [d1, d2] }
  | _ => none }
def curveAgainRow : OpenClaim := { program := "ytaembbndjpebhaa", sum := "5d5679c344308e8f2ca39cf360fb61530849e9299b8ad28a311d685ce74da6b6", func := "contango/contangolaw19.CurveAgain", spec := "curveAgain", unfollowed := true, recurses := true, named := ["math/bits.divideError", "math/bits.overflowError"], apart := false }
def CurveAgainSaid : Prop := curveAgainRow.holds Try.pinned (OpenSpec.ofChange curveAgainSpec)

/-- ITS FALSE NEIGHBOUR: 'it returns false'. Refute it at one input. -/
def curveAgainWrong : ChangeSpec := { name := "curveAgain", fn := fun _ => fun
  | [d1, d2] => { results := [.lit (.bool false)], args := [d1, d2] }
  | _ => none }
def CurveAgainWrongFalsely : Prop := curveAgainRow.holds Try.pinned (OpenSpec.ofChange curveAgainWrong)

/-- 'contangolaw19.CurveFills': WHATEVER THE INPUT: true; the input reads as it did. -/
def curveFillsSpec : ChangeSpec := { name := "curveFills", fn := fun _ => fun
  | [d1, d2, d3] => { results := [.lit (.bool true)], args := [d1, d2, d3] }
  | _ => none }
def curveFillsRow : OpenClaim := { program := "ytaembbndjpebhaa", sum := "5d5679c344308e8f2ca39cf360fb61530849e9299b8ad28a311d685ce74da6b6", func := "contango/contangolaw19.CurveFills", spec := "curveFills", unfollowed := true, recurses := true, named := ["math/bits.divideError", "math/bits.overflowError"], apart := false }
def CurveFillsSaid : Prop := curveFillsRow.holds Try.pinned (OpenSpec.ofChange curveFillsSpec)

/-- ITS FALSE NEIGHBOUR: 'it returns false'. Refute it at one input. -/
def curveFillsWrong : ChangeSpec := { name := "curveFills", fn := fun _ => fun
  | [d1, d2, d3] => { results := [.lit (.bool false)], args := [d1, d2, d3] }
  | _ => none }
def CurveFillsWrongFalsely : Prop := curveFillsRow.holds Try.pinned (OpenSpec.ofChange curveFillsWrong)

/-- 'contangolaw19.CurveMoves': WHATEVER THE INPUT: true; the input reads as it did. -/
def curveMovesSpec : ChangeSpec := { name := "curveMoves", fn := fun _ => fun
  | [d1, d2, d3] => { results := [.lit (.bool true)], args := [d1, d2, d3] }
  | _ => none }
def curveMovesRow : OpenClaim := { program := "ytaembbndjpebhaa", sum := "5d5679c344308e8f2ca39cf360fb61530849e9299b8ad28a311d685ce74da6b6", func := "contango/contangolaw19.CurveMoves", spec := "curveMoves", unfollowed := true, recurses := true, named := ["math/bits.divideError", "math/bits.overflowError"], apart := false }
def CurveMovesSaid : Prop := curveMovesRow.holds Try.pinned (OpenSpec.ofChange curveMovesSpec)

/-- ITS FALSE NEIGHBOUR: 'it returns false'. Refute it at one input. -/
def curveMovesWrong : ChangeSpec := { name := "curveMoves", fn := fun _ => fun
  | [d1, d2, d3] => { results := [.lit (.bool false)], args := [d1, d2, d3] }
  | _ => none }
def CurveMovesWrongFalsely : Prop := curveMovesRow.holds Try.pinned (OpenSpec.ofChange curveMovesWrong)

/-- 'contangotop.TopPrices': WHATEVER THE INPUT: true; the input reads as it did. -/
def topPricesSpec : ChangeSpec := { name := "topPrices", fn := fun _ => fun
  | [d1, d2, d3] => { results := [.lit (.bool true)], args := [d1, d2, d3] }
  | _ => none }
def topPricesRow : OpenClaim := { program := "ytaembbndjpebhaa", sum := "5d5679c344308e8f2ca39cf360fb61530849e9299b8ad28a311d685ce74da6b6", func := "contango/contangotop.TopPrices", spec := "topPrices", unfollowed := true, recurses := true, named := ["math/bits.divideError", "math/bits.overflowError"], apart := false }
def TopPricesSaid : Prop := topPricesRow.holds Try.pinned (OpenSpec.ofChange topPricesSpec)

/-- ITS FALSE NEIGHBOUR: 'it returns false'. Refute it at one input. -/
def topPricesWrong : ChangeSpec := { name := "topPrices", fn := fun _ => fun
  | [d1, d2, d3] => { results := [.lit (.bool false)], args := [d1, d2, d3] }
  | _ => none }
def TopPricesWrongFalsely : Prop := topPricesRow.holds Try.pinned (OpenSpec.ofChange topPricesWrong)

/- THE SECOND FORM. 'bulk': how many values and letters a reading holds, each counted each time it is reached (what is shared counts as often as it is met; a slice's spare places count too). A statement '..UptoSaid' is the law's where the arguments, and the package variables that the reading takes, are together of bulk at most 1048576: NARROWER than '..Said'. Prove '..Said' where nothing that the law and all that it calls make is longer than what came in: it says more and counts as full. Else prove '..UptoSaid'. A law counts once. -/
mutual
def uptoBulk {H : Type} : DataW H → Nat
  | .lit (.string bytes) => bytes.length + 1
  | .lit _ => 1
  | .nil => 1
  | .ptr d => uptoBulk d + 1
  | .slice elems spare => uptoBulkAll elems + uptoBulkAll spare + 1
  | .agg parts => uptoBulkAll parts + 1
  | .iface _ d => uptoBulk d + 1
  | .map entries => uptoBulkEntries entries + 1
  | .held _ => 1
def uptoBulkAll {H : Type} : List (DataW H) → Nat
  | [] => 0
  | d :: r => uptoBulk d + uptoBulkAll r
def uptoBulkEntries {H : Type} : List (Lit × DataW H) → Nat
  | [] => 0
  | x :: r => uptoBulkEntry x + uptoBulkEntries r
def uptoBulkEntry {H : Type} : Lit × DataW H → Nat
  | (.string bytes, d) => bytes.length + uptoBulk d + 1
  | (_, d) => uptoBulk d + 1
 end
def uptoSmall : (H : Type) → List (DataW H) → Bool := fun _ ds => decide (uptoBulkAll ds ≤ 1048576)
def OpenSpec.upto (s : _root_.Go.ChangeSpec) : _root_.Go.OpenSpec := { _root_.Go.OpenSpec.ofChange s with cond := some uptoSmall }

/-- 'contangolaw08.RateChecks', WHERE WHAT IT READS IS OF BULK AT MOST 1048576: true; the input reads as it did. -/
def rateChecksUptoRow : OpenClaim := { program := "ytaembbndjpebhaa", sum := "5d5679c344308e8f2ca39cf360fb61530849e9299b8ad28a311d685ce74da6b6", func := "contango/contangolaw08.RateChecks", spec := "rateChecks", unfollowed := true, recurses := true, named := ["math/bits.divideError", "math/bits.overflowError"], apart := false, narrowed := true }
def RateChecksUptoSaid : Prop := rateChecksUptoRow.holds Try.pinned (OpenSpec.upto rateChecksSpec)

/-- 'contangolaw08.RateConverts', WHERE WHAT IT READS IS OF BULK AT MOST 1048576: true; the input reads as it did. -/
def rateConvertsUptoRow : OpenClaim := { program := "ytaembbndjpebhaa", sum := "5d5679c344308e8f2ca39cf360fb61530849e9299b8ad28a311d685ce74da6b6", func := "contango/contangolaw08.RateConverts", spec := "rateConverts", unfollowed := true, recurses := true, named := ["math/bits.divideError", "math/bits.overflowError"], apart := false, narrowed := true }
def RateConvertsUptoSaid : Prop := rateConvertsUptoRow.holds Try.pinned (OpenSpec.upto rateConvertsSpec)

/-- 'contangolaw08.RateTotals', WHERE WHAT IT READS IS OF BULK AT MOST 1048576: true; the input reads as it did. -/
def rateTotalsUptoRow : OpenClaim := { program := "ytaembbndjpebhaa", sum := "5d5679c344308e8f2ca39cf360fb61530849e9299b8ad28a311d685ce74da6b6", func := "contango/contangolaw08.RateTotals", spec := "rateTotals", unfollowed := true, recurses := true, named := ["math/bits.divideError", "math/bits.overflowError"], apart := false, narrowed := true }
def RateTotalsUptoSaid : Prop := rateTotalsUptoRow.holds Try.pinned (OpenSpec.upto rateTotalsSpec)

/-- 'contangolaw08.RateBack', WHERE WHAT IT READS IS OF BULK AT MOST 1048576: true; the input reads as it did. -/
def rateBackUptoRow : OpenClaim := { program := "ytaembbndjpebhaa", sum := "5d5679c344308e8f2ca39cf360fb61530849e9299b8ad28a311d685ce74da6b6", func := "contango/contangolaw08.RateBack", spec := "rateBack", unfollowed := true, recurses := true, named := ["math/bits.divideError", "math/bits.overflowError"], apart := false, narrowed := true }
def RateBackUptoSaid : Prop := rateBackUptoRow.holds Try.pinned (OpenSpec.upto rateBackSpec)

/-- 'contangolaw08.RateRises', WHERE WHAT IT READS IS OF BULK AT MOST 1048576: true; the input reads as it did. -/
def rateRisesUptoRow : OpenClaim := { program := "ytaembbndjpebhaa", sum := "5d5679c344308e8f2ca39cf360fb61530849e9299b8ad28a311d685ce74da6b6", func := "contango/contangolaw08.RateRises", spec := "rateRises", unfollowed := true, recurses := true, named := ["math/bits.divideError", "math/bits.overflowError"], apart := false, narrowed := true }
def RateRisesUptoSaid : Prop := rateRisesUptoRow.holds Try.pinned (OpenSpec.upto rateRisesSpec)

/-- 'contangolaw19.CurveAts', WHERE WHAT IT READS IS OF BULK AT MOST 1048576: true; the input reads as it did. -/
def curveAtsUptoRow : OpenClaim := { program := "ytaembbndjpebhaa", sum := "5d5679c344308e8f2ca39cf360fb61530849e9299b8ad28a311d685ce74da6b6", func := "contango/contangolaw19.CurveAts", spec := "curveAts", unfollowed := true, recurses := true, named := ["math/bits.divideError", "math/bits.overflowError"], apart := false, narrowed := true }
def CurveAtsUptoSaid : Prop := curveAtsUptoRow.holds Try.pinned (OpenSpec.upto curveAtsSpec)

/-- 'contangolaw19.CurveBetween', WHERE WHAT IT READS IS OF BULK AT MOST 1048576: true; the input reads as it did. -/
def curveBetweenUptoRow : OpenClaim := { program := "ytaembbndjpebhaa", sum := "5d5679c344308e8f2ca39cf360fb61530849e9299b8ad28a311d685ce74da6b6", func := "contango/contangolaw19.CurveBetween", spec := "curveBetween", unfollowed := true, recurses := true, named := ["math/bits.divideError", "math/bits.overflowError"], apart := false, narrowed := true }
def CurveBetweenUptoSaid : Prop := curveBetweenUptoRow.holds Try.pinned (OpenSpec.upto curveBetweenSpec)

/-- 'contangolaw19.CurveAgain', WHERE WHAT IT READS IS OF BULK AT MOST 1048576: true; the input reads as it did. -/
def curveAgainUptoRow : OpenClaim := { program := "ytaembbndjpebhaa", sum := "5d5679c344308e8f2ca39cf360fb61530849e9299b8ad28a311d685ce74da6b6", func := "contango/contangolaw19.CurveAgain", spec := "curveAgain", unfollowed := true, recurses := true, named := ["math/bits.divideError", "math/bits.overflowError"], apart := false, narrowed := true }
def CurveAgainUptoSaid : Prop := curveAgainUptoRow.holds Try.pinned (OpenSpec.upto curveAgainSpec)

/-- 'contangolaw19.CurveFills', WHERE WHAT IT READS IS OF BULK AT MOST 1048576: true; the input reads as it did. -/
def curveFillsUptoRow : OpenClaim := { program := "ytaembbndjpebhaa", sum := "5d5679c344308e8f2ca39cf360fb61530849e9299b8ad28a311d685ce74da6b6", func := "contango/contangolaw19.CurveFills", spec := "curveFills", unfollowed := true, recurses := true, named := ["math/bits.divideError", "math/bits.overflowError"], apart := false, narrowed := true }
def CurveFillsUptoSaid : Prop := curveFillsUptoRow.holds Try.pinned (OpenSpec.upto curveFillsSpec)

/-- 'contangolaw19.CurveMoves', WHERE WHAT IT READS IS OF BULK AT MOST 1048576: true; the input reads as it did. -/
def curveMovesUptoRow : OpenClaim := { program := "ytaembbndjpebhaa", sum := "5d5679c344308e8f2ca39cf360fb61530849e9299b8ad28a311d685ce74da6b6", func := "contango/contangolaw19.CurveMoves", spec := "curveMoves", unfollowed := true, recurses := true, named := ["math/bits.divideError", "math/bits.overflowError"], apart := false, narrowed := true }
def CurveMovesUptoSaid : Prop := curveMovesUptoRow.holds Try.pinned (OpenSpec.upto curveMovesSpec)

/-- 'contangotop.TopPrices', WHERE WHAT IT READS IS OF BULK AT MOST 1048576: true; the input reads as it did. -/
def topPricesUptoRow : OpenClaim := { program := "ytaembbndjpebhaa", sum := "5d5679c344308e8f2ca39cf360fb61530849e9299b8ad28a311d685ce74da6b6", func := "contango/contangotop.TopPrices", spec := "topPrices", unfollowed := true, recurses := true, named := ["math/bits.divideError", "math/bits.overflowError"], apart := false, narrowed := true }
def TopPricesUptoSaid : Prop := topPricesUptoRow.holds Try.pinned (OpenSpec.upto topPricesSpec)

end Rows
end Go.Proofs.Ytaembbndjpebhaa
