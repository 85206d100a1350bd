/-
  No cell of these rows narrows 'for every input' (looked for: loops, veiled, ifaces, maps, wideKeys, modest, calm, conditions, laid).
  DERIVED. THE GIVEN ROWS OF THIS SEAT. 12 by the template 'for every input the law returns true; each argument reads behind the call as it read before'; 0 by the template 'total and deterministic' (their statements: YtggbflplbblgbaaTotals.lean).
  GIVEN WITH THE SEED: the statements are not yours to turn. If you find one false, say at which input.
  Laid BY PROGRAM, IN A SANDBOX (cutbox-rows.mjs): the forced cells as the released guide's own fill.sh prints them over the translation 6fed388b98fb4579… (all of the seat's roots in one cut). By AI agents, Wed Nov 11 2026. No macro, syntax, notation, axiom, sorry.
-/
import Derived.Test.YtggbflplbblgbaaChecked
import GoSem.Claim
import GoSem.ClaimJoined
import GoSem.ClaimMapViews
import Derived.JoinedTies
import Derived.KernelRfl
namespace Go.Proofs.Ytggbflplbblgbaa
/- THE CELL 'sum', in the pinned program and in every row, IS THE sha256 OF THE DUMP (.gsa) THAT YtggbflplbblgbaaProg.lean LOADS. Nothing in Lean hashes anything: it is a label: what it is worth is what the hold of that sum in a sandbox is worth. -/
noncomputable def Try.pinned : Pinned := { name := "ytggbflplbblgbaa", sum := "6fed388b98fb457997d29e4305e397fa473916ae9ff93d6e7bf5e374e27a3070", checked := Try.checked }
namespace Rows
def none {H : Type} : Left H := { results := [], args := [] }

/-- 'contangolaw32.PledgePuts': WHATEVER THE INPUT: true; the input reads as it did. -/
def pledgePutsSpec : ChangeSpec := { name := "pledgePuts", fn := fun _ => fun
  | [d1, d2] => { results := [.lit (.bool true)], args := [d1, d2] }
  | _ => none }
def pledgePutsRow : OpenClaim := { program := "ytggbflplbblgbaa", sum := "6fed388b98fb457997d29e4305e397fa473916ae9ff93d6e7bf5e374e27a3070", func := "contango/contangolaw32.PledgePuts", spec := "pledgePuts", unfollowed := true, recurses := true, apart := false }
def PledgePutsSaid : Prop := pledgePutsRow.holds Try.pinned (OpenSpec.ofChange pledgePutsSpec)

/-- ITS FALSE NEIGHBOUR: 'it returns false'. Refute it at one input. -/
def pledgePutsWrong : ChangeSpec := { name := "pledgePuts", fn := fun _ => fun
  | [d1, d2] => { results := [.lit (.bool false)], args := [d1, d2] }
  | _ => none }
def PledgePutsWrongFalsely : Prop := pledgePutsRow.holds Try.pinned (OpenSpec.ofChange pledgePutsWrong)

/-- 'contangolaw32.PledgeBack': WHATEVER THE INPUT: true; the input reads as it did. -/
def pledgeBackSpec : ChangeSpec := { name := "pledgeBack", fn := fun _ => fun
  | [d1, d2] => { results := [.lit (.bool true)], args := [d1, d2] }
  | _ => none }
def pledgeBackRow : OpenClaim := { program := "ytggbflplbblgbaa", sum := "6fed388b98fb457997d29e4305e397fa473916ae9ff93d6e7bf5e374e27a3070", func := "contango/contangolaw32.PledgeBack", spec := "pledgeBack", unfollowed := true, recurses := true, apart := false }
def PledgeBackSaid : Prop := pledgeBackRow.holds Try.pinned (OpenSpec.ofChange pledgeBackSpec)

/-- ITS FALSE NEIGHBOUR: 'it returns false'. Refute it at one input. -/
def pledgeBackWrong : ChangeSpec := { name := "pledgeBack", fn := fun _ => fun
  | [d1, d2] => { results := [.lit (.bool false)], args := [d1, d2] }
  | _ => none }
def PledgeBackWrongFalsely : Prop := pledgeBackRow.holds Try.pinned (OpenSpec.ofChange pledgeBackWrong)

/-- 'contangolaw32.PledgeMoves': WHATEVER THE INPUT: true; the input reads as it did. -/
def pledgeMovesSpec : ChangeSpec := { name := "pledgeMoves", fn := fun _ => fun
  | [d1, d2, d3] => { results := [.lit (.bool true)], args := [d1, d2, d3] }
  | _ => none }
def pledgeMovesRow : OpenClaim := { program := "ytggbflplbblgbaa", sum := "6fed388b98fb457997d29e4305e397fa473916ae9ff93d6e7bf5e374e27a3070", func := "contango/contangolaw32.PledgeMoves", spec := "pledgeMoves", unfollowed := true, recurses := true, apart := false }
def PledgeMovesSaid : Prop := pledgeMovesRow.holds Try.pinned (OpenSpec.ofChange pledgeMovesSpec)

/-- ITS FALSE NEIGHBOUR: 'it returns false'. Refute it at one input. -/
def pledgeMovesWrong : ChangeSpec := { name := "pledgeMoves", fn := fun _ => fun
  | [d1, d2, d3] => { results := [.lit (.bool false)], args := [d1, d2, d3] }
  | _ => none }
def PledgeMovesWrongFalsely : Prop := pledgeMovesRow.holds Try.pinned (OpenSpec.ofChange pledgeMovesWrong)

/-- 'contangolaw32.PledgeOthers': WHATEVER THE INPUT: true; the input reads as it did. -/
def pledgeOthersSpec : ChangeSpec := { name := "pledgeOthers", fn := fun _ => fun
  | [d1, d2, d3, d4] => { results := [.lit (.bool true)], args := [d1, d2, d3, d4] }
  | _ => none }
def pledgeOthersRow : OpenClaim := { program := "ytggbflplbblgbaa", sum := "6fed388b98fb457997d29e4305e397fa473916ae9ff93d6e7bf5e374e27a3070", func := "contango/contangolaw32.PledgeOthers", spec := "pledgeOthers", unfollowed := true, recurses := true, apart := false }
def PledgeOthersSaid : Prop := pledgeOthersRow.holds Try.pinned (OpenSpec.ofChange pledgeOthersSpec)

/-- ITS FALSE NEIGHBOUR: 'it returns false'. Refute it at one input. -/
def pledgeOthersWrong : ChangeSpec := { name := "pledgeOthers", fn := fun _ => fun
  | [d1, d2, d3, d4] => { results := [.lit (.bool false)], args := [d1, d2, d3, d4] }
  | _ => none }
def PledgeOthersWrongFalsely : Prop := pledgeOthersRow.holds Try.pinned (OpenSpec.ofChange pledgeOthersWrong)

/-- 'contangolaw24.TierForms': WHATEVER THE INPUT: true; the input reads as it did. -/
def tierFormsSpec : ChangeSpec := { name := "tierForms", fn := fun _ => fun
  | [d1, d2, d3] => { results := [.lit (.bool true)], args := [d1, d2, d3] }
  | _ => none }
def tierFormsRow : OpenClaim := { program := "ytggbflplbblgbaa", sum := "6fed388b98fb457997d29e4305e397fa473916ae9ff93d6e7bf5e374e27a3070", func := "contango/contangolaw24.TierForms", spec := "tierForms", unfollowed := true, recurses := true, apart := false }
def TierFormsSaid : Prop := tierFormsRow.holds Try.pinned (OpenSpec.ofChange tierFormsSpec)

/-- ITS FALSE NEIGHBOUR: 'it returns false'. Refute it at one input. -/
def tierFormsWrong : ChangeSpec := { name := "tierForms", fn := fun _ => fun
  | [d1, d2, d3] => { results := [.lit (.bool false)], args := [d1, d2, d3] }
  | _ => none }
def TierFormsWrongFalsely : Prop := tierFormsRow.holds Try.pinned (OpenSpec.ofChange tierFormsWrong)

/-- 'contangolaw24.TierOutright': WHATEVER THE INPUT: true; the input reads as it did. -/
def tierOutrightSpec : ChangeSpec := { name := "tierOutright", fn := fun _ => fun
  | [d1, d2] => { results := [.lit (.bool true)], args := [d1, d2] }
  | _ => none }
def tierOutrightRow : OpenClaim := { program := "ytggbflplbblgbaa", sum := "6fed388b98fb457997d29e4305e397fa473916ae9ff93d6e7bf5e374e27a3070", func := "contango/contangolaw24.TierOutright", spec := "tierOutright", unfollowed := true, recurses := true, apart := false }
def TierOutrightSaid : Prop := tierOutrightRow.holds Try.pinned (OpenSpec.ofChange tierOutrightSpec)

/-- ITS FALSE NEIGHBOUR: 'it returns false'. Refute it at one input. -/
def tierOutrightWrong : ChangeSpec := { name := "tierOutright", fn := fun _ => fun
  | [d1, d2] => { results := [.lit (.bool false)], args := [d1, d2] }
  | _ => none }
def TierOutrightWrongFalsely : Prop := tierOutrightRow.holds Try.pinned (OpenSpec.ofChange tierOutrightWrong)

/-- 'contangolaw24.TierKeeps': WHATEVER THE INPUT: true; the input reads as it did. -/
def tierKeepsSpec : ChangeSpec := { name := "tierKeeps", fn := fun _ => fun
  | [d1, d2, d3] => { results := [.lit (.bool true)], args := [d1, d2, d3] }
  | _ => none }
def tierKeepsRow : OpenClaim := { program := "ytggbflplbblgbaa", sum := "6fed388b98fb457997d29e4305e397fa473916ae9ff93d6e7bf5e374e27a3070", func := "contango/contangolaw24.TierKeeps", spec := "tierKeeps", unfollowed := true, recurses := true, apart := false }
def TierKeepsSaid : Prop := tierKeepsRow.holds Try.pinned (OpenSpec.ofChange tierKeepsSpec)

/-- ITS FALSE NEIGHBOUR: 'it returns false'. Refute it at one input. -/
def tierKeepsWrong : ChangeSpec := { name := "tierKeeps", fn := fun _ => fun
  | [d1, d2, d3] => { results := [.lit (.bool false)], args := [d1, d2, d3] }
  | _ => none }
def TierKeepsWrongFalsely : Prop := tierKeepsRow.holds Try.pinned (OpenSpec.ofChange tierKeepsWrong)

/-- 'contangolaw24.TierDone': WHATEVER THE INPUT: true; the input reads as it did. -/
def tierDoneSpec : ChangeSpec := { name := "tierDone", fn := fun _ => fun
  | [d1, d2, d3] => { results := [.lit (.bool true)], args := [d1, d2, d3] }
  | _ => none }
def tierDoneRow : OpenClaim := { program := "ytggbflplbblgbaa", sum := "6fed388b98fb457997d29e4305e397fa473916ae9ff93d6e7bf5e374e27a3070", func := "contango/contangolaw24.TierDone", spec := "tierDone", unfollowed := true, recurses := true, apart := false }
def TierDoneSaid : Prop := tierDoneRow.holds Try.pinned (OpenSpec.ofChange tierDoneSpec)

/-- ITS FALSE NEIGHBOUR: 'it returns false'. Refute it at one input. -/
def tierDoneWrong : ChangeSpec := { name := "tierDone", fn := fun _ => fun
  | [d1, d2, d3] => { results := [.lit (.bool false)], args := [d1, d2, d3] }
  | _ => none }
def TierDoneWrongFalsely : Prop := tierDoneRow.holds Try.pinned (OpenSpec.ofChange tierDoneWrong)

/-- 'contangolaw25.InterSaves': WHATEVER THE INPUT: true; the input reads as it did. -/
def interSavesSpec : ChangeSpec := { name := "interSaves", fn := fun _ => fun
  | [d1, d2] => { results := [.lit (.bool true)], args := [d1, d2] }
  | _ => none }
def interSavesRow : OpenClaim := { program := "ytggbflplbblgbaa", sum := "6fed388b98fb457997d29e4305e397fa473916ae9ff93d6e7bf5e374e27a3070", func := "contango/contangolaw25.InterSaves", spec := "interSaves", unfollowed := true, recurses := true, named := ["math/bits.divideError", "math/bits.overflowError"], apart := false }
def InterSavesSaid : Prop := interSavesRow.holds Try.pinned (OpenSpec.ofChange interSavesSpec)

/-- ITS FALSE NEIGHBOUR: 'it returns false'. Refute it at one input. -/
def interSavesWrong : ChangeSpec := { name := "interSaves", fn := fun _ => fun
  | [d1, d2] => { results := [.lit (.bool false)], args := [d1, d2] }
  | _ => none }
def InterSavesWrongFalsely : Prop := interSavesRow.holds Try.pinned (OpenSpec.ofChange interSavesWrong)

/-- 'contangolaw25.InterBounds': WHATEVER THE INPUT: true; the input reads as it did. -/
def interBoundsSpec : ChangeSpec := { name := "interBounds", fn := fun _ => fun
  | [d1, d2] => { results := [.lit (.bool true)], args := [d1, d2] }
  | _ => none }
def interBoundsRow : OpenClaim := { program := "ytggbflplbblgbaa", sum := "6fed388b98fb457997d29e4305e397fa473916ae9ff93d6e7bf5e374e27a3070", func := "contango/contangolaw25.InterBounds", spec := "interBounds", unfollowed := true, recurses := true, named := ["math/bits.divideError", "math/bits.overflowError"], apart := false }
def InterBoundsSaid : Prop := interBoundsRow.holds Try.pinned (OpenSpec.ofChange interBoundsSpec)

/-- ITS FALSE NEIGHBOUR: 'it returns false'. Refute it at one input. -/
def interBoundsWrong : ChangeSpec := { name := "interBounds", fn := fun _ => fun
  | [d1, d2] => { results := [.lit (.bool false)], args := [d1, d2] }
  | _ => none }
def InterBoundsWrongFalsely : Prop := interBoundsRow.holds Try.pinned (OpenSpec.ofChange interBoundsWrong)

/-- 'contangolaw25.InterMore': WHATEVER THE INPUT: true; the input reads as it did. -/
def interMoreSpec : ChangeSpec := { name := "interMore", fn := fun _ => fun
  | [d1, d2, d3] => { results := [.lit (.bool true)], args := [d1, d2, d3] }
  | _ => none }
def interMoreRow : OpenClaim := { program := "ytggbflplbblgbaa", sum := "6fed388b98fb457997d29e4305e397fa473916ae9ff93d6e7bf5e374e27a3070", func := "contango/contangolaw25.InterMore", spec := "interMore", unfollowed := true, recurses := true, named := ["math/bits.divideError", "math/bits.overflowError"], apart := false }
def InterMoreSaid : Prop := interMoreRow.holds Try.pinned (OpenSpec.ofChange interMoreSpec)

/-- ITS FALSE NEIGHBOUR: 'it returns false'. Refute it at one input. -/
def interMoreWrong : ChangeSpec := { name := "interMore", fn := fun _ => fun
  | [d1, d2, d3] => { results := [.lit (.bool false)], args := [d1, d2, d3] }
  | _ => none }
def InterMoreWrongFalsely : Prop := interMoreRow.holds Try.pinned (OpenSpec.ofChange interMoreWrong)

/-- 'contangolaw25.InterTotals': WHATEVER THE INPUT: true; the input reads as it did. -/
def interTotalsSpec : ChangeSpec := { name := "interTotals", fn := fun _ => fun
  | [d] => { results := [.lit (.bool true)], args := [d] }
  | _ => none }
def interTotalsRow : OpenClaim := { program := "ytggbflplbblgbaa", sum := "6fed388b98fb457997d29e4305e397fa473916ae9ff93d6e7bf5e374e27a3070", func := "contango/contangolaw25.InterTotals", spec := "interTotals", unfollowed := true, recurses := true, named := ["math/bits.divideError", "math/bits.overflowError"], apart := false }
def InterTotalsSaid : Prop := interTotalsRow.holds Try.pinned (OpenSpec.ofChange interTotalsSpec)

/-- ITS FALSE NEIGHBOUR: 'it returns false'. Refute it at one input. -/
def interTotalsWrong : ChangeSpec := { name := "interTotals", fn := fun _ => fun
  | [d] => { results := [.lit (.bool false)], args := [d] }
  | _ => none }
def InterTotalsWrongFalsely : Prop := interTotalsRow.holds Try.pinned (OpenSpec.ofChange interTotalsWrong)

/- THE SECOND FORM. 'bulk': how many values and letters a reading holds, each counted each time it is reached (what is shared counts as often as it is met; a slice's spare places count too). A statement '..UptoSaid' is the law's where the arguments, and the package variables that the reading takes, are together of bulk at most 1048576: NARROWER than '..Said'. Prove '..Said' where nothing that the law and all that it calls make is longer than what came in: it says more and counts as full. Else prove '..UptoSaid'. A law counts once. -/
mutual
def uptoBulk {H : Type} : DataW H → Nat
  | .lit (.string bytes) => bytes.length + 1
  | .lit _ => 1
  | .nil => 1
  | .ptr d => uptoBulk d + 1
  | .slice elems spare => uptoBulkAll elems + uptoBulkAll spare + 1
  | .agg parts => uptoBulkAll parts + 1
  | .iface _ d => uptoBulk d + 1
  | .map entries => uptoBulkEntries entries + 1
  | .held _ => 1
def uptoBulkAll {H : Type} : List (DataW H) → Nat
  | [] => 0
  | d :: r => uptoBulk d + uptoBulkAll r
def uptoBulkEntries {H : Type} : List (Lit × DataW H) → Nat
  | [] => 0
  | x :: r => uptoBulkEntry x + uptoBulkEntries r
def uptoBulkEntry {H : Type} : Lit × DataW H → Nat
  | (.string bytes, d) => bytes.length + uptoBulk d + 1
  | (_, d) => uptoBulk d + 1
 end
def uptoSmall : (H : Type) → List (DataW H) → Bool := fun _ ds => decide (uptoBulkAll ds ≤ 1048576)
def OpenSpec.upto (s : _root_.Go.ChangeSpec) : _root_.Go.OpenSpec := { _root_.Go.OpenSpec.ofChange s with cond := some uptoSmall }

/-- 'contangolaw32.PledgePuts', WHERE WHAT IT READS IS OF BULK AT MOST 1048576: true; the input reads as it did. -/
def pledgePutsUptoRow : OpenClaim := { program := "ytggbflplbblgbaa", sum := "6fed388b98fb457997d29e4305e397fa473916ae9ff93d6e7bf5e374e27a3070", func := "contango/contangolaw32.PledgePuts", spec := "pledgePuts", unfollowed := true, recurses := true, apart := false, narrowed := true }
def PledgePutsUptoSaid : Prop := pledgePutsUptoRow.holds Try.pinned (OpenSpec.upto pledgePutsSpec)

/-- 'contangolaw32.PledgeBack', WHERE WHAT IT READS IS OF BULK AT MOST 1048576: true; the input reads as it did. -/
def pledgeBackUptoRow : OpenClaim := { program := "ytggbflplbblgbaa", sum := "6fed388b98fb457997d29e4305e397fa473916ae9ff93d6e7bf5e374e27a3070", func := "contango/contangolaw32.PledgeBack", spec := "pledgeBack", unfollowed := true, recurses := true, apart := false, narrowed := true }
def PledgeBackUptoSaid : Prop := pledgeBackUptoRow.holds Try.pinned (OpenSpec.upto pledgeBackSpec)

/-- 'contangolaw32.PledgeMoves', WHERE WHAT IT READS IS OF BULK AT MOST 1048576: true; the input reads as it did. -/
def pledgeMovesUptoRow : OpenClaim := { program := "ytggbflplbblgbaa", sum := "6fed388b98fb457997d29e4305e397fa473916ae9ff93d6e7bf5e374e27a3070", func := "contango/contangolaw32.PledgeMoves", spec := "pledgeMoves", unfollowed := true, recurses := true, apart := false, narrowed := true }
def PledgeMovesUptoSaid : Prop := pledgeMovesUptoRow.holds Try.pinned (OpenSpec.upto pledgeMovesSpec)

/-- 'contangolaw32.PledgeOthers', WHERE WHAT IT READS IS OF BULK AT MOST 1048576: true; the input reads as it did. -/
def pledgeOthersUptoRow : OpenClaim := { program := "ytggbflplbblgbaa", sum := "6fed388b98fb457997d29e4305e397fa473916ae9ff93d6e7bf5e374e27a3070", func := "contango/contangolaw32.PledgeOthers", spec := "pledgeOthers", unfollowed := true, recurses := true, apart := false, narrowed := true }
def PledgeOthersUptoSaid : Prop := pledgeOthersUptoRow.holds Try.pinned (OpenSpec.upto pledgeOthersSpec)

/-- 'contangolaw24.TierForms', WHERE WHAT IT READS IS OF BULK AT MOST 1048576: true; the input reads as it did. -/
def tierFormsUptoRow : OpenClaim := { program := "ytggbflplbblgbaa", sum := "6fed388b98fb457997d29e4305e397fa473916ae9ff93d6e7bf5e374e27a3070", func := "contango/contangolaw24.TierForms", spec := "tierForms", unfollowed := true, recurses := true, apart := false, narrowed := true }
def TierFormsUptoSaid : Prop := tierFormsUptoRow.holds Try.pinned (OpenSpec.upto tierFormsSpec)

/-- 'contangolaw24.TierOutright', WHERE WHAT IT READS IS OF BULK AT MOST 1048576: true; the input reads as it did. -/
def tierOutrightUptoRow : OpenClaim := { program := "ytggbflplbblgbaa", sum := "6fed388b98fb457997d29e4305e397fa473916ae9ff93d6e7bf5e374e27a3070", func := "contango/contangolaw24.TierOutright", spec := "tierOutright", unfollowed := true, recurses := true, apart := false, narrowed := true }
def TierOutrightUptoSaid : Prop := tierOutrightUptoRow.holds Try.pinned (OpenSpec.upto tierOutrightSpec)

/-- 'contangolaw24.TierKeeps', WHERE WHAT IT READS IS OF BULK AT MOST 1048576: true; the input reads as it did. -/
def tierKeepsUptoRow : OpenClaim := { program := "ytggbflplbblgbaa", sum := "6fed388b98fb457997d29e4305e397fa473916ae9ff93d6e7bf5e374e27a3070", func := "contango/contangolaw24.TierKeeps", spec := "tierKeeps", unfollowed := true, recurses := true, apart := false, narrowed := true }
def TierKeepsUptoSaid : Prop := tierKeepsUptoRow.holds Try.pinned (OpenSpec.upto tierKeepsSpec)

/-- 'contangolaw24.TierDone', WHERE WHAT IT READS IS OF BULK AT MOST 1048576: true; the input reads as it did. -/
def tierDoneUptoRow : OpenClaim := { program := "ytggbflplbblgbaa", sum := "6fed388b98fb457997d29e4305e397fa473916ae9ff93d6e7bf5e374e27a3070", func := "contango/contangolaw24.TierDone", spec := "tierDone", unfollowed := true, recurses := true, apart := false, narrowed := true }
def TierDoneUptoSaid : Prop := tierDoneUptoRow.holds Try.pinned (OpenSpec.upto tierDoneSpec)

/-- 'contangolaw25.InterSaves', WHERE WHAT IT READS IS OF BULK AT MOST 1048576: true; the input reads as it did. -/
def interSavesUptoRow : OpenClaim := { program := "ytggbflplbblgbaa", sum := "6fed388b98fb457997d29e4305e397fa473916ae9ff93d6e7bf5e374e27a3070", func := "contango/contangolaw25.InterSaves", spec := "interSaves", unfollowed := true, recurses := true, named := ["math/bits.divideError", "math/bits.overflowError"], apart := false, narrowed := true }
def InterSavesUptoSaid : Prop := interSavesUptoRow.holds Try.pinned (OpenSpec.upto interSavesSpec)

/-- 'contangolaw25.InterBounds', WHERE WHAT IT READS IS OF BULK AT MOST 1048576: true; the input reads as it did. -/
def interBoundsUptoRow : OpenClaim := { program := "ytggbflplbblgbaa", sum := "6fed388b98fb457997d29e4305e397fa473916ae9ff93d6e7bf5e374e27a3070", func := "contango/contangolaw25.InterBounds", spec := "interBounds", unfollowed := true, recurses := true, named := ["math/bits.divideError", "math/bits.overflowError"], apart := false, narrowed := true }
def InterBoundsUptoSaid : Prop := interBoundsUptoRow.holds Try.pinned (OpenSpec.upto interBoundsSpec)

/-- 'contangolaw25.InterMore', WHERE WHAT IT READS IS OF BULK AT MOST 1048576: true; the input reads as it did. -/
def interMoreUptoRow : OpenClaim := { program := "ytggbflplbblgbaa", sum := "6fed388b98fb457997d29e4305e397fa473916ae9ff93d6e7bf5e374e27a3070", func := "contango/contangolaw25.InterMore", spec := "interMore", unfollowed := true, recurses := true, named := ["math/bits.divideError", "math/bits.overflowError"], apart := false, narrowed := true }
def InterMoreUptoSaid : Prop := interMoreUptoRow.holds Try.pinned (OpenSpec.upto interMoreSpec)

/-- 'contangolaw25.InterTotals', WHERE WHAT IT READS IS OF BULK AT MOST 1048576: true; the input reads as it did. -/
def interTotalsUptoRow : OpenClaim := { program := "ytggbflplbblgbaa", sum := "6fed388b98fb457997d29e4305e397fa473916ae9ff93d6e7bf5e374e27a3070", func := "contango/contangolaw25.InterTotals", spec := "interTotals", unfollowed := true, recurses := true, named := ["math/bits.divideError", "math/bits.overflowError"], apart := false, narrowed := true }
def InterTotalsUptoSaid : Prop := interTotalsUptoRow.holds Try.pinned (OpenSpec.upto interTotalsSpec)

end Rows
end Go.Proofs.Ytggbflplbblgbaa
