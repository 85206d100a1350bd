/-
  No cell of these rows narrows 'for every input' (looked for: loops, veiled, ifaces, maps, wideKeys, modest, calm, conditions, laid).
  DERIVED. THE GIVEN ROWS OF THIS SEAT. 9 by the template 'for every input the law returns true; each argument reads behind the call as it read before'; 0 by the template 'total and deterministic' (their statements: YtffdehnmoimikaaTotals.lean).
  GIVEN WITH THE SEED: the statements are not yours to turn. If you find one false, say at which input.
  Laid BY PROGRAM, IN A SANDBOX (cutbox-rows.mjs): the forced cells as the released guide's own fill.sh prints them over the translation 067e078ce351299d… (all of the seat's roots in one cut). By AI agents, Wed Nov 11 2026. No macro, syntax, notation, axiom, sorry.
-/
import Derived.Test.YtffdehnmoimikaaChecked
import GoSem.Claim
import GoSem.ClaimJoined
import GoSem.ClaimMapViews
import Derived.JoinedTies
import Derived.KernelRfl
namespace Go.Proofs.Ytffdehnmoimikaa
/- THE CELL 'sum', in the pinned program and in every row, IS THE sha256 OF THE DUMP (.gsa) THAT YtffdehnmoimikaaProg.lean LOADS. Nothing in Lean hashes anything: it is a label: what it is worth is what the hold of that sum in a sandbox is worth. -/
noncomputable def Try.pinned : Pinned := { name := "ytffdehnmoimikaa", sum := "067e078ce351299d4d95ded2aa8214f15b13572c06131d6503acc3624a7b3fb5", checked := Try.checked }
namespace Rows
def none {H : Type} : Left H := { results := [], args := [] }

/-- 'contangolaw26.FloorShorts': WHATEVER THE INPUT: true; the input reads as it did. -/
def floorShortsSpec : ChangeSpec := { name := "floorShorts", fn := fun _ => fun
  | [d1, d2, d3] => { results := [.lit (.bool true)], args := [d1, d2, d3] }
  | _ => none }
def floorShortsRow : OpenClaim := { program := "ytffdehnmoimikaa", sum := "067e078ce351299d4d95ded2aa8214f15b13572c06131d6503acc3624a7b3fb5", func := "contango/contangolaw26.FloorShorts", spec := "floorShorts", unfollowed := true, recurses := true, apart := false }
def FloorShortsSaid : Prop := floorShortsRow.holds Try.pinned (OpenSpec.ofChange floorShortsSpec)

/-- ITS FALSE NEIGHBOUR: 'it returns false'. Refute it at one input. -/
def floorShortsWrong : ChangeSpec := { name := "floorShorts", fn := fun _ => fun
  | [d1, d2, d3] => { results := [.lit (.bool false)], args := [d1, d2, d3] }
  | _ => none }
def FloorShortsWrongFalsely : Prop := floorShortsRow.holds Try.pinned (OpenSpec.ofChange floorShortsWrong)

/-- 'contangolaw26.FloorNears': WHATEVER THE INPUT: true; the input reads as it did. -/
def floorNearsSpec : ChangeSpec := { name := "floorNears", fn := fun _ => fun
  | [d1, d2] => { results := [.lit (.bool true)], args := [d1, d2] }
  | _ => none }
def floorNearsRow : OpenClaim := { program := "ytffdehnmoimikaa", sum := "067e078ce351299d4d95ded2aa8214f15b13572c06131d6503acc3624a7b3fb5", func := "contango/contangolaw26.FloorNears", spec := "floorNears", unfollowed := true, recurses := true, apart := false }
def FloorNearsSaid : Prop := floorNearsRow.holds Try.pinned (OpenSpec.ofChange floorNearsSpec)

/-- ITS FALSE NEIGHBOUR: 'it returns false'. Refute it at one input. -/
def floorNearsWrong : ChangeSpec := { name := "floorNears", fn := fun _ => fun
  | [d1, d2] => { results := [.lit (.bool false)], args := [d1, d2] }
  | _ => none }
def FloorNearsWrongFalsely : Prop := floorNearsRow.holds Try.pinned (OpenSpec.ofChange floorNearsWrong)

/-- 'contangolaw26.FloorMore': WHATEVER THE INPUT: true; the input reads as it did. -/
def floorMoreSpec : ChangeSpec := { name := "floorMore", fn := fun _ => fun
  | [d1, d2, d3] => { results := [.lit (.bool true)], args := [d1, d2, d3] }
  | _ => none }
def floorMoreRow : OpenClaim := { program := "ytffdehnmoimikaa", sum := "067e078ce351299d4d95ded2aa8214f15b13572c06131d6503acc3624a7b3fb5", func := "contango/contangolaw26.FloorMore", spec := "floorMore", unfollowed := true, recurses := true, apart := false }
def FloorMoreSaid : Prop := floorMoreRow.holds Try.pinned (OpenSpec.ofChange floorMoreSpec)

/-- ITS FALSE NEIGHBOUR: 'it returns false'. Refute it at one input. -/
def floorMoreWrong : ChangeSpec := { name := "floorMore", fn := fun _ => fun
  | [d1, d2, d3] => { results := [.lit (.bool false)], args := [d1, d2, d3] }
  | _ => none }
def FloorMoreWrongFalsely : Prop := floorMoreRow.holds Try.pinned (OpenSpec.ofChange floorMoreWrong)

/-- 'contangolaw26.FloorSides': WHATEVER THE INPUT: true; the input reads as it did. -/
def floorSidesSpec : ChangeSpec := { name := "floorSides", fn := fun _ => fun
  | [d1, d2] => { results := [.lit (.bool true)], args := [d1, d2] }
  | _ => none }
def floorSidesRow : OpenClaim := { program := "ytffdehnmoimikaa", sum := "067e078ce351299d4d95ded2aa8214f15b13572c06131d6503acc3624a7b3fb5", func := "contango/contangolaw26.FloorSides", spec := "floorSides", unfollowed := true, recurses := true, apart := false }
def FloorSidesSaid : Prop := floorSidesRow.holds Try.pinned (OpenSpec.ofChange floorSidesSpec)

/-- ITS FALSE NEIGHBOUR: 'it returns false'. Refute it at one input. -/
def floorSidesWrong : ChangeSpec := { name := "floorSides", fn := fun _ => fun
  | [d1, d2] => { results := [.lit (.bool false)], args := [d1, d2] }
  | _ => none }
def FloorSidesWrongFalsely : Prop := floorSidesRow.holds Try.pinned (OpenSpec.ofChange floorSidesWrong)

/-- 'contangolaw01.CentsSums': WHATEVER THE INPUT: true; the input reads as it did. -/
def centsSumsSpec : ChangeSpec := { name := "centsSums", fn := fun _ => fun
  | [d] => { results := [.lit (.bool true)], args := [d] }
  | _ => none }
def centsSumsRow : OpenClaim := { program := "ytffdehnmoimikaa", sum := "067e078ce351299d4d95ded2aa8214f15b13572c06131d6503acc3624a7b3fb5", func := "contango/contangolaw01.CentsSums", spec := "centsSums", unfollowed := true, recurses := true, named := ["math/bits.divideError", "math/bits.overflowError"], apart := false }
def CentsSumsSaid : Prop := centsSumsRow.holds Try.pinned (OpenSpec.ofChange centsSumsSpec)

/-- ITS FALSE NEIGHBOUR: 'it returns false'. Refute it at one input. -/
def centsSumsWrong : ChangeSpec := { name := "centsSums", fn := fun _ => fun
  | [d] => { results := [.lit (.bool false)], args := [d] }
  | _ => none }
def CentsSumsWrongFalsely : Prop := centsSumsRow.holds Try.pinned (OpenSpec.ofChange centsSumsWrong)

/-- 'contangolaw01.CentsDivides': WHATEVER THE INPUT: true; the input reads as it did. -/
def centsDividesSpec : ChangeSpec := { name := "centsDivides", fn := fun _ => fun
  | [d1, d2] => { results := [.lit (.bool true)], args := [d1, d2] }
  | _ => none }
def centsDividesRow : OpenClaim := { program := "ytffdehnmoimikaa", sum := "067e078ce351299d4d95ded2aa8214f15b13572c06131d6503acc3624a7b3fb5", func := "contango/contangolaw01.CentsDivides", spec := "centsDivides", unfollowed := true, recurses := true, named := ["math/bits.divideError", "math/bits.overflowError"], apart := false }
def CentsDividesSaid : Prop := centsDividesRow.holds Try.pinned (OpenSpec.ofChange centsDividesSpec)

/-- ITS FALSE NEIGHBOUR: 'it returns false'. Refute it at one input. -/
def centsDividesWrong : ChangeSpec := { name := "centsDivides", fn := fun _ => fun
  | [d1, d2] => { results := [.lit (.bool false)], args := [d1, d2] }
  | _ => none }
def CentsDividesWrongFalsely : Prop := centsDividesRow.holds Try.pinned (OpenSpec.ofChange centsDividesWrong)

/-- 'contangolaw01.CentsModes': WHATEVER THE INPUT: true; the input reads as it did. -/
def centsModesSpec : ChangeSpec := { name := "centsModes", fn := fun _ => fun
  | [d1, d2, d3] => { results := [.lit (.bool true)], args := [d1, d2, d3] }
  | _ => none }
def centsModesRow : OpenClaim := { program := "ytffdehnmoimikaa", sum := "067e078ce351299d4d95ded2aa8214f15b13572c06131d6503acc3624a7b3fb5", func := "contango/contangolaw01.CentsModes", spec := "centsModes", unfollowed := true, recurses := true, named := ["math/bits.divideError", "math/bits.overflowError"], apart := false }
def CentsModesSaid : Prop := centsModesRow.holds Try.pinned (OpenSpec.ofChange centsModesSpec)

/-- ITS FALSE NEIGHBOUR: 'it returns false'. Refute it at one input. -/
def centsModesWrong : ChangeSpec := { name := "centsModes", fn := fun _ => fun
  | [d1, d2, d3] => { results := [.lit (.bool false)], args := [d1, d2, d3] }
  | _ => none }
def CentsModesWrongFalsely : Prop := centsModesRow.holds Try.pinned (OpenSpec.ofChange centsModesWrong)

/-- 'contangolaw01.CentsBack': WHATEVER THE INPUT: true; the input reads as it did. -/
def centsBackSpec : ChangeSpec := { name := "centsBack", fn := fun _ => fun
  | [d1, d2, d3] => { results := [.lit (.bool true)], args := [d1, d2, d3] }
  | _ => none }
def centsBackRow : OpenClaim := { program := "ytffdehnmoimikaa", sum := "067e078ce351299d4d95ded2aa8214f15b13572c06131d6503acc3624a7b3fb5", func := "contango/contangolaw01.CentsBack", spec := "centsBack", unfollowed := true, recurses := true, named := ["math/bits.divideError", "math/bits.overflowError"], apart := false }
def CentsBackSaid : Prop := centsBackRow.holds Try.pinned (OpenSpec.ofChange centsBackSpec)

/-- ITS FALSE NEIGHBOUR: 'it returns false'. Refute it at one input. -/
def centsBackWrong : ChangeSpec := { name := "centsBack", fn := fun _ => fun
  | [d1, d2, d3] => { results := [.lit (.bool false)], args := [d1, d2, d3] }
  | _ => none }
def CentsBackWrongFalsely : Prop := centsBackRow.holds Try.pinned (OpenSpec.ofChange centsBackWrong)

/-- 'contangolaw01.CentsAdds': WHATEVER THE INPUT: true; the input reads as it did. -/
def centsAddsSpec : ChangeSpec := { name := "centsAdds", fn := fun _ => fun
  | [d1, d2, d3] => { results := [.lit (.bool true)], args := [d1, d2, d3] }
  | _ => none }
def centsAddsRow : OpenClaim := { program := "ytffdehnmoimikaa", sum := "067e078ce351299d4d95ded2aa8214f15b13572c06131d6503acc3624a7b3fb5", func := "contango/contangolaw01.CentsAdds", spec := "centsAdds", unfollowed := true, recurses := true, named := ["math/bits.divideError", "math/bits.overflowError"], apart := false }
def CentsAddsSaid : Prop := centsAddsRow.holds Try.pinned (OpenSpec.ofChange centsAddsSpec)

/-- ITS FALSE NEIGHBOUR: 'it returns false'. Refute it at one input. -/
def centsAddsWrong : ChangeSpec := { name := "centsAdds", fn := fun _ => fun
  | [d1, d2, d3] => { results := [.lit (.bool false)], args := [d1, d2, d3] }
  | _ => none }
def CentsAddsWrongFalsely : Prop := centsAddsRow.holds Try.pinned (OpenSpec.ofChange centsAddsWrong)

/- THE SECOND FORM. 'bulk': how many values and letters a reading holds, each counted each time it is reached (what is shared counts as often as it is met; a slice's spare places count too). A statement '..UptoSaid' is the law's where the arguments, and the package variables that the reading takes, are together of bulk at most 1048576: NARROWER than '..Said'. Prove '..Said' where nothing that the law and all that it calls make is longer than what came in: it says more and counts as full. Else prove '..UptoSaid'. A law counts once. -/
mutual
def uptoBulk {H : Type} : DataW H → Nat
  | .lit (.string bytes) => bytes.length + 1
  | .lit _ => 1
  | .nil => 1
  | .ptr d => uptoBulk d + 1
  | .slice elems spare => uptoBulkAll elems + uptoBulkAll spare + 1
  | .agg parts => uptoBulkAll parts + 1
  | .iface _ d => uptoBulk d + 1
  | .map entries => uptoBulkEntries entries + 1
  | .held _ => 1
def uptoBulkAll {H : Type} : List (DataW H) → Nat
  | [] => 0
  | d :: r => uptoBulk d + uptoBulkAll r
def uptoBulkEntries {H : Type} : List (Lit × DataW H) → Nat
  | [] => 0
  | x :: r => uptoBulkEntry x + uptoBulkEntries r
def uptoBulkEntry {H : Type} : Lit × DataW H → Nat
  | (.string bytes, d) => bytes.length + uptoBulk d + 1
  | (_, d) => uptoBulk d + 1
 end
def uptoSmall : (H : Type) → List (DataW H) → Bool := fun _ ds => decide (uptoBulkAll ds ≤ 1048576)
def OpenSpec.upto (s : _root_.Go.ChangeSpec) : _root_.Go.OpenSpec := { _root_.Go.OpenSpec.ofChange s with cond := some uptoSmall }

/-- 'contangolaw26.FloorShorts', WHERE WHAT IT READS IS OF BULK AT MOST 1048576: true; the input reads as it did. -/
def floorShortsUptoRow : OpenClaim := { program := "ytffdehnmoimikaa", sum := "067e078ce351299d4d95ded2aa8214f15b13572c06131d6503acc3624a7b3fb5", func := "contango/contangolaw26.FloorShorts", spec := "floorShorts", unfollowed := true, recurses := true, apart := false, narrowed := true }
def FloorShortsUptoSaid : Prop := floorShortsUptoRow.holds Try.pinned (OpenSpec.upto floorShortsSpec)

/-- 'contangolaw26.FloorNears', WHERE WHAT IT READS IS OF BULK AT MOST 1048576: true; the input reads as it did. -/
def floorNearsUptoRow : OpenClaim := { program := "ytffdehnmoimikaa", sum := "067e078ce351299d4d95ded2aa8214f15b13572c06131d6503acc3624a7b3fb5", func := "contango/contangolaw26.FloorNears", spec := "floorNears", unfollowed := true, recurses := true, apart := false, narrowed := true }
def FloorNearsUptoSaid : Prop := floorNearsUptoRow.holds Try.pinned (OpenSpec.upto floorNearsSpec)

/-- 'contangolaw26.FloorMore', WHERE WHAT IT READS IS OF BULK AT MOST 1048576: true; the input reads as it did. -/
def floorMoreUptoRow : OpenClaim := { program := "ytffdehnmoimikaa", sum := "067e078ce351299d4d95ded2aa8214f15b13572c06131d6503acc3624a7b3fb5", func := "contango/contangolaw26.FloorMore", spec := "floorMore", unfollowed := true, recurses := true, apart := false, narrowed := true }
def FloorMoreUptoSaid : Prop := floorMoreUptoRow.holds Try.pinned (OpenSpec.upto floorMoreSpec)

/-- 'contangolaw26.FloorSides', WHERE WHAT IT READS IS OF BULK AT MOST 1048576: true; the input reads as it did. -/
def floorSidesUptoRow : OpenClaim := { program := "ytffdehnmoimikaa", sum := "067e078ce351299d4d95ded2aa8214f15b13572c06131d6503acc3624a7b3fb5", func := "contango/contangolaw26.FloorSides", spec := "floorSides", unfollowed := true, recurses := true, apart := false, narrowed := true }
def FloorSidesUptoSaid : Prop := floorSidesUptoRow.holds Try.pinned (OpenSpec.upto floorSidesSpec)

/-- 'contangolaw01.CentsSums', WHERE WHAT IT READS IS OF BULK AT MOST 1048576: true; the input reads as it did. -/
def centsSumsUptoRow : OpenClaim := { program := "ytffdehnmoimikaa", sum := "067e078ce351299d4d95ded2aa8214f15b13572c06131d6503acc3624a7b3fb5", func := "contango/contangolaw01.CentsSums", spec := "centsSums", unfollowed := true, recurses := true, named := ["math/bits.divideError", "math/bits.overflowError"], apart := false, narrowed := true }
def CentsSumsUptoSaid : Prop := centsSumsUptoRow.holds Try.pinned (OpenSpec.upto centsSumsSpec)

/-- 'contangolaw01.CentsDivides', WHERE WHAT IT READS IS OF BULK AT MOST 1048576: true; the input reads as it did. -/
def centsDividesUptoRow : OpenClaim := { program := "ytffdehnmoimikaa", sum := "067e078ce351299d4d95ded2aa8214f15b13572c06131d6503acc3624a7b3fb5", func := "contango/contangolaw01.CentsDivides", spec := "centsDivides", unfollowed := true, recurses := true, named := ["math/bits.divideError", "math/bits.overflowError"], apart := false, narrowed := true }
def CentsDividesUptoSaid : Prop := centsDividesUptoRow.holds Try.pinned (OpenSpec.upto centsDividesSpec)

/-- 'contangolaw01.CentsModes', WHERE WHAT IT READS IS OF BULK AT MOST 1048576: true; the input reads as it did. -/
def centsModesUptoRow : OpenClaim := { program := "ytffdehnmoimikaa", sum := "067e078ce351299d4d95ded2aa8214f15b13572c06131d6503acc3624a7b3fb5", func := "contango/contangolaw01.CentsModes", spec := "centsModes", unfollowed := true, recurses := true, named := ["math/bits.divideError", "math/bits.overflowError"], apart := false, narrowed := true }
def CentsModesUptoSaid : Prop := centsModesUptoRow.holds Try.pinned (OpenSpec.upto centsModesSpec)

/-- 'contangolaw01.CentsBack', WHERE WHAT IT READS IS OF BULK AT MOST 1048576: true; the input reads as it did. -/
def centsBackUptoRow : OpenClaim := { program := "ytffdehnmoimikaa", sum := "067e078ce351299d4d95ded2aa8214f15b13572c06131d6503acc3624a7b3fb5", func := "contango/contangolaw01.CentsBack", spec := "centsBack", unfollowed := true, recurses := true, named := ["math/bits.divideError", "math/bits.overflowError"], apart := false, narrowed := true }
def CentsBackUptoSaid : Prop := centsBackUptoRow.holds Try.pinned (OpenSpec.upto centsBackSpec)

/-- 'contangolaw01.CentsAdds', WHERE WHAT IT READS IS OF BULK AT MOST 1048576: true; the input reads as it did. -/
def centsAddsUptoRow : OpenClaim := { program := "ytffdehnmoimikaa", sum := "067e078ce351299d4d95ded2aa8214f15b13572c06131d6503acc3624a7b3fb5", func := "contango/contangolaw01.CentsAdds", spec := "centsAdds", unfollowed := true, recurses := true, named := ["math/bits.divideError", "math/bits.overflowError"], apart := false, narrowed := true }
def CentsAddsUptoSaid : Prop := centsAddsUptoRow.holds Try.pinned (OpenSpec.upto centsAddsSpec)

end Rows
end Go.Proofs.Ytffdehnmoimikaa
