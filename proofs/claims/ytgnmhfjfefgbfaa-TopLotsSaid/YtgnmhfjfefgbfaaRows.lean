/-
  No cell of these rows narrows 'for every input' (looked for: loops, veiled, ifaces, maps, wideKeys, modest, calm, conditions, laid).
  DERIVED. THE GIVEN ROWS OF THIS SEAT. 6 by the template 'for every input the law returns true; each argument reads behind the call as it read before'; 0 by the template 'total and deterministic' (their statements: YtgnmhfjfefgbfaaTotals.lean).
  GIVEN WITH THE SEED: the statements are not yours to turn. If you find one false, say at which input.
  Laid BY PROGRAM, IN A SANDBOX (cutbox-rows.mjs): the forced cells as the released guide's own fill.sh prints them over the translation 9e1927b97eb7c44f… (all of the seat's roots in one cut). By AI agents, Wed Nov 11 2026. No macro, syntax, notation, axiom, sorry.
-/
import Derived.Test.YtgnmhfjfefgbfaaChecked
import GoSem.Claim
import GoSem.ClaimJoined
import GoSem.ClaimMapViews
import Derived.JoinedTies
import Derived.KernelRfl
namespace Go.Proofs.Ytgnmhfjfefgbfaa
/- THE CELL 'sum', in the pinned program and in every row, IS THE sha256 OF THE DUMP (.gsa) THAT YtgnmhfjfefgbfaaProg.lean LOADS. Nothing in Lean hashes anything: it is a label: what it is worth is what the hold of that sum in a sandbox is worth. -/
noncomputable def Try.pinned : Pinned := { name := "ytgnmhfjfefgbfaa", sum := "9e1927b97eb7c44f621f6c0ee268b369df436b30be3232fef3bb2c9c575bb22d", checked := Try.checked }
namespace Rows
def none {H : Type} : Left H := { results := [], args := [] }

/-- 'contangotop.TopPast': WHATEVER THE INPUT: true; the input reads as it did. -/
def topPastSpec : ChangeSpec := { name := "topPast", fn := fun _ => fun
  | [d1, d2, d3] => { results := [.lit (.bool true)], args := [d1, d2, d3] }
  | _ => none }
def topPastRow : OpenClaim := { program := "ytgnmhfjfefgbfaa", sum := "9e1927b97eb7c44f621f6c0ee268b369df436b30be3232fef3bb2c9c575bb22d", func := "contango/contangotop.TopPast", spec := "topPast", unfollowed := true, recurses := true, plainKeys := false, apart := false }
def TopPastSaid : Prop := topPastRow.holds Try.pinned (OpenSpec.ofChange topPastSpec)

/-- ITS FALSE NEIGHBOUR: 'it returns false'. Refute it at one input. -/
def topPastWrong : ChangeSpec := { name := "topPast", fn := fun _ => fun
  | [d1, d2, d3] => { results := [.lit (.bool false)], args := [d1, d2, d3] }
  | _ => none }
def TopPastWrongFalsely : Prop := topPastRow.holds Try.pinned (OpenSpec.ofChange topPastWrong)

/-- 'contangotop.TopSpreads': WHATEVER THE INPUT: true; the input reads as it did. -/
def topSpreadsSpec : ChangeSpec := { name := "topSpreads", fn := fun _ => fun
  | [d1, d2] => { results := [.lit (.bool true)], args := [d1, d2] }
  | _ => none }
def topSpreadsRow : OpenClaim := { program := "ytgnmhfjfefgbfaa", sum := "9e1927b97eb7c44f621f6c0ee268b369df436b30be3232fef3bb2c9c575bb22d", func := "contango/contangotop.TopSpreads", spec := "topSpreads", inPlace := ["slices.overlaps[int]"], unfollowed := true, recurses := true, named := ["math/bits.divideError", "math/bits.overflowError"], plainKeys := false, apart := false }
def TopSpreadsSaid : Prop := topSpreadsRow.holds Try.pinned (OpenSpec.ofChange topSpreadsSpec)

/-- ITS FALSE NEIGHBOUR: 'it returns false'. Refute it at one input. -/
def topSpreadsWrong : ChangeSpec := { name := "topSpreads", fn := fun _ => fun
  | [d1, d2] => { results := [.lit (.bool false)], args := [d1, d2] }
  | _ => none }
def TopSpreadsWrongFalsely : Prop := topSpreadsRow.holds Try.pinned (OpenSpec.ofChange topSpreadsWrong)

/-- 'contangotop.TopLots': WHATEVER THE INPUT: true; the input reads as it did. -/
def topLotsSpec : ChangeSpec := { name := "topLots", fn := fun _ => fun
  | [d1, d2, d3] => { results := [.lit (.bool true)], args := [d1, d2, d3] }
  | _ => none }
def topLotsRow : OpenClaim := { program := "ytgnmhfjfefgbfaa", sum := "9e1927b97eb7c44f621f6c0ee268b369df436b30be3232fef3bb2c9c575bb22d", func := "contango/contangotop.TopLots", spec := "topLots", unfollowed := true, recurses := true, plainKeys := false, apart := false }
def TopLotsSaid : Prop := topLotsRow.holds Try.pinned (OpenSpec.ofChange topLotsSpec)

/-- ITS FALSE NEIGHBOUR: 'it returns false'. Refute it at one input. -/
def topLotsWrong : ChangeSpec := { name := "topLots", fn := fun _ => fun
  | [d1, d2, d3] => { results := [.lit (.bool false)], args := [d1, d2, d3] }
  | _ => none }
def TopLotsWrongFalsely : Prop := topLotsRow.holds Try.pinned (OpenSpec.ofChange topLotsWrong)

/-- 'contangotop.TopOrder': WHATEVER THE INPUT: true; the input reads as it did. -/
def topOrderSpec : ChangeSpec := { name := "topOrder", fn := fun _ => fun
  | [d1, d2] => { results := [.lit (.bool true)], args := [d1, d2] }
  | _ => none }
def topOrderRow : OpenClaim := { program := "ytgnmhfjfefgbfaa", sum := "9e1927b97eb7c44f621f6c0ee268b369df436b30be3232fef3bb2c9c575bb22d", func := "contango/contangotop.TopOrder", spec := "topOrder", unfollowed := true, recurses := true, plainKeys := false, apart := false }
def TopOrderSaid : Prop := topOrderRow.holds Try.pinned (OpenSpec.ofChange topOrderSpec)

/-- ITS FALSE NEIGHBOUR: 'it returns false'. Refute it at one input. -/
def topOrderWrong : ChangeSpec := { name := "topOrder", fn := fun _ => fun
  | [d1, d2] => { results := [.lit (.bool false)], args := [d1, d2] }
  | _ => none }
def TopOrderWrongFalsely : Prop := topOrderRow.holds Try.pinned (OpenSpec.ofChange topOrderWrong)

/-- 'contangotop.TopTelescopes': WHATEVER THE INPUT: true; the input reads as it did. -/
def topTelescopesSpec : ChangeSpec := { name := "topTelescopes", fn := fun _ => fun
  | [d] => { results := [.lit (.bool true)], args := [d] }
  | _ => none }
def topTelescopesRow : OpenClaim := { program := "ytgnmhfjfefgbfaa", sum := "9e1927b97eb7c44f621f6c0ee268b369df436b30be3232fef3bb2c9c575bb22d", func := "contango/contangotop.TopTelescopes", spec := "topTelescopes", unfollowed := true, recurses := true, plainKeys := false, apart := false }
def TopTelescopesSaid : Prop := topTelescopesRow.holds Try.pinned (OpenSpec.ofChange topTelescopesSpec)

/-- ITS FALSE NEIGHBOUR: 'it returns false'. Refute it at one input. -/
def topTelescopesWrong : ChangeSpec := { name := "topTelescopes", fn := fun _ => fun
  | [d] => { results := [.lit (.bool false)], args := [d] }
  | _ => none }
def TopTelescopesWrongFalsely : Prop := topTelescopesRow.holds Try.pinned (OpenSpec.ofChange topTelescopesWrong)

/-- 'contangotop.TopCallMet': WHATEVER THE INPUT: true; the input reads as it did. -/
def topCallMetSpec : ChangeSpec := { name := "topCallMet", fn := fun _ => fun
  | [d1, d2] => { results := [.lit (.bool true)], args := [d1, d2] }
  | _ => none }
def topCallMetRow : OpenClaim := { program := "ytgnmhfjfefgbfaa", sum := "9e1927b97eb7c44f621f6c0ee268b369df436b30be3232fef3bb2c9c575bb22d", func := "contango/contangotop.TopCallMet", spec := "topCallMet", unfollowed := true, recurses := true, named := ["math/bits.divideError", "math/bits.overflowError"], plainKeys := false, apart := false }
def TopCallMetSaid : Prop := topCallMetRow.holds Try.pinned (OpenSpec.ofChange topCallMetSpec)

/-- ITS FALSE NEIGHBOUR: 'it returns false'. Refute it at one input. -/
def topCallMetWrong : ChangeSpec := { name := "topCallMet", fn := fun _ => fun
  | [d1, d2] => { results := [.lit (.bool false)], args := [d1, d2] }
  | _ => none }
def TopCallMetWrongFalsely : Prop := topCallMetRow.holds Try.pinned (OpenSpec.ofChange topCallMetWrong)

/- THE SECOND FORM. 'bulk': how many values and letters a reading holds, each counted each time it is reached (what is shared counts as often as it is met; a slice's spare places count too). A statement '..UptoSaid' is the law's where the arguments, and the package variables that the reading takes, are together of bulk at most 1048576: NARROWER than '..Said'. Prove '..Said' where nothing that the law and all that it calls make is longer than what came in: it says more and counts as full. Else prove '..UptoSaid'. A law counts once. -/
mutual
def uptoBulk {H : Type} : DataW H → Nat
  | .lit (.string bytes) => bytes.length + 1
  | .lit _ => 1
  | .nil => 1
  | .ptr d => uptoBulk d + 1
  | .slice elems spare => uptoBulkAll elems + uptoBulkAll spare + 1
  | .agg parts => uptoBulkAll parts + 1
  | .iface _ d => uptoBulk d + 1
  | .map entries => uptoBulkEntries entries + 1
  | .held _ => 1
def uptoBulkAll {H : Type} : List (DataW H) → Nat
  | [] => 0
  | d :: r => uptoBulk d + uptoBulkAll r
def uptoBulkEntries {H : Type} : List (Lit × DataW H) → Nat
  | [] => 0
  | x :: r => uptoBulkEntry x + uptoBulkEntries r
def uptoBulkEntry {H : Type} : Lit × DataW H → Nat
  | (.string bytes, d) => bytes.length + uptoBulk d + 1
  | (_, d) => uptoBulk d + 1
 end
def uptoSmall : (H : Type) → List (DataW H) → Bool := fun _ ds => decide (uptoBulkAll ds ≤ 1048576)
def OpenSpec.upto (s : _root_.Go.ChangeSpec) : _root_.Go.OpenSpec := { _root_.Go.OpenSpec.ofChange s with cond := some uptoSmall }

/-- 'contangotop.TopPast', WHERE WHAT IT READS IS OF BULK AT MOST 1048576: true; the input reads as it did. -/
def topPastUptoRow : OpenClaim := { program := "ytgnmhfjfefgbfaa", sum := "9e1927b97eb7c44f621f6c0ee268b369df436b30be3232fef3bb2c9c575bb22d", func := "contango/contangotop.TopPast", spec := "topPast", unfollowed := true, recurses := true, plainKeys := false, apart := false, narrowed := true }
def TopPastUptoSaid : Prop := topPastUptoRow.holds Try.pinned (OpenSpec.upto topPastSpec)

/-- 'contangotop.TopSpreads', WHERE WHAT IT READS IS OF BULK AT MOST 1048576: true; the input reads as it did. -/
def topSpreadsUptoRow : OpenClaim := { program := "ytgnmhfjfefgbfaa", sum := "9e1927b97eb7c44f621f6c0ee268b369df436b30be3232fef3bb2c9c575bb22d", func := "contango/contangotop.TopSpreads", spec := "topSpreads", inPlace := ["slices.overlaps[int]"], unfollowed := true, recurses := true, named := ["math/bits.divideError", "math/bits.overflowError"], plainKeys := false, apart := false, narrowed := true }
def TopSpreadsUptoSaid : Prop := topSpreadsUptoRow.holds Try.pinned (OpenSpec.upto topSpreadsSpec)

/-- 'contangotop.TopLots', WHERE WHAT IT READS IS OF BULK AT MOST 1048576: true; the input reads as it did. -/
def topLotsUptoRow : OpenClaim := { program := "ytgnmhfjfefgbfaa", sum := "9e1927b97eb7c44f621f6c0ee268b369df436b30be3232fef3bb2c9c575bb22d", func := "contango/contangotop.TopLots", spec := "topLots", unfollowed := true, recurses := true, plainKeys := false, apart := false, narrowed := true }
def TopLotsUptoSaid : Prop := topLotsUptoRow.holds Try.pinned (OpenSpec.upto topLotsSpec)

/-- 'contangotop.TopOrder', WHERE WHAT IT READS IS OF BULK AT MOST 1048576: true; the input reads as it did. -/
def topOrderUptoRow : OpenClaim := { program := "ytgnmhfjfefgbfaa", sum := "9e1927b97eb7c44f621f6c0ee268b369df436b30be3232fef3bb2c9c575bb22d", func := "contango/contangotop.TopOrder", spec := "topOrder", unfollowed := true, recurses := true, plainKeys := false, apart := false, narrowed := true }
def TopOrderUptoSaid : Prop := topOrderUptoRow.holds Try.pinned (OpenSpec.upto topOrderSpec)

/-- 'contangotop.TopTelescopes', WHERE WHAT IT READS IS OF BULK AT MOST 1048576: true; the input reads as it did. -/
def topTelescopesUptoRow : OpenClaim := { program := "ytgnmhfjfefgbfaa", sum := "9e1927b97eb7c44f621f6c0ee268b369df436b30be3232fef3bb2c9c575bb22d", func := "contango/contangotop.TopTelescopes", spec := "topTelescopes", unfollowed := true, recurses := true, plainKeys := false, apart := false, narrowed := true }
def TopTelescopesUptoSaid : Prop := topTelescopesUptoRow.holds Try.pinned (OpenSpec.upto topTelescopesSpec)

/-- 'contangotop.TopCallMet', WHERE WHAT IT READS IS OF BULK AT MOST 1048576: true; the input reads as it did. -/
def topCallMetUptoRow : OpenClaim := { program := "ytgnmhfjfefgbfaa", sum := "9e1927b97eb7c44f621f6c0ee268b369df436b30be3232fef3bb2c9c575bb22d", func := "contango/contangotop.TopCallMet", spec := "topCallMet", unfollowed := true, recurses := true, named := ["math/bits.divideError", "math/bits.overflowError"], plainKeys := false, apart := false, narrowed := true }
def TopCallMetUptoSaid : Prop := topCallMetUptoRow.holds Try.pinned (OpenSpec.upto topCallMetSpec)

end Rows
end Go.Proofs.Ytgnmhfjfefgbfaa
