/- Words and lemmas that the printed walks use, without those that these claims don't need. -/
import Derived.Test.YtgnmhfjfefgbfaaQ5C0WTab
namespace Go.Proofs.YtgnmhfjfefgbfaaW.PrintLast
def up (b : Nat → Bool) (i : Nat) : Nat → Bool := fun j => if j = i then true else b j
end Go.Proofs.YtgnmhfjfefgbfaaW.PrintLast
