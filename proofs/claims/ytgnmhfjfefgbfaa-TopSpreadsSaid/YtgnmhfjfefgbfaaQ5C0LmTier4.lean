/- Tier: what spreads cost, what is outright, and when lists are the same (S146). -/
import Derived.Test.YtgnmhfjfefgbfaaQ5C0P0
import Derived.Test.YtgnmhfjfefgbfaaQ5C0LmCentsMd
import Derived.Test.YtgnmhfjfefgbfaaQ5C0P3
import Derived.Test.YtgnmhfjfefgbfaaQ5C0P2
import Derived.Test.YtgnmhfjfefgbfaaQ5C0P5
import Derived.Test.YtgnmhfjfefgbfaaQ5C0LmSums
import Derived.Test.YtgnmhfjfefgbfaaQ5C0LmTier
import Derived.Test.YtgnmhfjfefgbfaaQ5C0LmTier2
import Derived.Test.YtgnmhfjfefgbfaaQ5C0LmTier3
namespace Go.Proofs.Ytgnmhfjfefgbfaa.Pr
open Go.RowKit Go.Proofs.Ytgnmhfjfefgbfaa.Pr Go.Proofs.YtgnmhfjfefgbfaaW.PrintWords Go.Proofs.YtgnmhfjfefgbfaaW.PrintLast Go.Proofs.YtgnmhfjfefgbfaaW.PrintMore
set_option linter.unusedVariables false
set_option linter.unusedSimpArgs false
theorem QfA {days deltas : List Int} {l : List Sp} (h : (formS days deltas l).2.2 = 0) : spS l = 0 ∧ deltas.length = days.length ∧ dayOk days deltas ∧ formS days deltas l = ((runS days l deltas).1, (runS days l deltas).2, 0) := by
 unfold formS at *
 by_cases c1 : spS l = 0
 ·rw [if_pos c1] at h ⊢
  by_cases c2 : deltas.length = days.length
  ·rw [if_pos c2] at h ⊢
   by_cases c3 : dayOk days deltas
   ·rw [if_pos c3] at h ⊢
    exact ⟨c1, c2, c3, rfl⟩
   rw [if_neg c3] at h; cases h
  rw [if_neg c2] at h; cases h
 rw [if_neg c1] at h; exact absurd h c1
end Go.Proofs.Ytgnmhfjfefgbfaa.Pr
