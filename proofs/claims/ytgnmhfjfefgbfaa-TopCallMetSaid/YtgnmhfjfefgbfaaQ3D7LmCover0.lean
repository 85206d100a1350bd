/- Cover: the lack, by the program and by the reference; the page's examples. -/
import Derived.Test.YtgnmhfjfefgbfaaQ3D7P4
import Derived.Test.YtgnmhfjfefgbfaaQ3D7P0
namespace Go.Proofs.Ytgnmhfjfefgbfaa.Pr
open Go.RowKit Go.Proofs.Ytgnmhfjfefgbfaa.Pr Go.Proofs.YtgnmhfjfefgbfaaW.PrintWords Go.Proofs.YtgnmhfjfefgbfaaW.PrintLast Go.Proofs.YtgnmhfjfefgbfaaW.PrintMore
set_option linter.unusedVariables false
set_option linter.unusedSimpArgs false
def lackS (n c : Int) : Int × Int := if (0 ≤ n ∧ n ≤ 1152921504606846976) ∧ (0 ≤ c ∧ c ≤ 1152921504606846976) then (mx (n - c) 0, 0) else (0, 2)
theorem Qc1 (n : Int) : Qbz.f n = some (decide (0 ≤ n ∧ n ≤ 1152921504606846976)) := by
 unfold Qbz.f
 by_cases h : n ≥ 0
 ·rw [if_pos h]
  congr 1
  exact decide_eq_decide.2 ⟨fun x => ⟨by omega, x⟩, fun x => x.2⟩
 rw [if_neg h, decide_eq_false (by omega)]
theorem Qgg (n c : Int) : QbS.f n c = some (lackS n c) := by
 unfold QbS.f lackS
 rw [Qc1, Option.bind_some, Qc1, Option.bind_some]
 by_cases h1 : 0 ≤ n ∧ n ≤ 1152921504606846976
 ·rw [if_pos (decide_eq_true h1)]
  by_cases h2 : 0 ≤ c ∧ c ≤ 1152921504606846976
  ·rw [if_pos (decide_eq_true h2), if_pos ⟨h1, h2⟩, IntWalk.wrap64_in (n - c) (by omega)]
  rw [if_neg (by simp [h2]), if_neg (by simp [h2])]
 rw [if_neg (by simp [h1]), if_neg (by simp [h1])]
end Go.Proofs.Ytgnmhfjfefgbfaa.Pr
