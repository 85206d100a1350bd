/- Cover: the lack, by the program and by the reference; the page's examples. -/
import Derived.Test.YtfcaaefdmabkhaaQ629P3
import Derived.Test.YtfcaaefdmabkhaaQ629P0
import Derived.Test.YtfcaaefdmabkhaaQ629P2
import Derived.Test.YtfcaaefdmabkhaaQ629P7
namespace Go.Proofs.Ytfcaaefdmabkhaa.Pr
open Go.RowKit Go.Proofs.Ytfcaaefdmabkhaa.Pr Go.Proofs.YtfcaaefdmabkhaaW.PrintWords Go.Proofs.YtfcaaefdmabkhaaW.PrintLast Go.Proofs.YtfcaaefdmabkhaaW.PrintMore
set_option linter.unusedVariables false
set_option linter.unusedSimpArgs false
def lackS (n c : Int) : Int × Int := if (0 ≤ n ∧ n ≤ 1152921504606846976) ∧ (0 ≤ c ∧ c ≤ 1152921504606846976) then (mx (n - c) 0, 0) else (0, 2)
theorem QcC (n : Int) : Qbj.f n = some (decide (0 ≤ n ∧ n ≤ 1152921504606846976)) := by
 unfold Qbj.f
 by_cases h : n ≥ 0
 ·rw [if_pos h]
  congr 1
  exact decide_eq_decide.2 ⟨fun x => ⟨by omega, x⟩, fun x => x.2⟩
 ·rw [if_neg h, decide_eq_false (by omega)]
theorem QfW (n c : Int) : Qbz.f n c = some (lackS n c) := by
 unfold Qbz.f lackS
 rw [QcC, Option.bind_some, QcC, Option.bind_some]
 by_cases h1 : 0 ≤ n ∧ n ≤ 1152921504606846976
 ·rw [if_pos (decide_eq_true h1)]
  by_cases h2 : 0 ≤ c ∧ c ≤ 1152921504606846976
  ·rw [if_pos (decide_eq_true h2), if_pos ⟨h1, h2⟩, IntWalk.wrap64_in (n - c) (by omega)]
  ·rw [if_neg (by simp [h2]), if_neg (by simp [h2])]
 ·rw [if_neg (by simp [h1]), if_neg (by simp [h1])]
end Go.Proofs.Ytfcaaefdmabkhaa.Pr
