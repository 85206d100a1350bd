/- Cover: the lack, by the program and by the reference; the page's examples. -/
import Derived.Test.YtfcaaefdmabkhaaQ4A5P0
import Derived.Test.YtfcaaefdmabkhaaQ4A5P7
namespace Go.Proofs.Ytfcaaefdmabkhaa.Pr
open Go.RowKit Go.Proofs.Ytfcaaefdmabkhaa.Pr Go.Proofs.YtfcaaefdmabkhaaW.PrintWords Go.Proofs.YtfcaaefdmabkhaaW.PrintLast Go.Proofs.YtfcaaefdmabkhaaW.PrintMore
set_option linter.unusedVariables false
set_option linter.unusedSimpArgs false
theorem goes34 (k : Nat) (hk : 7000 ≤ k) : contangolaw34_goes.f k = some true := at_rounds contangolaw34_goes.mono (show 400 ≤ k by omega) (by decide +kernel)
def lackS (n c : Int) : Int × Int := if (0 ≤ n ∧ n ≤ 1152921504606846976) ∧ (0 ≤ c ∧ c ≤ 1152921504606846976) then (mx (n - c) 0, 0) else (0, 2)
theorem cmoney_eq (n : Int) : cover_money.f n = some (decide (0 ≤ n ∧ n ≤ 1152921504606846976)) := by
  unfold cover_money.f
  by_cases h : n ≥ 0
  · rw [if_pos h]
    congr 1
    exact decide_eq_decide.2 ⟨fun x => ⟨by omega, x⟩, fun x => x.2⟩
  · rw [if_neg h, decide_eq_false (by omega)]
theorem lack_eq (n c : Int) : cover_Lack.f n c = some (lackS n c) := by
  unfold cover_Lack.f lackS
  rw [cmoney_eq, Option.bind_some, cmoney_eq, Option.bind_some]
  by_cases h1 : 0 ≤ n ∧ n ≤ 1152921504606846976
  · rw [if_pos (decide_eq_true h1)]
    by_cases h2 : 0 ≤ c ∧ c ≤ 1152921504606846976
    · rw [if_pos (decide_eq_true h2), if_pos ⟨h1, h2⟩, IntWalk.wrap64_in (n - c) (by omega)]
    · rw [if_neg (by simp [h2]), if_neg (by simp [h2])]
  · rw [if_neg (by simp [h1]), if_neg (by simp [h1])]
theorem rlack_eq (n c : Int) : contangoref34_Lack.f n c = some (lackS n c) := by
  unfold contangoref34_Lack.f lackS
  by_cases h1 : n < 0
  · rw [if_pos h1, if_neg (by omega)]
  · rw [if_neg h1]
    by_cases h2 : n > 1152921504606846976
    · rw [if_pos h2, if_neg (by omega)]
    · rw [if_neg h2]
      by_cases h3 : c < 0
      · rw [if_pos h3, if_neg (by omega)]
      · rw [if_neg h3]
        by_cases h4 : c > 1152921504606846976
        · rw [if_pos h4, if_neg (by omega)]
        · rw [if_neg h4, if_pos (by omega), IntWalk.wrap64_in (n - c) (by omega)]
end Go.Proofs.Ytfcaaefdmabkhaa.Pr
