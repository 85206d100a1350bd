/- RateRises: larger amounts convert to no less. -/
import Derived.Test.YtaembbndjpebhaaQ2A6LmRate2
import Derived.Test.YtaembbndjpebhaaQ2A6LmRate3
import Derived.Test.YtaembbndjpebhaaQ2A6P0
import Derived.Test.YtaembbndjpebhaaQ2A6P3
import Derived.Test.YtaembbndjpebhaaQ2A6PrxDRateRises
namespace Go.Proofs.Ytaembbndjpebhaa.Pure
open Go.RowKit Go.Proofs.Ytaembbndjpebhaa.Pr Go.Proofs.YtaembbndjpebhaaW.PrintWords Go.Proofs.YtaembbndjpebhaaW.PrintLast Go.Proofs.YtaembbndjpebhaaW.PrintMore
set_option linter.unusedVariables false
set_option linter.unusedSimpArgs false
theorem RateRises : contangolaw08_RateRises.Pure := by
  intro l x y a b m _ _ _ _ _ _ _ _
  refine ⟨100, ?_⟩
  unfold contangolaw08_RateRises.f
  rw [conv_eq l _ _ _ _ 100 (by omega), Option.bind_some, conv_eq l _ _ _ _ 100 (by omega), Option.bind_some, rgoes8 100 (by omega)]
  have hmn : mn x y ≤ mx x y := by unfold mn mx; (repeat' split) <;> omega
  by_cases h1 : (convS l (mn x y) a b m).2 = 0
  · rw [if_pos h1]
    by_cases h2 : (convS l (mx x y) a b m).2 = 0
    · rw [if_pos h2]
      obtain ⟨hc, ha, hb, _, _, e1⟩ := convS_ok l _ _ _ _ h1
      obtain ⟨_, _, _, _, _, e2⟩ := convS_ok l _ _ _ _ h2
      have ra := inR_rate l hc a ha
      have rb := inR_rate l hc b hb
      have := mdV_mono (mn x y) (mx x y) _ _ m hmn (show 0 < (rd_T87 l a).f1 by omega) (show 0 < (rd_T87 l b).f1 by omega)
      rw [e1, e2, if_pos this]
      rfl
    · rw [if_neg h2]; rfl
  · rw [if_neg h1]; rfl
end Go.Proofs.Ytaembbndjpebhaa.Pure
