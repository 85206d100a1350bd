/- RateTotals: Total agrees with the reference. -/
import Derived.Test.YtaembbndjpebhaaQ2A6LmRate
import Derived.Test.YtaembbndjpebhaaQ2A6LmRate2
import Derived.Test.YtaembbndjpebhaaQ2A6P2
import Derived.Test.YtaembbndjpebhaaQ2A6PrxDRateTotals
import Derived.Test.YtaembbndjpebhaaQ2A6P0
namespace Go.Proofs.Ytaembbndjpebhaa.Pure
open Go.RowKit Go.Proofs.Ytaembbndjpebhaa.Pr Go.Proofs.YtaembbndjpebhaaW.PrintWords Go.Proofs.YtaembbndjpebhaaW.PrintLast Go.Proofs.YtaembbndjpebhaaW.PrintMore
set_option linter.unusedVariables false
set_option linter.unusedSimpArgs false
theorem RateTotals : contangolaw08_RateTotals.Pure := by
  intro l n m _ _ hok _ _ _ _
  have hb := rt_big hok
  obtain ⟨K, hK⟩ : ∃ K, K = szR l + 200 := ⟨_, rfl⟩
  refine ⟨K, ?_⟩
  unfold contangolaw08_RateTotals.f
  rw [total_eq l n m K (by omega), Option.bind_some, rtotal_eq l hb n m K (by omega), Option.bind_some, if_pos rfl, if_pos rfl, rgoes8 K (by omega)]
  rfl
end Go.Proofs.Ytaembbndjpebhaa.Pure
