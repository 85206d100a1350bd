/- RateChecks: Check and Find agree with the reference. -/
import Derived.Test.YtaembbndjpebhaaQ2A6LmRate
import Derived.Test.YtaembbndjpebhaaQ2A6LmRate2
import Derived.Test.YtaembbndjpebhaaQ2A6P1
import Derived.Test.YtaembbndjpebhaaQ2A6PrxDRateChecks
import Derived.Test.YtaembbndjpebhaaQ2A6P0
namespace Go.Proofs.Ytaembbndjpebhaa.Pure
open Go.RowKit Go.Proofs.Ytaembbndjpebhaa.Pr Go.Proofs.YtaembbndjpebhaaW.PrintWords Go.Proofs.YtaembbndjpebhaaW.PrintLast Go.Proofs.YtaembbndjpebhaaW.PrintMore
set_option linter.unusedVariables false
set_option linter.unusedSimpArgs false
theorem RateChecks : contangolaw08_RateChecks.Pure := by
  intro l s _ hl hok _
  have hb := rt_big hok
  have hlen : l.length ≤ 4611686018427387904 := by omega
  obtain ⟨K, hK⟩ : ∃ K, K = szR l + l.length + 100 := ⟨_, rfl⟩
  refine ⟨K, ?_⟩
  unfold contangolaw08_RateChecks.f
  rw [find_eq s l hlen K (by omega), Option.bind_some, rfind_eq s l hlen K (by omega), Option.bind_some, rcheck_eq8 l K (by omega), Option.bind_some, rrcheck_eq8 l hb K (by omega), Option.bind_some, if_pos rfl, if_pos rfl, if_pos (by simp), rgoes8 K (by omega)]
  rfl
end Go.Proofs.Ytaembbndjpebhaa.Pure
