/- RateConverts: Convert, Base and Cross agree with the reference. -/
import Derived.Test.YtaembbndjpebhaaQ2A6LmRate
import Derived.Test.YtaembbndjpebhaaQ2A6LmRate2
import Derived.Test.YtaembbndjpebhaaQ2A6P2
import Derived.Test.YtaembbndjpebhaaQ2A6PrxDRateConverts
import Derived.Test.YtaembbndjpebhaaQ2A6P0
namespace Go.Proofs.Ytaembbndjpebhaa.Pure
open Go.RowKit Go.Proofs.Ytaembbndjpebhaa.Pr Go.Proofs.YtaembbndjpebhaaW.PrintWords Go.Proofs.YtaembbndjpebhaaW.PrintLast Go.Proofs.YtaembbndjpebhaaW.PrintMore
set_option linter.unusedVariables false
set_option linter.unusedSimpArgs false
theorem RateConverts : contangolaw08_RateConverts.Pure := by
  intro l n a b m _ _ hok _ _ _ _
  have hb := rt_big hok
  obtain ⟨K, hK⟩ : ∃ K, K = szR l + 100 := ⟨_, rfl⟩
  refine ⟨K, ?_⟩
  unfold contangolaw08_RateConverts.f
  rw [conv_eq l _ _ _ _ K (by omega), Option.bind_some, rconv_eq l hb _ _ _ _ K (by omega), Option.bind_some, base_eq l _ _ _ K (by omega), Option.bind_some, rbase_eq l hb _ _ _ K (by omega), Option.bind_some, cross_eq l _ _ K (by omega), Option.bind_some, rcross_eq l hb _ _ K (by omega), Option.bind_some]
  rw [if_pos rfl, if_pos rfl, if_pos rfl, if_pos rfl, if_pos rfl, if_pos rfl, rgoes8 K (by omega)]
  rfl
end Go.Proofs.Ytaembbndjpebhaa.Pure
