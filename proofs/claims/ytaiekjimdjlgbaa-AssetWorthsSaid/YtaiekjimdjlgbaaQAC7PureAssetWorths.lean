/- AssetWorths: Value and Worth agree with the reference. -/
import Derived.Test.YtaiekjimdjlgbaaQAC7LmAsset
import Derived.Test.YtaiekjimdjlgbaaQAC7LmAssetLow
import Derived.Test.YtaiekjimdjlgbaaQAC7LmRate
import Derived.Test.YtaiekjimdjlgbaaQAC7LmRate2
import Derived.Test.YtaiekjimdjlgbaaQAC7P2
import Derived.Test.YtaiekjimdjlgbaaQAC7PrxDAssetWorths
import Derived.Test.YtaiekjimdjlgbaaQAC7P0
namespace Go.Proofs.Ytaiekjimdjlgbaa.Pure
open Go.RowKit Go.Proofs.Ytaiekjimdjlgbaa.Pr Go.Proofs.YtaiekjimdjlgbaaW.PrintWords Go.Proofs.YtaiekjimdjlgbaaW.PrintLast Go.Proofs.YtaiekjimdjlgbaaW.PrintMore
set_option linter.unusedVariables false
set_option linter.unusedSimpArgs false
theorem AssetWorths : contangolaw31_AssetWorths.Pure := by
  intro s kd cu un hc cp q l hs _ _ _ _ _ _ _ _ hok
  have hb := rt_big hok
  obtain ⟨K, hK⟩ : ∃ K, K = s.size + szR l + 300 := ⟨_, rfl⟩
  refine ⟨K, ?_⟩
  unfold contangolaw31_AssetWorths.f
  rw [value_eq s kd cu un hc cp q K (by omega), Option.bind_some, rvalue_eq s hs kd cu un hc cp q K (by omega), Option.bind_some, worth_eq s kd cu un hc cp q l K (by omega), Option.bind_some, rworth_eq s hs kd cu un hc cp q l hb K (by omega), Option.bind_some]
  rw [if_pos rfl, if_pos rfl, if_pos rfl, if_pos rfl, agoes K (by omega)]
  rfl
end Go.Proofs.Ytaiekjimdjlgbaa.Pure
