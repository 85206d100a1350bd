/- AssetUnits: Units agrees with the reference. -/
import Derived.Test.YtaiekjimdjlgbaaQAC7LmAssetLow
import Derived.Test.YtaiekjimdjlgbaaQAC7LmRate
import Derived.Test.YtaiekjimdjlgbaaQAC7LmRate2
import Derived.Test.YtaiekjimdjlgbaaQAC7P3
import Derived.Test.YtaiekjimdjlgbaaQAC7PrxDAssetUnits
import Derived.Test.YtaiekjimdjlgbaaQAC7P0
namespace Go.Proofs.Ytaiekjimdjlgbaa.Pure
open Go.RowKit Go.Proofs.Ytaiekjimdjlgbaa.Pr Go.Proofs.YtaiekjimdjlgbaaW.PrintWords Go.Proofs.YtaiekjimdjlgbaaW.PrintLast Go.Proofs.YtaiekjimdjlgbaaW.PrintMore
set_option linter.unusedVariables false
set_option linter.unusedSimpArgs false
theorem AssetUnits : contangolaw31_AssetUnits.Pure := by
  intro s kd cu un hc cp n l hs _ _ _ _ _ _ _ _ hok
  have hb := rt_big hok
  obtain ⟨K, hK⟩ : ∃ K, K = s.size + szR l + 300 := ⟨_, rfl⟩
  refine ⟨K, ?_⟩
  obtain ⟨r, h1, h2, _⟩ := units_spec s hs kd cu un hc cp n l hb K (by omega)
  unfold contangolaw31_AssetUnits.f
  rw [h1, Option.bind_some, h2, Option.bind_some, if_pos rfl, if_pos rfl, agoes K (by omega)]
  rfl
end Go.Proofs.Ytaiekjimdjlgbaa.Pure
