/- AssetChecks: Check, CheckAll and Find agree with the reference. -/
import Derived.Test.YtaiekjimdjlgbaaQAC7LmAsset
import Derived.Test.YtaiekjimdjlgbaaQAC7LmAssetAll
import Derived.Test.YtaiekjimdjlgbaaQAC7LmAssetLow
import Derived.Test.YtaiekjimdjlgbaaQAC7P4
import Derived.Test.YtaiekjimdjlgbaaQAC7PrxDAssetChecks
import Derived.Test.YtaiekjimdjlgbaaQAC7P0
namespace Go.Proofs.Ytaiekjimdjlgbaa.Pure
open Go.RowKit Go.Proofs.Ytaiekjimdjlgbaa.Pr Go.Proofs.YtaiekjimdjlgbaaW.PrintWords Go.Proofs.YtaiekjimdjlgbaaW.PrintLast Go.Proofs.YtaiekjimdjlgbaaW.PrintMore
set_option linter.unusedVariables false
set_option linter.unusedSimpArgs false
theorem AssetChecks : contangolaw31_AssetChecks.Pure := by
  intro l s kd cu un hc cp t _ hlen hok hs _ _ _ _ _ _
  have hb := as_big hok
  have hl : l.length ≤ 4611686018427387904 := by omega
  obtain ⟨K, hK⟩ : ∃ K, K = s.size + szA l + l.length + 1300 := ⟨_, rfl⟩
  refine ⟨K, ?_⟩
  unfold contangolaw31_AssetChecks.f
  rw [afind_eq l t hl K (by omega), Option.bind_some, rafind_eq l t hl K (by omega), Option.bind_some, acheck_eq s kd cu un hc cp K (by omega), Option.bind_some, racheck_eq s hs kd cu un hc cp K (by omega), Option.bind_some, if_pos rfl, checkAll_eq l K (by omega), Option.bind_some, rcheckAll_eq l hb K (by omega), Option.bind_some, if_pos rfl, agoes K (by omega)]
  simp
end Go.Proofs.Ytaiekjimdjlgbaa.Pure
