/- AssetLeast: the result of Units is the smallest sufficient number. -/
import Derived.Test.YtaiekjimdjlgbaaQAC7LmAsset
import Derived.Test.YtaiekjimdjlgbaaQAC7LmAssetLow
import Derived.Test.YtaiekjimdjlgbaaQAC7LmRate
import Derived.Test.YtaiekjimdjlgbaaQAC7LmRate2
import Derived.Test.YtaiekjimdjlgbaaQAC7P2
import Derived.Test.YtaiekjimdjlgbaaQAC7P3
import Derived.Test.YtaiekjimdjlgbaaQAC7PrxDAssetLeast
import Derived.Test.YtaiekjimdjlgbaaQAC7P0
namespace Go.Proofs.Ytaiekjimdjlgbaa.Pure
open Go.RowKit Go.Proofs.Ytaiekjimdjlgbaa.Pr Go.Proofs.YtaiekjimdjlgbaaW.PrintWords Go.Proofs.YtaiekjimdjlgbaaW.PrintLast Go.Proofs.YtaiekjimdjlgbaaW.PrintMore
set_option linter.unusedVariables false
set_option linter.unusedSimpArgs false
theorem AssetLeast : contangolaw31_AssetLeast.Pure := by
  intro s kd cu un hc cp n l hs _ _ _ _ _ _ _ _ hok
  have hb := rt_big hok
  obtain ⟨K, hK⟩ : ∃ K, K = s.size + szR l + 300 := ⟨_, rfl⟩
  refine ⟨K, ?_⟩
  obtain ⟨r, h1, _, u1, u2⟩ := units_spec s hs kd cu un hc cp n l hb K (by omega)
  have g : ((contangolaw31_goes.f K).bind fun t => some t) = some true := by rw [agoes K (by omega)]; rfl
  unfold contangolaw31_AssetLeast.f
  rw [h1, Option.bind_some]
  by_cases he : r.2 = 0
  · obtain ⟨hA, hq, e0, e1, e2⟩ := u2 he
    rw [if_pos he, IntWalk.wrap64_in (r.1 - 1) (by omega), worth_eq s kd cu un hc cp _ l K (by omega), Option.bind_some, worth_eq s kd cu un hc cp _ l K (by omega), Option.bind_some, hA, if_pos e1, if_pos e0]
    by_cases hz : r.1 = 0
    · rw [if_pos hz, g]
    · rw [if_neg hz, if_pos (e2 hz).2, if_pos (e2 hz).1, g]
  · rw [if_neg he, if_pos (u1 he), g]
end Go.Proofs.Ytaiekjimdjlgbaa.Pure
