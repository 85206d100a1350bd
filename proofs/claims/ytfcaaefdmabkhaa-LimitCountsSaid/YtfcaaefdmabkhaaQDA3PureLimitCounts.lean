/- LimitCounts: Counted and Cover agree with the reference. -/
import Derived.Test.YtfcaaefdmabkhaaQDA3LmAssetAll
import Derived.Test.YtfcaaefdmabkhaaQDA3LmLimit
import Derived.Test.YtfcaaefdmabkhaaQDA3LmPledge
import Derived.Test.YtfcaaefdmabkhaaQDA3LmPledge2
import Derived.Test.YtfcaaefdmabkhaaQDA3LmRate
import Derived.Test.YtfcaaefdmabkhaaQDA3LmRate2
import Derived.Test.YtfcaaefdmabkhaaQDA3P8
import Derived.Test.YtfcaaefdmabkhaaQDA3P3
import Derived.Test.YtfcaaefdmabkhaaQDA3PrxDLimitCounts
import Derived.Test.YtfcaaefdmabkhaaQDA3P0
namespace Go.Proofs.Ytfcaaefdmabkhaa.Pure
open Go.RowKit Go.Proofs.Ytfcaaefdmabkhaa.Pr Go.Proofs.YtfcaaefdmabkhaaW.PrintWords Go.Proofs.YtfcaaefdmabkhaaW.PrintLast Go.Proofs.YtfcaaefdmabkhaaW.PrintMore
set_option linter.unusedVariables false
set_option linter.unusedSimpArgs false
theorem LimitCounts : contangolaw33_LimitCounts.Pure := by
 intro l a b n L R _ hok _ _ _ _ hokL _ hokR
 have hb := Qgd hok
 have hbL := as_big hokL
 have hbR := rt_big hokR
 obtain ⟨K, hK⟩ : ∃ K, K = 8000 + szsP l + szA L + szR R := ⟨_, rfl⟩
 refine ⟨K, ?_⟩
 have hc := Qdz l a b n L R
 have g : ((Qa6.f K).bind fun t => some t) = some true := by rw [goes33 K (by omega)]; rfl
 unfold contangolaw33_LimitCounts.f
 cases h : QbQ.f l a b n L R with
 | none =>
  unfold QbQ.f at h
  (repeat' split at h) <;> cases h
 | some f =>
  rw [Option.bind_some]
  cases f with
  | false => rw [if_neg (by simp), g]
  | true => rw [if_pos rfl, Qdn l a b n L R K (by omega), Option.bind_some, Qda l hb a b n L R hbL hbR K (by omega), Option.bind_some, Qfo l a b n L R K (by omega), Option.bind_some, Qfc l hb a b n L R hbL hbR K (by omega), Option.bind_some, Qe0 _ (by omega) K (by omega), Option.bind_some, if_pos rfl, if_pos rfl, if_pos rfl, if_pos rfl, g]
end Go.Proofs.Ytfcaaefdmabkhaa.Pure
