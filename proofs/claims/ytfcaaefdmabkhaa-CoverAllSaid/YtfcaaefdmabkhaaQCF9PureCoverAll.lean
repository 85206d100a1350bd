/- CoverAll: All agrees with the reference. -/
import Derived.Test.YtfcaaefdmabkhaaQCF9LmAssetAll
import Derived.Test.YtfcaaefdmabkhaaQCF9LmCover0
import Derived.Test.YtfcaaefdmabkhaaQCF9LmCoverA
import Derived.Test.YtfcaaefdmabkhaaQCF9LmPledge
import Derived.Test.YtfcaaefdmabkhaaQCF9LmPledge2
import Derived.Test.YtfcaaefdmabkhaaQCF9LmRate
import Derived.Test.YtfcaaefdmabkhaaQCF9LmRate2
import Derived.Test.YtfcaaefdmabkhaaQCF9P9
import Derived.Test.YtfcaaefdmabkhaaQCF9PrxDCoverAll
import Derived.Test.YtfcaaefdmabkhaaQCF9P0
namespace Go.Proofs.Ytfcaaefdmabkhaa.Pure
open Go.RowKit Go.Proofs.Ytfcaaefdmabkhaa.Pr Go.Proofs.YtfcaaefdmabkhaaW.PrintWords Go.Proofs.YtfcaaefdmabkhaaW.PrintLast Go.Proofs.YtfcaaefdmabkhaaW.PrintMore
set_option linter.unusedVariables false
set_option linter.unusedSimpArgs false
theorem CoverAll : contangolaw34_CoverAll.Pure := by
 intro x l L R _ _ _ _ hok _ hokL _ hokR
 have hb := Qgp hok
 have hbL := as_big hokL
 have hbR := rt_big hokR
 obtain ⟨K, hK⟩ : ∃ K, K = 10000 + szsP l + szA L + szR R := ⟨_, rfl⟩
 refine ⟨K + 1, ?_⟩
 have hc := Qfv l L R x
 have j : ∀ t : Bool, contangolaw34_CoverAll.j0 (K + 1) x t l L R = some true := by
  intro t
  rw [contangolaw34_CoverAll.j0]
  cases t with
  | true => rw [if_pos rfl, goes34 K (by omega)]; rfl
  | false =>
   rw [if_neg (by simp), Qf9 l L R x K (by omega), Option.bind_some, Qfk l hb L R hbL hbR x K (by omega), Option.bind_some]
   unfold mapR
   rw [Qes _ (by omega) K (by omega), Option.bind_some, if_pos rfl, if_pos rfl, goes34 K (by omega)]
   rfl
 unfold contangolaw34_CoverAll.f
 (repeat' split) <;> exact j _
end Go.Proofs.Ytfcaaefdmabkhaa.Pure
