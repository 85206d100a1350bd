/- LimitKinds: what pledges are worth by kinds; together it is all that they are worth. -/
import Derived.Test.YtfcaaefdmabkhaaQ283LmAssetAll
import Derived.Test.YtfcaaefdmabkhaaQ283LmLimit
import Derived.Test.YtfcaaefdmabkhaaQ283LmLimitCap
import Derived.Test.YtfcaaefdmabkhaaQ283LmLimitKind
import Derived.Test.YtfcaaefdmabkhaaQ283LmPledge
import Derived.Test.YtfcaaefdmabkhaaQ283LmPledge2
import Derived.Test.YtfcaaefdmabkhaaQ283LmPledgeOf
import Derived.Test.YtfcaaefdmabkhaaQ283LmPledgeTop
import Derived.Test.YtfcaaefdmabkhaaQ283LmPledgeW
import Derived.Test.YtfcaaefdmabkhaaQ283LmRate
import Derived.Test.YtfcaaefdmabkhaaQ283LmRate2
import Derived.Test.YtfcaaefdmabkhaaQ283P8
import Derived.Test.YtfcaaefdmabkhaaQ283P2
import Derived.Test.YtfcaaefdmabkhaaQ283PrxDLimitKinds
import Derived.Test.YtfcaaefdmabkhaaQ283P0
namespace Go.Proofs.Ytfcaaefdmabkhaa.Pure
open Go.RowKit Go.Proofs.Ytfcaaefdmabkhaa.Pr Go.Proofs.YtfcaaefdmabkhaaW.PrintWords Go.Proofs.YtfcaaefdmabkhaaW.PrintLast Go.Proofs.YtfcaaefdmabkhaaW.PrintMore
set_option linter.unusedVariables false
set_option linter.unusedSimpArgs false
theorem LimitKinds : contangolaw33_LimitKinds.Pure := by
 intro l a b n L R _ hok _ _ _ _ hokL _ hokR
 have hb := Qf7 hok
 have hbL := as_big hokL
 have hbR := rt_big hokR
 obtain ⟨K, hK⟩ : ∃ K, K = 14000 + szsP l + szA L + szR R := ⟨_, rfl⟩
 refine ⟨K, ?_⟩
 have g : ((Qa0.f K).bind fun t => some t) = some true := by rw [goes33 K (by omega)]; rfl
 unfold contangolaw33_LimitKinds.f
 cases hf : QbO.f l a b n L R with
 | none =>
  unfold QbO.f at hf
  (repeat' split at hf) <;> cases hf
 | some f =>
  rw [Option.bind_some]
  cases f with
  | false => rw [if_neg (by simp), g]
  | true =>
   rw [if_pos rfl, Qft l a b L R K (by omega), Option.bind_some, Qe8 l hb a b L R hbL hbR K (by omega), Option.bind_some, Qdf l hb a b L R hbL hbR K (by omega), Option.bind_some, if_pos rfl, if_pos rfl, if_pos rfl, if_pos rfl, if_pos rfl]
   unfold kindS
   by_cases h : (pwS l a b L R).2 = 0
   ·have hbd := pw_bd h
    have hs := kS_sum L R (ofP a b l) 0 0 0
    rw [if_pos h, if_pos rfl, if_pos rfl, (Qcz h).2, g]
    have w : ∀ x y z s : Int, x + y + z = 0 + 0 + 0 + s → -9223372036854775808 ≤ s → s ≤ 9223372036854775807 → wrap64 (wrap64 (x + y) + z) = s := fun x y z s e e1 e2 => by unfold wrap64; omega
    have hn := Qc6 L R _ (Qcz h).1
    rw [if_pos (w _ _ _ _ hs (by omega) (by omega))]
   rw [if_neg h, if_neg h, g]
end Go.Proofs.Ytfcaaefdmabkhaa.Pure
