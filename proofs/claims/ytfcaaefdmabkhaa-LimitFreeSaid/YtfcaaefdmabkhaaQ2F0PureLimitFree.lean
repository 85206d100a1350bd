/- LimitFree: Free agrees with the reference. -/
import Derived.Test.YtfcaaefdmabkhaaQ2F0LmAssetAll
import Derived.Test.YtfcaaefdmabkhaaQ2F0LmLimit
import Derived.Test.YtfcaaefdmabkhaaQ2F0LmLimitFr
import Derived.Test.YtfcaaefdmabkhaaQ2F0LmLimitRf
import Derived.Test.YtfcaaefdmabkhaaQ2F0LmPledge
import Derived.Test.YtfcaaefdmabkhaaQ2F0LmPledge2
import Derived.Test.YtfcaaefdmabkhaaQ2F0LmRate
import Derived.Test.YtfcaaefdmabkhaaQ2F0LmRate2
import Derived.Test.YtfcaaefdmabkhaaQ2F0P6
import Derived.Test.YtfcaaefdmabkhaaQ2F0P8
import Derived.Test.YtfcaaefdmabkhaaQ2F0P0
import Derived.Test.YtfcaaefdmabkhaaQ2F0PrxDLimitFree
namespace Go.Proofs.Ytfcaaefdmabkhaa.Pure
open Go.RowKit Go.Proofs.Ytfcaaefdmabkhaa.Pr Go.Proofs.YtfcaaefdmabkhaaW.PrintWords Go.Proofs.YtfcaaefdmabkhaaW.PrintLast Go.Proofs.YtfcaaefdmabkhaaW.PrintMore
set_option linter.unusedVariables false
set_option linter.unusedSimpArgs false
theorem LimitFree : contangolaw33_LimitFree.Pure := by
 intro l a b n L R s _ hok ha hb' _ _ hokL _ hokR hs
 have hb := Qg4 hok
 have hbL := as_big hokL
 have hbR := rt_big hokR
 obtain ⟨K, hK⟩ : ∃ K, K = (hadP (a, b, s) l).toNat + 9100 + szsP l + (a.size + b.size + s.size) + szA L + szR R := ⟨_, rfl⟩
 refine ⟨K, ?_⟩
 have g : ((Qbf.f K).bind fun t => some t) = some true := by rw [goes33 K (by omega)]; rfl
 unfold contangolaw33_LimitFree.f
 cases hf : QbU.f l a b n L R with
 | none =>
  unfold QbU.f at hf
  (repeat' split at hf) <;> cases hf
 | some f =>
  rw [Option.bind_some]
  cases f with
  | false => rw [if_neg (by simp), g]
  | true =>
   obtain ⟨v, e, v1, v2⟩ := Qdr l (a, b, s) n L R K (by omega)
   obtain ⟨u, f, u1, u2⟩ := Qgv l hb (a, b, s) ⟨ha, hb', by show s.size ≤ _; omega⟩ n L R hbL hbR K (by show _ + _ + _ + (a.size + b.size + s.size) + _ + _ ≤ _; omega)
   obtain ⟨e1, e2⟩ := QfA v2 u2
   simp only at v1 u1
   rw [if_pos rfl, v1, Option.bind_some, u1, Option.bind_some, if_pos e1, if_pos e2, g]
end Go.Proofs.Ytfcaaefdmabkhaa.Pure
