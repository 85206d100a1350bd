/- PledgeWorths: Worth agrees with the reference. -/
import Derived.Test.YtaiekjimdjlgbaaQF9ELmAssetAll
import Derived.Test.YtaiekjimdjlgbaaQF9ELmPledge
import Derived.Test.YtaiekjimdjlgbaaQF9ELmPledge2
import Derived.Test.YtaiekjimdjlgbaaQF9ELmPledgeW
import Derived.Test.YtaiekjimdjlgbaaQF9ELmRate
import Derived.Test.YtaiekjimdjlgbaaQF9ELmRate2
import Derived.Test.YtaiekjimdjlgbaaQF9EP3
import Derived.Test.YtaiekjimdjlgbaaQF9EP6
import Derived.Test.YtaiekjimdjlgbaaQF9EPrxDPledgeWorths
import Derived.Test.YtaiekjimdjlgbaaQF9EP0
namespace Go.Proofs.Ytaiekjimdjlgbaa.Pure
open Go.RowKit Go.Proofs.Ytaiekjimdjlgbaa.Pr Go.Proofs.YtaiekjimdjlgbaaW.PrintWords Go.Proofs.YtaiekjimdjlgbaaW.PrintLast Go.Proofs.YtaiekjimdjlgbaaW.PrintMore
set_option linter.unusedVariables false
set_option linter.unusedSimpArgs false
theorem PledgeWorths : contangolaw32_PledgeWorths.Pure := by
  intro l a b L R _ _ hok _ _ _ hokL _ hokR
  have hb := pok_big hok
  have hbL := as_big hokL
  have hbR := rt_big hokR
  obtain ⟨K, hK⟩ : ∃ K, K = 8000 + szsP l + szA L + szR R := ⟨_, rfl⟩
  refine ⟨K + 1, ?_⟩
  have g : ∀ k, 60 ≤ k → ((contangolaw32_goes.f k).bind fun t => some t) = some true := fun k hk => by rw [pgoes k hk]; rfl
  have hT : contangolaw32_PledgeWorths.j0 (K + 1) l true a b L R = some true := by
    rw [contangolaw32_PledgeWorths.j0, if_pos rfl, g K (by omega)]
  unfold contangolaw32_PledgeWorths.f
  by_cases h1 : (l.length : Int) > 300
  · rw [if_pos h1, hT]
  · rw [if_neg h1]
    by_cases h2 : (L.length : Int) > 1100
    · rw [if_pos h2, hT]
    · rw [if_neg h2]
      by_cases h3 : (R.length : Int) > 100
      · rw [decide_eq_true h3, hT]
      · rw [decide_eq_false h3, contangolaw32_PledgeWorths.j0, if_neg (by simp), pworth_eq l a b L R (by omega) (by omega) K (by omega), Option.bind_some, rpworth_eq l hb a b L R (by omega) (by omega) hbL hbR K (by omega), Option.bind_some, if_pos rfl, if_pos rfl, g K (by omega)]
end Go.Proofs.Ytaiekjimdjlgbaa.Pure
