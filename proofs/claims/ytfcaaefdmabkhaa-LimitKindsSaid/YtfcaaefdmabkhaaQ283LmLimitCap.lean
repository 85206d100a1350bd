/- Limits: what counts is no more than what is worth. -/
import Derived.Test.YtfcaaefdmabkhaaQ283LmAsset
import Derived.Test.YtfcaaefdmabkhaaQ283LmAssetAll
import Derived.Test.YtfcaaefdmabkhaaQ283LmLimit
import Derived.Test.YtfcaaefdmabkhaaQ283LmName
import Derived.Test.YtfcaaefdmabkhaaQ283LmPledge
import Derived.Test.YtfcaaefdmabkhaaQ283LmPledgeOf
import Derived.Test.YtfcaaefdmabkhaaQ283LmPledgeTop
import Derived.Test.YtfcaaefdmabkhaaQ283LmPledgeW
import Derived.Test.YtfcaaefdmabkhaaQ283LmRate
import Derived.Test.YtfcaaefdmabkhaaQ283LmSums
import Derived.Test.YtfcaaefdmabkhaaQ283P0
namespace Go.Proofs.Ytfcaaefdmabkhaa.Pr
open Go.RowKit Go.Proofs.Ytfcaaefdmabkhaa.Pr Go.Proofs.YtfcaaefdmabkhaaW.PrintWords Go.Proofs.YtfcaaefdmabkhaaW.PrintLast Go.Proofs.YtfcaaefdmabkhaaW.PrintMore
set_option linter.unusedVariables false
set_option linter.unusedSimpArgs false
theorem wL_bd (L : List As) (R : List Rt) : ∀ (l : List Pled) (acc : List Int), (wL L R acc l).2 = 0 → (wL L R acc l).1 ≤ 1152921504606846976
 | [], acc, h => by
  have : wL L R acc [] = sumS acc := rfl
  rw [this] at h ⊢
  unfold sumS at *
  by_cases h1 : ∀ x ∈ acc, mdFits x
  ·rw [if_pos h1] at h ⊢
   by_cases h2 : mdFits acc.sum
   ·rw [if_pos h2]; exact h2.2
   rw [if_neg h2] at h; cases h
  rw [if_neg h1] at h; cases h
 | p :: t, acc, h => by
  rw [Qc7] at h ⊢
  by_cases h1 : (findA L p.f1 0 L.length).2.2.2.2.2.2 = true
  ·rw [if_pos h1] at h ⊢
   by_cases h2 : (worOf R (findA L p.f1 0 L.length) p.f2).2 = 0
   ·rw [if_pos h2] at h ⊢
    exact wL_bd L R t _ h
   rw [if_neg h2] at h; exact absurd h h2
  rw [if_neg h1] at h; cases h
theorem pw_bd {l : List Pled} {a b : ByteArray} {L : List As} {R : List Rt} (h : (pwS l a b L R).2 = 0) : sumW L R (ofP a b l) ≤ 1152921504606846976 := by
 have h0 := (Qcz h).2
 rw [← h0]
 unfold pwS at *
 by_cases h1 : chkP l = 0
 ·rw [if_pos h1] at h ⊢
  by_cases h2 : chkAll L = 0
  ·rw [if_pos h2] at h ⊢
   exact wL_bd L R _ _ h
  rw [if_neg h2] at h; exact absurd h h2
 rw [if_neg h1] at h; exact absurd h h1
end Go.Proofs.Ytfcaaefdmabkhaa.Pr
