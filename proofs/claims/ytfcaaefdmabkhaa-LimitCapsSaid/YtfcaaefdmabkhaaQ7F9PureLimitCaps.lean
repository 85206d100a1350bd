/- LimitCaps: no pledge counts more than its part of the need, or than it is worth. -/
import Derived.Test.YtfcaaefdmabkhaaQ7F9LmAssetAll
import Derived.Test.YtfcaaefdmabkhaaQ7F9LmLimit
import Derived.Test.YtfcaaefdmabkhaaQ7F9LmLimitCap
import Derived.Test.YtfcaaefdmabkhaaQ7F9LmLimitCapL
import Derived.Test.YtfcaaefdmabkhaaQ7F9LmPledge
import Derived.Test.YtfcaaefdmabkhaaQ7F9LmPledge2
import Derived.Test.YtfcaaefdmabkhaaQ7F9LmPledgeOf
import Derived.Test.YtfcaaefdmabkhaaQ7F9LmPledgeTop
import Derived.Test.YtfcaaefdmabkhaaQ7F9LmPledgeW
import Derived.Test.YtfcaaefdmabkhaaQ7F9LmRate
import Derived.Test.YtfcaaefdmabkhaaQ7F9LmRate2
import Derived.Test.YtfcaaefdmabkhaaQ7F9P8
import Derived.Test.YtfcaaefdmabkhaaQ7F9P9
import Derived.Test.YtfcaaefdmabkhaaQ7F9P3
import Derived.Test.YtfcaaefdmabkhaaQ7F9PrxDLimitCaps
import Derived.Test.YtfcaaefdmabkhaaQ7F9P0
namespace Go.Proofs.Ytfcaaefdmabkhaa.Pure
open Go.RowKit Go.Proofs.Ytfcaaefdmabkhaa.Pr Go.Proofs.YtfcaaefdmabkhaaW.PrintWords Go.Proofs.YtfcaaefdmabkhaaW.PrintLast Go.Proofs.YtfcaaefdmabkhaaW.PrintMore
set_option linter.unusedVariables false
set_option linter.unusedSimpArgs false
theorem LimitCaps : contangolaw33_LimitCaps.Pure := by
 intro l a b n L R _ hok _ _ _ _ hokL _ hokR
 have hb := Qgd hok
 have hbL := as_big hokL
 have hbR := rt_big hokR
 obtain ⟨K, hK⟩ : ∃ K, K = 14000 + szsP l + szA L + szR R := ⟨_, rfl⟩
 refine ⟨K + 1, ?_⟩
 have g : ((Qa3.f (K + 1)).bind fun t => some t) = some true := by rw [goes33 (K + 1) (by omega)]; rfl
 unfold contangolaw33_LimitCaps.f
 cases hf : QbP.f l a b n L R with
 | none =>
  unfold QbP.f at hf
  (repeat' split at hf) <;> cases hf
 | some f =>
  rw [Option.bind_some]
  cases f with
  | false => rw [if_neg (by simp), g]
  | true =>
   rw [if_pos rfl, Qdp l a b n L R (K + 1) (by omega), Option.bind_some]
   by_cases h : (cntS l a b n L R).2 = 0
   ·obtain ⟨h1, h2, h3, h4⟩ := cov_ok h
    obtain ⟨hg, hL⟩ := QdG h1
    have hl := hg.1
    have hln := QcH a b l
    have hw := (Qcz h1).1
    have hs := (QdH L R n h2 _ hw).2
    rw [if_pos h, rof_eq a b l (by omega) (K + 1) (by omega), Option.bind_some, Qem l hb a b L R hbL hbR (K + 1) (by omega), Option.bind_some, Qfo l a b n L R (K + 1) (by omega), Option.bind_some, h4, h3, if_pos rfl, (Qcz h1).2, if_neg (by simp only; omega), List.length_map, bne_self_eq_false, contangolaw33_LimitCaps.j0, if_neg (by simp), show (0 : Int) = ((0 : Nat) : Int) from rfl]
    exact QeT a b l L R n h2 (ofP a b l) (by omega) (by omega) hw hbL hbR (ofP a b l).length 0 K (by omega) (by omega)
   have he : (cntS l a b n L R).1 = [] := by
    unfold cntS at *
    by_cases h1 : (pwS l a b L R).2 = 0
    ·rw [if_pos h1] at h ⊢
     by_cases h2 : moneyN n
     ·rw [if_pos h2] at h; exact absurd rfl h
     rw [if_neg h2]
    rw [if_neg h1]
   rw [if_neg h, he, if_pos (show (([] : List Int).length : Int) = 0 from rfl), g]
end Go.Proofs.Ytfcaaefdmabkhaa.Pure
