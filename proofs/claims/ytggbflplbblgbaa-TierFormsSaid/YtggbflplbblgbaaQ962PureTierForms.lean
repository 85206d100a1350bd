/- TierForms: Check, Form and Charge agree with the reference. -/
import Derived.Test.YtggbflplbblgbaaQ962LmTier
import Derived.Test.YtggbflplbblgbaaQ962LmTier3
import Derived.Test.YtggbflplbblgbaaQ962LmTier4
import Derived.Test.YtggbflplbblgbaaQ962P4
import Derived.Test.YtggbflplbblgbaaQ962PrxDTierForms
import Derived.Test.YtggbflplbblgbaaQ962P0
namespace Go.Proofs.Ytggbflplbblgbaa.Pure
open Go.RowKit Go.Proofs.Ytggbflplbblgbaa.Pr Go.Proofs.YtggbflplbblgbaaW.PrintWords Go.Proofs.YtggbflplbblgbaaW.PrintLast Go.Proofs.YtggbflplbblgbaaW.PrintMore
set_option linter.unusedVariables false
set_option linter.unusedSimpArgs false
theorem TierForms : contangolaw24_TierForms.Pure := by
 intro x0 x1 l _ _ _ _ _ _ _ _ _
 refine ⟨20003, ?_⟩
 have j : ∀ t : Bool, (t = false → x0.length ≤ 200 ∧ x1.length ≤ 200 ∧ l.length ≤ 1100) → contangolaw24_TierForms.j0 20003 x0 x1 l t = some true := by
  intro t ht
  rw [contangolaw24_TierForms.j0]
  cases t with
  | true => rw [if_pos rfl, goes24 20002 (by omega)]; rfl
  | false =>
   obtain ⟨h1, h2, h3⟩ := ht rfl
   obtain ⟨g1, g2⟩ := QdP x0 x1 l h2
   have g3 := QcT x0 x1 l h3 h2
   rw [if_neg (by decide), QbR x0 x1 l h1 h2 20002 (by omega), Option.bind_some, QcN x0 x1 l h1 h2 20002 (by omega), Option.bind_some, Qdp x0 x1 l h1 h2 20002 (by omega), Option.bind_some, Qdd x0 x1 l h1 h2 20002 (by omega), Option.bind_some,
    QbH _ (by omega) 20002 (by omega), Option.bind_some, if_pos rfl, QbH _ (by omega) 20002 (by omega), Option.bind_some, if_pos rfl, if_pos rfl, if_pos rfl, QbH _ (by omega) 20002 (by omega), Option.bind_some, if_pos rfl, bne_self_eq_false,
    contangolaw24_TierForms.j1, if_neg (by decide), Qc5 l 20001 (by omega), Option.bind_some, QcO l 20001 (by omega), Option.bind_some, if_pos rfl, goes24 20001 (by omega)]
   rfl
 unfold contangolaw24_TierForms.f
 by_cases h1 : (x0.length : Int) > 200
 ·rw [if_pos h1]; exact j true (fun e => by cases e)
 rw [if_neg h1]
 by_cases h2 : (x1.length : Int) > 200
 ·rw [if_pos h2]; exact j true (fun e => by cases e)
 rw [if_neg h2]
 refine j _ (fun e => ?_)
 have := of_decide_eq_false e
 omega
end Go.Proofs.Ytggbflplbblgbaa.Pure
