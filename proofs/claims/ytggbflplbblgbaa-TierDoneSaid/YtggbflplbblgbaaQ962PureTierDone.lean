/- TierDone: no spread can be formed from the remaining deltas. -/
import Derived.Test.YtggbflplbblgbaaQ962LmTier2
import Derived.Test.YtggbflplbblgbaaQ962LmTier3
import Derived.Test.YtggbflplbblgbaaQ962LmTier4
import Derived.Test.YtggbflplbblgbaaQ962LmTier5
import Derived.Test.YtggbflplbblgbaaQ962P2
import Derived.Test.YtggbflplbblgbaaQ962PrxDTierDone
import Derived.Test.YtggbflplbblgbaaQ962P0
namespace Go.Proofs.Ytggbflplbblgbaa.Pure
open Go.RowKit Go.Proofs.Ytggbflplbblgbaa.Pr Go.Proofs.YtggbflplbblgbaaW.PrintWords Go.Proofs.YtggbflplbblgbaaW.PrintLast Go.Proofs.YtggbflplbblgbaaW.PrintMore
set_option linter.unusedVariables false
set_option linter.unusedSimpArgs false
theorem TierDone : contangolaw24_TierDone.Pure := by
 intro x0 x1 l _ _ _ _ _ _ _ _ _
 refine ⟨20003, ?_⟩
 have j : ∀ t : Bool, (t = false → x0.length ≤ 200 ∧ x1.length ≤ 200 ∧ l.length ≤ 1100) → contangolaw24_TierDone.j0 20003 x0 x1 l t = some true := by
  intro t ht
  rw [contangolaw24_TierDone.j0]
  cases t with
  | true => rw [if_pos rfl, goes24 20002 (by omega)]; rfl
  | false =>
   obtain ⟨h1, h2, h3⟩ := ht rfl
   rw [if_neg (by decide), QbR x0 x1 l h1 h2 20002 (by omega), Option.bind_some]
   by_cases g : (formS x0 x1 l).2.2 = 0
   ·obtain ⟨c1, c2, c3, e⟩ := QbM g
    obtain ⟨hl, hs⟩ := spS_ok c1
    have ne : ∀ s ∈ l, s.f0 ≠ s.f1 := fun s x => (hs s x).1.2.2
    obtain ⟨r1, r2, r3, r4, r5⟩ := Qbu x0 l ne x1 (Qbv c2 c3)
    have d := QcP x0 l ne x1 (Qbv c2 c3)
    have r1l := r1.1
    rw [e]
    dsimp only
    generalize (runS x0 l x1).2 = y at *
    have dy : dayOk x0 y := fun j hj => ⟨(c3 j hj).1, (c3 j hj).2.1, okL_rd r1 hj⟩
    have e2 : formS x0 y l = (List.replicate l.length 0, y, 0) := by
     unfold formS
     rw [if_pos c1, if_pos r1l, if_pos dy, QcQ x0 l ne y d]
    rw [if_pos rfl, QbR x0 y l h1 (by omega) 20002 (by omega), Option.bind_some, e2]
    exact Qdt l y hl (by omega) l.length 0 20002 (by omega) (by omega)
   rw [if_neg g, goes24 20002 (by omega)]
   rfl
 unfold contangolaw24_TierDone.f
 by_cases h1 : (x0.length : Int) > 200
 ·rw [if_pos h1]; exact j true (fun e => by cases e)
 rw [if_neg h1]
 by_cases h2 : (x1.length : Int) > 200
 ·rw [if_pos h2]; exact j true (fun e => by cases e)
 rw [if_neg h2]
 refine j _ (fun e => ?_)
 have := of_decide_eq_false e
 omega
end Go.Proofs.Ytggbflplbblgbaa.Pure
