/- TierKeeps: the remaining deltas have the same sum as the original ones and are no larger. -/
import Derived.Test.YtggbflplbblgbaaQ962LmName
import Derived.Test.YtggbflplbblgbaaQ962LmTier2
import Derived.Test.YtggbflplbblgbaaQ962LmTier3
import Derived.Test.YtggbflplbblgbaaQ962LmTier4
import Derived.Test.YtggbflplbblgbaaQ962LmTier5
import Derived.Test.YtggbflplbblgbaaQ962P2
import Derived.Test.YtggbflplbblgbaaQ962PrxDTierKeeps
import Derived.Test.YtggbflplbblgbaaQ962P0
namespace Go.Proofs.Ytggbflplbblgbaa.Pure
open Go.RowKit Go.Proofs.Ytggbflplbblgbaa.Pr Go.Proofs.YtggbflplbblgbaaW.PrintWords Go.Proofs.YtggbflplbblgbaaW.PrintLast Go.Proofs.YtggbflplbblgbaaW.PrintMore
set_option linter.unusedVariables false
set_option linter.unusedSimpArgs false
theorem TierKeeps : contangolaw24_TierKeeps.Pure := by
 intro x0 x1 l _ _ _ _ _ _ _ _ _
 refine ⟨20003, ?_⟩
 have j : ∀ t : Bool, (t = false → x0.length ≤ 200 ∧ x1.length ≤ 200 ∧ l.length ≤ 1100) → contangolaw24_TierKeeps.j0 20003 x0 x1 l t = some true := by
  intro t ht
  rw [contangolaw24_TierKeeps.j0]
  cases t with
  | true => rw [if_pos rfl, goes24 20002 (by omega)]; rfl
  | false =>
   obtain ⟨h1, h2, h3⟩ := ht rfl
   rw [if_neg (by decide), QbR x0 x1 l h1 h2 20002 (by omega), Option.bind_some]
   by_cases g : (formS x0 x1 l).2.2 = 0
   ·obtain ⟨c1, c2, c3, e⟩ := QbM g
    obtain ⟨hl, hs⟩ := spS_ok c1
    obtain ⟨r1, r2, r3, r4, r5⟩ := Qbu x0 l (fun s x => (hs s x).1.2.2) x1 (Qbv c2 c3)
    rw [e]
    dsimp only
    rw [if_pos rfl, if_pos (show (((runS x0 l x1).2.length : Nat) : Int) = (x1.length : Int) by rw [r1.1, c2]), r5, bne_self_eq_false, contangolaw24_TierKeeps.j1, if_neg (by decide)]
    have r1l := r1.1
    exact Qdb x1 (runS x0 l x1).2 h2 (by omega) (fun j hj => okL_rd (Qbv c2 c3) (by omega)) (fun j hj => r2 j (by omega)) x1.length 0 20001 (by omega) (by omega) 0 0 (by omega) (by omega) (by omega) (by omega) (by rw [List.drop_zero, List.drop_zero, r3])
   obtain ⟨e1, e2⟩ := Qcq g
   rw [if_neg g, e1, e2, if_pos (show wrap64 ((([] : List Int).length : Int) + (([] : List Int).length : Int)) = 0 from nwrap (by simp) (by simp)), goes24 20002 (by omega)]
   rfl
 unfold contangolaw24_TierKeeps.f
 by_cases h1 : (x0.length : Int) > 200
 ·rw [if_pos h1]; exact j true (fun e => by cases e)
 rw [if_neg h1]
 by_cases h2 : (x1.length : Int) > 200
 ·rw [if_pos h2]; exact j true (fun e => by cases e)
 rw [if_neg h2]
 refine j _ (fun e => ?_)
 have := of_decide_eq_false e
 omega
end Go.Proofs.Ytggbflplbblgbaa.Pure
