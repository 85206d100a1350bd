/- CoverGaps: what is lacked and what covers are the need at least, and just it where something is lacked. -/
import Derived.Test.YtfcaaefdmabkhaaQEB3LmCover0
import Derived.Test.YtfcaaefdmabkhaaQEB3LmCoverA
import Derived.Test.YtfcaaefdmabkhaaQEB3LmCoverG
import Derived.Test.YtfcaaefdmabkhaaQEB3P7
import Derived.Test.YtfcaaefdmabkhaaQEB3PrxDCoverGaps
import Derived.Test.YtfcaaefdmabkhaaQEB3P0
namespace Go.Proofs.Ytfcaaefdmabkhaa.Pure
open Go.RowKit Go.Proofs.Ytfcaaefdmabkhaa.Pr Go.Proofs.YtfcaaefdmabkhaaW.PrintWords Go.Proofs.YtfcaaefdmabkhaaW.PrintLast Go.Proofs.YtfcaaefdmabkhaaW.PrintMore
set_option linter.unusedVariables false
set_option linter.unusedSimpArgs false
theorem CoverGaps : contangolaw34_CoverGaps.Pure := by
 intro x l L R _ _ _ _ hok _ _ _ _
 obtain ⟨K, hK⟩ : ∃ K, K = x.length * (l.length + 2) + 12000 := ⟨_, rfl⟩
 refine ⟨K + 1, ?_⟩
 have hc := Qer l L R x
 have j : ∀ t : Bool, (t = false → l.length ≤ 60 ∧ x.length ≤ 40) → contangolaw34_CoverGaps.j0 (K + 1) x t l L R = some true := by
  intro t ht
  rw [contangolaw34_CoverGaps.j0]
  cases t with
  | true => rw [if_pos rfl, goes34 K (by omega)]; rfl
  | false =>
   obtain ⟨h1, h2⟩ := ht rfl
   rw [if_neg (by simp), Qe2 l L R x K (by omega), Option.bind_some]
   by_cases h : (allS l L R x).2 = 0
   ·obtain ⟨e1, e2⟩ := QeY l L R x h
    rw [if_pos h, e1, if_pos (by simp), show (0 : Int) = ((0 : Nat) : Int) from rfl]
    exact Qe3 l L R x (by omega) h2 e2 12000 (by omega) x.length 0 K (by omega) (by omega)
   rw [if_neg h, Qeq l L R x h, if_pos (by simp), goes34 K (by omega)]; rfl
 unfold contangolaw34_CoverGaps.f
 by_cases h : (x.length : Int) > 40
 ·rw [if_pos h]; exact j true (fun e => by cases e)
 rw [if_neg h]
 refine j _ (fun e => ?_)
 have := of_decide_eq_false e
 omega
end Go.Proofs.Ytfcaaefdmabkhaa.Pure
