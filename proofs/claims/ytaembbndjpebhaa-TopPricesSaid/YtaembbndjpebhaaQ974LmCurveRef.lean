/- The price of a day: the reference's function is the plain one. -/
import Derived.Test.YtaembbndjpebhaaQ974LmCurveAt
import Derived.Test.YtaembbndjpebhaaQ974LmCurveChk
import Derived.Test.YtaembbndjpebhaaQ974LmCurveEq
import Derived.Test.YtaembbndjpebhaaQ974LmCurveNear
import Derived.Test.YtaembbndjpebhaaQ974P0
namespace Go.Proofs.Ytaembbndjpebhaa.Pr
open Go.RowKit Go.Proofs.Ytaembbndjpebhaa.Pr Go.Proofs.YtaembbndjpebhaaW.PrintWords Go.Proofs.YtaembbndjpebhaaW.PrintLast Go.Proofs.YtaembbndjpebhaaW.PrintMore
set_option linter.unusedVariables false
set_option linter.unusedSimpArgs false
def hitB (day : Int) (p : Pt) : Prop := p.f2 = true ∧ day ≤ p.f0
instance (day : Int) (p : Pt) : Decidable (hitB day p) := inferInstanceAs (Decidable (_ ∧ _))
def hitA (day : Int) (p : Pt) : Prop := p.f2 = true ∧ p.f0 ≤ day
instance (day : Int) (p : Pt) : Decidable (hitA day p) := inferInstanceAs (Decidable (_ ∧ _))
theorem QdL (l : List Pt) (m : Nat) (h : m < l.length) : l.take (m + 1) = l.take m ++ [rd_T56 l (m : Int)] := by
 rw [pt_rd l m h, List.take_add_one, List.getElem?_eq_getElem h]
 rfl
end Go.Proofs.Ytaembbndjpebhaa.Pr
