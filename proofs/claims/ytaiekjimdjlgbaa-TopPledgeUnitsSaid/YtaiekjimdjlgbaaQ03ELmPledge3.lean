/- Pledges: a list with a pledge is one again; what stands in it. -/
import Derived.Test.YtaiekjimdjlgbaaQ03ELmPledge
import Derived.Test.YtaiekjimdjlgbaaQ03ELmPledge2
import Derived.Test.YtaiekjimdjlgbaaQ03EP0
namespace Go.Proofs.Ytaiekjimdjlgbaa.Pr
open Go.RowKit Go.Proofs.Ytaiekjimdjlgbaa.Pr Go.Proofs.YtaiekjimdjlgbaaW.PrintWords Go.Proofs.YtaiekjimdjlgbaaW.PrintLast Go.Proofs.YtaiekjimdjlgbaaW.PrintMore
set_option linter.unusedVariables false
set_option linter.unusedSimpArgs false
theorem takeS_ok (l : List Pled) (q : PK) (n : Int) (h : goodP l) (hn : 1 ≤ n ∧ n ≤ 1152921504606846976) (h2 : n ≤ hadP q l) : takeS l q n = (insP q (hadP q l - n) l, 0) := by
  unfold takeS
  rw [if_pos ((chkP_zero l).2 h), if_pos ((okQty_iff n).2 hn), if_neg (by omega)]
end Go.Proofs.Ytaiekjimdjlgbaa.Pr
