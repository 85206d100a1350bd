/- CentsDivides: MulDiv agrees with the reference in every rounding mode. For all numbers and modes. -/
import Derived.Test.YtffdehnmoimikaaLmCents
import Derived.Test.YtffdehnmoimikaaLmGoesCents
import Derived.Test.YtffdehnmoimikaaPrx54
import Derived.Test.YtffdehnmoimikaaPrxDCentsDivides
import Derived.Test.YtffdehnmoimikaaPrx0
namespace Go.Proofs.Ytffdehnmoimikaa.Pure
open Go.RowKit Go.Proofs.Ytffdehnmoimikaa.Pr Go.Proofs.YtffdehnmoimikaaW.PrintWords Go.Proofs.YtffdehnmoimikaaW.PrintLast Go.Proofs.YtffdehnmoimikaaW.PrintMore
set_option linter.unusedVariables false
set_option linter.unusedSimpArgs false
theorem CentsDivides : contangolaw01_CentsDivides.Pure := by
  intro a b c m _ _ _ _
  refine ⟨30, ?_⟩
  have st : ∀ (k : Nat) (n : Int), n ≤ 5 → 1 ≤ n → contangolaw01_CentsDivides.l0 (k + 1) n a b c = contangolaw01_CentsDivides.l0 k (n + 1) a b c := by
    intro k n h h1
    simp only [contangolaw01_CentsDivides.l0]
    rw [if_pos h, rmd_eq, md_eq]
    simp only [Option.bind_some, if_true]
    rw [show wrap64 (n + 1) = n + 1 by unfold wrap64; omega]
  have l : contangolaw01_CentsDivides.l0 29 1 a b c = some true := by
    rw [st 28 1 (by decide) (by decide), st 27 _ (by decide) (by decide), st 26 _ (by decide) (by decide), st 25 _ (by decide) (by decide), st 24 _ (by decide) (by decide)]
    simp only [contangolaw01_CentsDivides.l0]
    rw [if_neg (by decide), cgoes 23 (by omega)]
    rfl
  unfold contangolaw01_CentsDivides.f
  rw [rmd_eq, md_eq]
  simp only [Option.bind_some, if_true, bne_self_eq_false, contangolaw01_CentsDivides.j0, Bool.false_eq_true, if_false]
  exact l
end Go.Proofs.Ytffdehnmoimikaa.Pure
