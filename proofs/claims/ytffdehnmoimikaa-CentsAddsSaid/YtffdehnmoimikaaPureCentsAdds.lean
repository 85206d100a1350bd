/- CentsAdds: Fits, Add, Sub, Mul and Clamp agree with the reference. For all three numbers. -/
import Derived.Test.YtffdehnmoimikaaLmCents
import Derived.Test.YtffdehnmoimikaaLmGoesCents
import Derived.Test.YtffdehnmoimikaaPrx62
import Derived.Test.YtffdehnmoimikaaPrx0
namespace Go.Proofs.Ytffdehnmoimikaa.Pure
open Go.RowKit Go.Proofs.Ytffdehnmoimikaa.Pr Go.Proofs.YtffdehnmoimikaaW.PrintWords Go.Proofs.YtffdehnmoimikaaW.PrintLast Go.Proofs.YtffdehnmoimikaaW.PrintMore
set_option linter.unusedVariables false
set_option linter.unusedSimpArgs false
theorem CentsAdds : contangolaw01_CentsAdds.Pure := by
  intro a b c _ _ _
  refine ⟨20, ?_⟩
  unfold contangolaw01_CentsAdds.f
  rw [add_eq, radd_eq a b 20 (by omega), sub_eq, rsub_eq a b 20 (by omega), mul_eq a b 20 (by omega), rmul_eq a b 20 (by omega)]
  simp only [Option.bind_some, if_true, bne_self_eq_false]
  simp only [contangolaw01_CentsAdds.j0, Bool.false_eq_true, if_false]
  rw [fits_eq, rfits_eq, clamp_eq a b c 19 (by omega), rclamp_eq a b c 19 (by omega), cgoes 19 (by omega)]
  simp
end Go.Proofs.Ytffdehnmoimikaa.Pure
