/- What the functions of package cents and of its reference compute, as plain numbers. No condition but those that each theorem names. -/
import Derived.Test.YtaembbndjpebhaaQ974P0
import Derived.Test.YtaembbndjpebhaaQ974P1
namespace Go.Proofs.Ytaembbndjpebhaa.Pr
open Go.RowKit Go.Proofs.Ytaembbndjpebhaa.Pr Go.Proofs.YtaembbndjpebhaaW.PrintWords Go.Proofs.YtaembbndjpebhaaW.PrintLast Go.Proofs.YtaembbndjpebhaaW.PrintMore
set_option linter.unusedVariables false
set_option linter.unusedSimpArgs false
def clampS (n low high : Int) : Int := if low > high ∨ n < low then low else if n > high then high else n
theorem Qcl (n low high : Int) (k : Nat) (hk : 1 ≤ k) : QaE.f k n low high = some (clampS n low high) := by
 obtain ⟨k, rfl⟩ : ∃ m, k = m + 1 := ⟨k - 1, by omega⟩
 unfold QaE.f clampS
 simp only [QaE.j0]
 repeat' split
 all_goals first | rfl | (exfalso; simp_all; done) | (exfalso; simp_all; omega)
end Go.Proofs.Ytaembbndjpebhaa.Pr
