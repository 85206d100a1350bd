/- What the functions of package cents and of its reference compute, as plain numbers. No condition but those that each theorem names. -/
import Derived.Test.YtaiekjimdjlgbaaQ8F2LmCentsMd
import Derived.Test.YtaiekjimdjlgbaaQ8F2P0
namespace Go.Proofs.Ytaiekjimdjlgbaa.Pr
open Go.RowKit Go.Proofs.Ytaiekjimdjlgbaa.Pr Go.Proofs.YtaiekjimdjlgbaaW.PrintWords Go.Proofs.YtaiekjimdjlgbaaW.PrintLast Go.Proofs.YtaiekjimdjlgbaaW.PrintMore
set_option linter.unusedVariables false
set_option linter.unusedSimpArgs false
def addS (a b : Int) : Int × Int := if mdFits a ∧ mdFits b then (if mdFits (a + b) then (a + b, 0) else (0, 3)) else (0, 2)
theorem add_eq (a b : Int) : cents_Add.f a b = some (addS a b) := by
  unfold cents_Add.f addS
  rw [fits_eq, fits_eq]
  simp only [Option.bind_some]
  by_cases h : mdFits a
  · rw [decide_eq_true h, if_pos rfl]
    by_cases h2 : mdFits b
    · rw [decide_eq_true h2, if_pos rfl, if_pos ⟨h, h2⟩, fitting_eq]
      have hw : wrap64 (a + b) = a + b := by unfold mdFits at h h2; unfold wrap64; omega
      rw [hw]
      rfl
    · rw [decide_eq_false h2, if_neg (by decide), if_neg (fun x => h2 x.2)]
  · rw [decide_eq_false h, if_neg (by decide), if_neg (fun x => h x.1)]
theorem radd_eq (a b : Int) (k : Nat) (hk : 1 ≤ k) : contangoref01_Add.f k a b = some (addS a b) := by
  obtain ⟨k, rfl⟩ : ∃ m, k = m + 1 := ⟨k - 1, by omega⟩
  unfold contangoref01_Add.f addS
  simp only [rfits_eq, Option.bind_some, contangoref01_Add.j0]
  by_cases h : mdFits a
  · by_cases h2 : mdFits b
    · have hw : wrap64 (a + b) = a + b := by unfold mdFits at h h2; unfold wrap64; omega
      by_cases h3 : mdFits (a + b) <;> simp [h, h2, hw, h3]
    · simp [h, h2]
  · simp [h]
end Go.Proofs.Ytaiekjimdjlgbaa.Pr
