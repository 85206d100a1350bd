/- CentsBack: Sub undoes Add; a number multiplied and divided by one other number is what it was. For all three numbers. -/
import Derived.Test.YtffdehnmoimikaaLmCents
import Derived.Test.YtffdehnmoimikaaLmGoesCents
import Derived.Test.YtffdehnmoimikaaPrx45
import Derived.Test.YtffdehnmoimikaaPrx57
import Derived.Test.YtffdehnmoimikaaPrx0
namespace Go.Proofs.Ytffdehnmoimikaa.Pure
open Go.RowKit Go.Proofs.Ytffdehnmoimikaa.Pr Go.Proofs.YtffdehnmoimikaaW.PrintWords Go.Proofs.YtffdehnmoimikaaW.PrintLast Go.Proofs.YtffdehnmoimikaaW.PrintMore
set_option linter.unusedVariables false
set_option linter.unusedSimpArgs false
theorem md_back (a b m : Int) (ha : mdFits a) (hb : b ≠ 0) : mdRes a b b m = (a, 0) := by
  have hp : (0 : Int) < b.natAbs := by omega
  have e0 : (a.natAbs : Int) * b.natAbs / b.natAbs = a.natAbs := Int.mul_ediv_cancel _ (by omega)
  have e1 : (a.natAbs : Int) * b.natAbs % b.natAbs = 0 := Int.mul_emod_left _ _
  have eq : mdQ a b b m = a.natAbs := by unfold mdQ; rw [e0, e1, if_neg (fun h => by have := h.1; omega)]
  unfold mdRes
  rw [eq]
  unfold mdFits at ha
  rw [if_neg (by omega)]
  have eb : mdBelow a b b = decide (a < 0) := by
    unfold mdBelow
    cases decide (a < 0) <;> cases decide (b < 0) <;> rfl
  rw [eb]
  by_cases h : a < 0
  · rw [if_pos (by simpa using h)]
    congr 1
    omega
  · rw [if_neg (by simpa using h)]
    congr 1
    omega
theorem CentsBack : contangolaw01_CentsBack.Pure := by
  intro a b m _ _ _
  refine ⟨20, ?_⟩
  have j1t : contangolaw01_CentsBack.j1 19 a b m true = some true := by
    simp only [contangolaw01_CentsBack.j1, if_true]
    rw [cgoes 18 (by omega)]
    rfl
  have j : contangolaw01_CentsBack.j0 20 a b m = some true := by
    simp only [contangolaw01_CentsBack.j0]
    rw [fits_eq, fits_eq]
    simp only [Option.bind_some]
    by_cases ha : mdFits a
    · by_cases hb : mdFits b
      · simp only [ha, hb, decide_true, if_true]
        by_cases h0 : b = 0
        · rw [if_pos h0, j1t]
        · rw [if_neg h0]
          by_cases h1 : m < 1
          · rw [if_pos h1, j1t]
          · rw [if_neg h1]
            by_cases h5 : m > 5
            · rw [decide_eq_true h5, j1t]
            · rw [decide_eq_false h5]
              simp only [contangolaw01_CentsBack.j1, Bool.false_eq_true, if_false]
              have f1 : mdFits 1 := by unfold mdFits; omega
              rw [md_eq, md_eq, if_pos ⟨ha, hb, hb, by omega, by omega⟩, if_neg h0, if_pos ⟨ha, f1, f1, by omega, by omega⟩, if_neg (by decide), md_back a b m ha h0, md_back a 1 m ha (by decide), cgoes 18 (by omega)]
              simp
      · simp only [ha, hb, decide_true, decide_false, if_true, Bool.false_eq_true, if_false]
        exact j1t
    · simp only [ha, decide_false, Bool.false_eq_true, if_false]
      exact j1t
  unfold contangolaw01_CentsBack.f
  rw [add_eq, j]
  simp only [Option.bind_some, ite_self]
  by_cases h : (addS a b).2 = 0
  · rw [if_pos h, sub_eq]
    have hs : addS a b = (a + b, 0) ∧ mdFits a ∧ mdFits b ∧ mdFits (a + b) := by
      unfold addS at h ⊢
      split at h
      · rename_i c
        rw [if_pos c]
        split at h
        · rename_i d; rw [if_pos d]; exact ⟨rfl, c.1, c.2, d⟩
        · simp at h
      · simp at h
    obtain ⟨h1, h2, h3, h4⟩ := hs
    have h5 : addS (a + b) (-b) = (a, 0) := by
      have hb : mdFits (-b) := by unfold mdFits at *; omega
      unfold addS
      rw [if_pos ⟨h4, hb⟩, show a + b + -b = a by omega, if_pos h2]
    rw [h1, h5]
    simp
  · rw [if_neg h]
end Go.Proofs.Ytffdehnmoimikaa.Pure
