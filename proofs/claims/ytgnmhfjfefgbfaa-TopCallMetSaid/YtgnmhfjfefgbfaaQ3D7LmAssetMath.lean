/- What so many units are worth: as arithmetic. -/
import Derived.Test.YtgnmhfjfefgbfaaQ3D7P0
namespace Go.Proofs.Ytgnmhfjfefgbfaa.Pr
open Go.RowKit Go.Proofs.Ytgnmhfjfefgbfaa.Pr Go.Proofs.YtgnmhfjfefgbfaaW.PrintWords Go.Proofs.YtgnmhfjfefgbfaaW.PrintLast Go.Proofs.YtgnmhfjfefgbfaaW.PrintMore
set_option linter.unusedVariables false
set_option linter.unusedSimpArgs false
theorem Qdu (a b c : Int) (ha : 0 ≤ a) (hb : 0 ≤ b) (hc : 0 < c) : mdRes a b c 3 = if 1152921504606846976 < a * b / c then (0, 3) else (a * b / c, 0) := by
 have hB : QbH a b c = false := by
  unfold QbH
  rw [decide_eq_false (show ¬ a < 0 by omega), decide_eq_false (show ¬ b < 0 by omega), decide_eq_false (show ¬ c < 0 by omega)]
  rfl
 have hQ : mdQ a b c 3 = a * b / c := by
  unfold mdQ
  rw [hB, show ((a.natAbs : Nat) : Int) = a by omega, show ((b.natAbs : Nat) : Int) = b by omega, show ((c.natAbs : Nat) : Int) = c by omega]
  unfold mdAway
  simp
 unfold mdRes
 rw [hQ, hB]
 simp
def worthF (u rc r0 h q : Int) : Int × Int := if 1152921504606846976 < q * u then (0, 3) else if 1152921504606846976 < q * u * rc / r0 then (0, 3) else (q * u * rc / r0 * (1000 - h) / 1000, 0)
theorem QeB (x h : Int) (hx : 0 ≤ x) (hh : 0 ≤ h ∧ h ≤ 1000) : 0 ≤ x * (1000 - h) / 1000 ∧ x * (1000 - h) / 1000 ≤ x := by
 have h1 : 0 ≤ x * (1000 - h) := Int.mul_nonneg hx (by omega)
 have h2 : x * (1000 - h) ≤ x * 1000 := Int.mul_le_mul_of_nonneg_left (by omega) hx
 have h3 : x * (1000 - h) / 1000 ≤ x * 1000 / 1000 := Int.ediv_le_ediv (by omega) h2
 rw [Int.mul_ediv_cancel _ (by omega)] at h3
 exact ⟨Int.ediv_nonneg h1 (by omega), h3⟩
theorem Qe4 (u rc r0 q q' : Int) (hu : 0 < u) (hr : 0 < rc) (h0 : 0 < r0) (h : q ≤ q') : q * u ≤ q' * u ∧ q * u * rc / r0 ≤ q' * u * rc / r0 := by
 have h1 : q * u ≤ q' * u := Int.mul_le_mul_of_nonneg_right h (by omega)
 exact ⟨h1, Int.ediv_le_ediv h0 (Int.mul_le_mul_of_nonneg_right h1 (by omega))⟩
def QdK (u rc r0 h n q : Int) : Prop := (worthF u rc r0 h q).2 ≠ 0 ∨ n ≤ (worthF u rc r0 h q).1
theorem Qep (u rc r0 h n q q' : Int) (hu : 0 < u) (hr : 0 < rc) (h0 : 0 < r0) (hh : 0 ≤ h ∧ h ≤ 1000) (hq : q ≤ q') (he : QdK u rc r0 h n q) : QdK u rc r0 h n q' := by
 obtain ⟨m1, m2⟩ := Qe4 u rc r0 q q' hu hr h0 hq
 unfold QdK worthF at *
 by_cases a1 : 1152921504606846976 < q' * u
 ·rw [if_pos a1]; left; decide
 rw [if_neg a1]
 by_cases a2 : 1152921504606846976 < q' * u * rc / r0
 ·rw [if_pos a2]; left; decide
 rw [if_neg a2]
 rw [if_neg (by omega), if_neg (by omega)] at he
 right
 rcases he with he | he
 ·exact absurd rfl he
 have h3 : q * u * rc / r0 * (1000 - h) ≤ q' * u * rc / r0 * (1000 - h) := Int.mul_le_mul_of_nonneg_right m2 (by omega)
 have h4 := Int.ediv_le_ediv (c := 1000) (by omega) h3
 simp only at he ⊢
 omega
end Go.Proofs.Ytgnmhfjfefgbfaa.Pr
