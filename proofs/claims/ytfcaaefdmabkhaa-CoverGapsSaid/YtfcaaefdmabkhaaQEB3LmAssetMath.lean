/- What so many units are worth: as arithmetic. -/
import Derived.Test.YtfcaaefdmabkhaaQEB3P0
namespace Go.Proofs.Ytfcaaefdmabkhaa.Pr
open Go.RowKit Go.Proofs.Ytfcaaefdmabkhaa.Pr Go.Proofs.YtfcaaefdmabkhaaW.PrintWords Go.Proofs.YtfcaaefdmabkhaaW.PrintLast Go.Proofs.YtfcaaefdmabkhaaW.PrintMore
set_option linter.unusedVariables false
set_option linter.unusedSimpArgs false
theorem QcB (a b c : Int) (ha : 0 ≤ a) (hb : 0 ≤ b) (hc : 0 < c) : mdRes a b c 3 = if 1152921504606846976 < a * b / c then (0, 3) else (a * b / c, 0) := by
 have hB : Qbm a b c = false := by
  unfold Qbm
  rw [decide_eq_false (show ¬ a < 0 by omega), decide_eq_false (show ¬ b < 0 by omega), decide_eq_false (show ¬ c < 0 by omega)]
  rfl
 have hQ : mdQ a b c 3 = a * b / c := by
  unfold mdQ
  rw [hB, show ((a.natAbs : Nat) : Int) = a by omega, show ((b.natAbs : Nat) : Int) = b by omega, show ((c.natAbs : Nat) : Int) = c by omega]
  unfold mdAway
  simp
 unfold mdRes
 rw [hQ, hB]
 simp
def worthF (u rc r0 h q : Int) : Int × Int := if 1152921504606846976 < q * u then (0, 3) else if 1152921504606846976 < q * u * rc / r0 then (0, 3) else (q * u * rc / r0 * (1000 - h) / 1000, 0)
theorem QdH (x h : Int) (hx : 0 ≤ x) (hh : 0 ≤ h ∧ h ≤ 1000) : 0 ≤ x * (1000 - h) / 1000 ∧ x * (1000 - h) / 1000 ≤ x := by
 have h1 : 0 ≤ x * (1000 - h) := Int.mul_nonneg hx (by omega)
 have h2 : x * (1000 - h) ≤ x * 1000 := Int.mul_le_mul_of_nonneg_left (by omega) hx
 have h3 : x * (1000 - h) / 1000 ≤ x * 1000 / 1000 := Int.ediv_le_ediv (by omega) h2
 rw [Int.mul_ediv_cancel _ (by omega)] at h3
 exact ⟨Int.ediv_nonneg h1 (by omega), h3⟩
end Go.Proofs.Ytfcaaefdmabkhaa.Pr
