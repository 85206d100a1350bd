/- Cover: the lack, by the program and by the reference; the page's examples. -/
import Derived.Test.YtfcaaefdmabkhaaQEB3P0
import Derived.Test.YtfcaaefdmabkhaaQEB3P6
namespace Go.Proofs.Ytfcaaefdmabkhaa.Pr
open Go.RowKit Go.Proofs.Ytfcaaefdmabkhaa.Pr Go.Proofs.YtfcaaefdmabkhaaW.PrintWords Go.Proofs.YtfcaaefdmabkhaaW.PrintLast Go.Proofs.YtfcaaefdmabkhaaW.PrintMore
set_option linter.unusedVariables false
set_option linter.unusedSimpArgs false
theorem goes34 (k : Nat) (hk : 7000 ≤ k) : QaK.f k = some true := Qd2 QaK.mono (show 400 ≤ k by omega) (by decide +kernel)
def lackS (n c : Int) : Int × Int := if (0 ≤ n ∧ n ≤ 1152921504606846976) ∧ (0 ≤ c ∧ c ≤ 1152921504606846976) then (mx (n - c) 0, 0) else (0, 2)
theorem Qcf (n : Int) : Qbe.f n = some (decide (0 ≤ n ∧ n ≤ 1152921504606846976)) := by
 unfold Qbe.f
 by_cases h : n ≥ 0
 ·rw [if_pos h]
  congr 1
  exact decide_eq_decide.2 ⟨fun x => ⟨by omega, x⟩, fun x => x.2⟩
 rw [if_neg h, decide_eq_false (by omega)]
theorem Qfb (n c : Int) : Qbl.f n c = some (lackS n c) := by
 unfold Qbl.f lackS
 rw [Qcf, Option.bind_some, Qcf, Option.bind_some]
 by_cases h1 : 0 ≤ n ∧ n ≤ 1152921504606846976
 ·rw [if_pos (decide_eq_true h1)]
  by_cases h2 : 0 ≤ c ∧ c ≤ 1152921504606846976
  ·rw [if_pos (decide_eq_true h2), if_pos ⟨h1, h2⟩, IntWalk.wrap64_in (n - c) (by omega)]
  rw [if_neg (by simp [h2]), if_neg (by simp [h2])]
 rw [if_neg (by simp [h1]), if_neg (by simp [h1])]
theorem Qee {n c : Int} (h : (lackS n c).2 = 0) : (0 ≤ n ∧ n ≤ 1152921504606846976) ∧ (0 ≤ c ∧ c ≤ 1152921504606846976) ∧ (lackS n c).1 = mx (n - c) 0 := by
 unfold lackS at *
 by_cases h1 : (0 ≤ n ∧ n ≤ 1152921504606846976) ∧ (0 ≤ c ∧ c ≤ 1152921504606846976)
 ·rw [if_pos h1] at h ⊢
  exact ⟨h1.1, h1.2, rfl⟩
 rw [if_neg h1] at h; cases h
end Go.Proofs.Ytfcaaefdmabkhaa.Pr
