/- Cover: the lack, by the program and by the reference; the page's examples. -/
import Derived.Test.YtfcaaefdmabkhaaQCF9P0
import Derived.Test.YtfcaaefdmabkhaaQCF9P3
import Derived.Test.YtfcaaefdmabkhaaQCF9P6
namespace Go.Proofs.Ytfcaaefdmabkhaa.Pr
open Go.RowKit Go.Proofs.Ytfcaaefdmabkhaa.Pr Go.Proofs.YtfcaaefdmabkhaaW.PrintWords Go.Proofs.YtfcaaefdmabkhaaW.PrintLast Go.Proofs.YtfcaaefdmabkhaaW.PrintMore
set_option linter.unusedVariables false
set_option linter.unusedSimpArgs false
theorem goes34 (k : Nat) (hk : 7000 ≤ k) : Qbd.f k = some true := QeZ Qbd.mono (show 400 ≤ k by omega) (by decide +kernel)
def lackS (n c : Int) : Int × Int := if (0 ≤ n ∧ n ≤ 1152921504606846976) ∧ (0 ≤ c ∧ c ≤ 1152921504606846976) then (mx (n - c) 0, 0) else (0, 2)
theorem Qc0 (n : Int) : QbD.f n = some (decide (0 ≤ n ∧ n ≤ 1152921504606846976)) := by
 unfold QbD.f
 by_cases h : n ≥ 0
 ·rw [if_pos h]
  congr 1
  exact decide_eq_decide.2 ⟨fun x => ⟨by omega, x⟩, fun x => x.2⟩
 ·rw [if_neg h, decide_eq_false (by omega)]
theorem Qgh (n c : Int) : QbO.f n c = some (lackS n c) := by
 unfold QbO.f lackS
 rw [Qc0, Option.bind_some, Qc0, Option.bind_some]
 by_cases h1 : 0 ≤ n ∧ n ≤ 1152921504606846976
 ·rw [if_pos (decide_eq_true h1)]
  by_cases h2 : 0 ≤ c ∧ c ≤ 1152921504606846976
  ·rw [if_pos (decide_eq_true h2), if_pos ⟨h1, h2⟩, IntWalk.wrap64_in (n - c) (by omega)]
  ·rw [if_neg (by simp [h2]), if_neg (by simp [h2])]
 ·rw [if_neg (by simp [h1]), if_neg (by simp [h1])]
theorem QfY (n c : Int) : QbI.f n c = some (lackS n c) := by
 unfold QbI.f lackS
 by_cases h1 : n < 0
 ·rw [if_pos h1, if_neg (by omega)]
 ·rw [if_neg h1]
  by_cases h2 : n > 1152921504606846976
  ·rw [if_pos h2, if_neg (by omega)]
  ·rw [if_neg h2]
   by_cases h3 : c < 0
   ·rw [if_pos h3, if_neg (by omega)]
   ·rw [if_neg h3]
    by_cases h4 : c > 1152921504606846976
    ·rw [if_pos h4, if_neg (by omega)]
    ·rw [if_neg h4, if_pos (by omega), IntWalk.wrap64_in (n - c) (by omega)]
end Go.Proofs.Ytfcaaefdmabkhaa.Pr
