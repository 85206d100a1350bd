/- What Mul answers, by the program and by the reference. -/
import Derived.Test.YtgnmhfjfefgbfaaQ3D7LmCentsMd
import Derived.Test.YtgnmhfjfefgbfaaQ3D7P0
import Derived.Test.YtgnmhfjfefgbfaaQ3D7P2
namespace Go.Proofs.Ytgnmhfjfefgbfaa.Pr
open Go.RowKit Go.Proofs.Ytgnmhfjfefgbfaa.Pr Go.Proofs.YtgnmhfjfefgbfaaW.PrintWords Go.Proofs.YtgnmhfjfefgbfaaW.PrintLast Go.Proofs.YtgnmhfjfefgbfaaW.PrintMore
set_option linter.unusedVariables false
set_option linter.unusedSimpArgs false
def mulS (a b : Int) : Int × Int := if mdFits a ∧ mdFits b then (if mdFits (a * b) then (a * b, 0) else (0, 3)) else (0, 2)
theorem QfO (a b : Int) : (a * b).natAbs = a.natAbs * b.natAbs ∧ ((decide (a < 0) == decide (b < 0)) = true → a * b = (a.natAbs : Int) * b.natAbs) ∧ ((decide (a < 0) == decide (b < 0)) = false → a * b = -((a.natAbs : Int) * b.natAbs)) := by
 refine ⟨Int.natAbs_mul a b, fun h => ?_, fun h => ?_⟩
 ·rw [beq_iff_eq, decide_eq_decide] at h
  by_cases c : a < 0
  ·have hb : b < 0 := h.1 c
   rw [show (a.natAbs : Int) = -a by omega, show (b.natAbs : Int) = -b by omega]; grind
  have hb : ¬ b < 0 := fun x => c (h.2 x)
  rw [show (a.natAbs : Int) = a by omega, show (b.natAbs : Int) = b by omega]
 rw [beq_eq_false_iff_ne, ne_eq, decide_eq_decide] at h
 by_cases c : a < 0
 ·have hb : ¬ b < 0 := fun x => h ⟨fun _ => x, fun _ => c⟩
  rw [show (a.natAbs : Int) = -a by omega, show (b.natAbs : Int) = b by omega]; grind
 have hb : b < 0 := by
  by_cases x : b < 0
  ·exact x
  exact absurd ⟨fun y => absurd y c, fun y => absurd y x⟩ h
 rw [show (a.natAbs : Int) = a by omega, show (b.natAbs : Int) = -b by omega]; grind
theorem QeD (a : Int) (h : mdFits a) : Qbq.f a = some (a.natAbs : Int) := by
 unfold Qbq.f
 unfold mdFits at h
 rw [if_pos (by omega)]
theorem Qgp (a b : Int) (k : Nat) (h : mdFits a) (h2 : mdFits b) : Qa6.j0 (k + 1) a b false = some (if mdFits (a * b) then (a * b, 0) else (0, 3)) := by
 simp only [Qa6.j0, Bool.false_eq_true, if_false]
 rw [QeD a h, QeD b h2]
 simp only [Option.bind_some]
 obtain ⟨s1, s2, s3⟩ := QfO a b
 unfold Qbu.f
 have ha : (a.natAbs : Int) ≤ 1152921504606846976 := by unfold mdFits at h; omega
 have hb : (b.natAbs : Int) ≤ 1152921504606846976 := by unfold mdFits at h2; omega
 rw [if_pos (by omega)]
 simp only [Option.bind_some]
 have hp : ((a * b).natAbs : Int) = (a.natAbs : Int) * b.natAbs := by rw [s1, Int.natCast_mul]
 have hp0 : 0 ≤ (a.natAbs : Int) * b.natAbs := Int.mul_nonneg (by omega) (by omega)
 generalize hP : (a.natAbs : Int) * b.natAbs = P at *
 by_cases c : P / 18446744073709551616 > 0
 ·rw [if_pos c, if_neg (by unfold mdFits; omega)]
 rw [if_neg c]
 have e : P % 18446744073709551616 = P := by omega
 rw [e, md_sgn]
 simp only [Option.bind_some]
 rw [QdZ P _ hp0]
 by_cases d : 1152921504606846976 < P
 ·rw [if_pos d, if_neg (by unfold mdFits; omega)]
 rw [if_neg d]
 cases hs : (decide (a < 0) == decide (b < 0))
 ·rw [s3 hs, if_pos (show mdFits (-P) by unfold mdFits; omega)]; rfl
 rw [s2 hs, if_pos (show mdFits P by unfold mdFits; omega)]; rfl
theorem mul_eq (a b : Int) (k : Nat) (hk : 1 ≤ k) : Qa6.f k a b = some (mulS a b) := by
 obtain ⟨k, rfl⟩ : ∃ m, k = m + 1 := ⟨k - 1, by omega⟩
 unfold Qa6.f mulS
 rw [Qdc, Qdc]
 simp only [Option.bind_some]
 by_cases h : mdFits a
 ·rw [decide_eq_true h, if_pos rfl]
  by_cases h2 : mdFits b
  ·rw [decide_eq_true h2, if_pos ⟨h, h2⟩]
   exact Qgp a b k h h2
  rw [decide_eq_false h2, if_neg (fun x => h2 x.2)]
  simp only [Qa6.j0]; rfl
 rw [decide_eq_false h, if_neg (by decide), if_neg (fun x => h x.1)]
 simp only [Qa6.j0]; rfl
end Go.Proofs.Ytgnmhfjfefgbfaa.Pr
