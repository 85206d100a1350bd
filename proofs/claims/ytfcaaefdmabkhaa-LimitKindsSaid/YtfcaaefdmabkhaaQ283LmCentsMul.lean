/- What Mul answers, by the program and by the reference. -/
import Derived.Test.YtfcaaefdmabkhaaQ283LmCentsMd
import Derived.Test.YtfcaaefdmabkhaaQ283P0
import Derived.Test.YtfcaaefdmabkhaaQ283P3
import Derived.Test.YtfcaaefdmabkhaaQ283P2
namespace Go.Proofs.Ytfcaaefdmabkhaa.Pr
open Go.RowKit Go.Proofs.Ytfcaaefdmabkhaa.Pr Go.Proofs.YtfcaaefdmabkhaaW.PrintWords Go.Proofs.YtfcaaefdmabkhaaW.PrintLast Go.Proofs.YtfcaaefdmabkhaaW.PrintMore
set_option linter.unusedVariables false
set_option linter.unusedSimpArgs false
def mulS (a b : Int) : Int × Int := if mdFits a ∧ mdFits b then (if mdFits (a * b) then (a * b, 0) else (0, 3)) else (0, 2)
theorem Qd6 (a b : Int) : (a * b).natAbs = a.natAbs * b.natAbs ∧ ((decide (a < 0) == decide (b < 0)) = true → a * b = (a.natAbs : Int) * b.natAbs) ∧ ((decide (a < 0) == decide (b < 0)) = false → a * b = -((a.natAbs : Int) * b.natAbs)) := by
 refine ⟨Int.natAbs_mul a b, fun h => ?_, fun h => ?_⟩
 ·rw [beq_iff_eq, decide_eq_decide] at h
  by_cases c : a < 0
  ·have hb : b < 0 := h.1 c
   rw [show (a.natAbs : Int) = -a by omega, show (b.natAbs : Int) = -b by omega]; grind
  have hb : ¬ b < 0 := fun x => c (h.2 x)
  rw [show (a.natAbs : Int) = a by omega, show (b.natAbs : Int) = b by omega]
 rw [beq_eq_false_iff_ne, ne_eq, decide_eq_decide] at h
 by_cases c : a < 0
 ·have hb : ¬ b < 0 := fun x => h ⟨fun _ => x, fun _ => c⟩
  rw [show (a.natAbs : Int) = -a by omega, show (b.natAbs : Int) = b by omega]; grind
 have hb : b < 0 := by
  by_cases x : b < 0
  ·exact x
  exact absurd ⟨fun y => absurd y c, fun y => absurd y x⟩ h
 rw [show (a.natAbs : Int) = a by omega, show (b.natAbs : Int) = -b by omega]; grind
theorem Qer (a : Int) (h : mdFits a) : Qbv.f a = some (a.natAbs : Int) := by
 unfold Qbv.f
 unfold mdFits at h
 rw [if_pos (by omega)]
theorem Qf3 (a b : Int) (k : Nat) (h : mdFits a) (h2 : mdFits b) : Qbh.j0 (k + 1) a b false = some (if mdFits (a * b) then (a * b, 0) else (0, 3)) := by
 simp only [Qbh.j0, Bool.false_eq_true, if_false]
 rw [Qer a h, Qer b h2]
 simp only [Option.bind_some]
 obtain ⟨s1, s2, s3⟩ := Qd6 a b
 unfold QbA.f
 have ha : (a.natAbs : Int) ≤ 1152921504606846976 := by unfold mdFits at h; omega
 have hb : (b.natAbs : Int) ≤ 1152921504606846976 := by unfold mdFits at h2; omega
 rw [if_pos (by omega)]
 simp only [Option.bind_some]
 have hp : ((a * b).natAbs : Int) = (a.natAbs : Int) * b.natAbs := by rw [s1, Int.natCast_mul]
 have hp0 : 0 ≤ (a.natAbs : Int) * b.natAbs := Int.mul_nonneg (by omega) (by omega)
 generalize hP : (a.natAbs : Int) * b.natAbs = P at *
 by_cases c : P / 18446744073709551616 > 0
 ·rw [if_pos c, if_neg (by unfold mdFits; omega)]
 rw [if_neg c]
 have e : P % 18446744073709551616 = P := by omega
 rw [e, md_sgn]
 simp only [Option.bind_some]
 rw [QdP P _ hp0]
 by_cases d : 1152921504606846976 < P
 ·rw [if_pos d, if_neg (by unfold mdFits; omega)]
 rw [if_neg d]
 cases hs : (decide (a < 0) == decide (b < 0))
 ·rw [s3 hs, if_pos (show mdFits (-P) by unfold mdFits; omega)]; rfl
 rw [s2 hs, if_pos (show mdFits P by unfold mdFits; omega)]; rfl
theorem mul_eq (a b : Int) (k : Nat) (hk : 1 ≤ k) : Qbh.f k a b = some (mulS a b) := by
 obtain ⟨k, rfl⟩ : ∃ m, k = m + 1 := ⟨k - 1, by omega⟩
 unfold Qbh.f mulS
 rw [Qc3, Qc3]
 simp only [Option.bind_some]
 by_cases h : mdFits a
 ·rw [decide_eq_true h, if_pos rfl]
  by_cases h2 : mdFits b
  ·rw [decide_eq_true h2, if_pos ⟨h, h2⟩]
   exact Qf3 a b k h h2
  rw [decide_eq_false h2, if_neg (fun x => h2 x.2)]
  simp only [Qbh.j0]; rfl
 rw [decide_eq_false h, if_neg (by decide), if_neg (fun x => h x.1)]
 simp only [Qbh.j0]; rfl
theorem rsz_eq (a : Int) (h : mdFits a) : Qbq.f a = some (a.natAbs : Int) := QcP a h.1
theorem Qgf (a b : Int) (k : Nat) (hk : 1 ≤ k) : QaX.f k a b = some (mulS a b) := by
 obtain ⟨k, rfl⟩ : ∃ m, k = m + 1 := ⟨k - 1, by omega⟩
 unfold QaX.f mulS
 simp only [Qdm, Option.bind_some, QaX.j0]
 by_cases h : mdFits a
 ·by_cases h2 : mdFits b
  ·simp only [h, h2, decide_true, Bool.not_true, if_true, Bool.false_eq_true, if_false, and_self]
   by_cases h0 : a = 0
   ·rw [if_pos h0]
    subst h0
    rw [Int.zero_mul, if_pos (by unfold mdFits; omega)]
    simp [wrap64]
   rw [if_neg h0, rsz_eq a h, rsz_eq b h2]
   simp only [Option.bind_some]
   rw [if_neg (by omega)]
   obtain ⟨s1, s2, s3⟩ := Qd6 a b
   have ha : (a.natAbs : Int) ≤ 1152921504606846976 := by unfold mdFits at h; omega
   have hd0 : 0 ≤ 1152921504606846976 / (a.natAbs : Int) := Int.ediv_nonneg (by omega) (by omega)
   have hd1 : 1152921504606846976 / (a.natAbs : Int) ≤ 1152921504606846976 := Int.ediv_le_self _ (by omega)
   have hw : wrap64 (Int.tdiv (1152921504606846976 : Int) a.natAbs) = 1152921504606846976 / (a.natAbs : Int) := by
    rw [Int.tdiv_eq_ediv_of_nonneg (by omega)]; unfold wrap64; omega
   rw [hw]
   have hp : ((a * b).natAbs : Int) = (a.natAbs : Int) * b.natAbs := by rw [s1, Int.natCast_mul]
   have key : (b.natAbs : Int) ≤ 1152921504606846976 / (a.natAbs : Int) ↔ (b.natAbs : Int) * a.natAbs ≤ 1152921504606846976 := Int.le_ediv_iff_mul_le (by omega)
   rw [Int.mul_comm, ← hp] at key
   by_cases c : (b.natAbs : Int) > 1152921504606846976 / (a.natAbs : Int)
   ·have : ¬ ((a * b).natAbs : Int) ≤ 1152921504606846976 := fun x => by have := key.2 x; omega
    rw [if_pos c, if_neg (by unfold mdFits; omega)]
   have := key.1 (by omega)
   have hf : mdFits (a * b) := by unfold mdFits; omega
   have hw : wrap64 (a * b) = a * b := by unfold mdFits at hf; unfold wrap64; omega
   rw [if_neg c, if_pos hf, hw]
  simp [h, h2]
 simp [h]
end Go.Proofs.Ytfcaaefdmabkhaa.Pr
