/- Half up or down to the even one: what MulDiv and the reference's nearest answer. -/
import Derived.Test.YtaembbndjpebhaaQ974P0
namespace Go.Proofs.Ytaembbndjpebhaa.Pr
open Go.RowKit Go.Proofs.Ytaembbndjpebhaa.Pr Go.Proofs.YtaembbndjpebhaaW.PrintWords Go.Proofs.YtaembbndjpebhaaW.PrintLast Go.Proofs.YtaembbndjpebhaaW.PrintMore
set_option linter.unusedVariables false
set_option linter.unusedSimpArgs false
def nearS (n d : Int) : Int := if 2 * (n % d) > d ∨ (2 * (n % d) = d ∧ (n / d) % 2 = 1) then n / d + 1 else n / d
theorem QdI {m d : Int} (hd : 0 < d) (hr : m % d ≠ 0) : (-m) / d = -(m / d) - 1 ∧ (-m) % d = d - m % d := by
 have h0 := Int.emod_nonneg m (Int.ne_of_gt hd)
 have h1 := Int.emod_lt_of_pos m hd
 have h2 := Int.emod_add_mul_ediv m d
 refine (Int.ediv_emod_unique hd).2 ⟨?_, by omega, by omega⟩
 rw [Int.mul_sub, Int.mul_neg]
 omega
theorem Qdq {m d : Int} (hd : 0 < d) (hr : m % d = 0) : (-m) / d = -(m / d) ∧ (-m) % d = 0 := by
 have h2 := Int.emod_add_mul_ediv m d
 refine (Int.ediv_emod_unique hd).2 ⟨?_, by omega, by omega⟩
 rw [Int.mul_neg]
 omega
theorem Qeo {m d : Int} (hm : 0 ≤ m) (hd : 0 < d) : 0 ≤ m / d ∧ m / d ≤ m := by
 refine ⟨Int.ediv_nonneg hm (Int.le_of_lt hd), ?_⟩
 exact Int.ediv_le_self _ hm
theorem away5 (b : Bool) (q r c : Int) : (mdAway 5 b q r c = true) ↔ (c - r < r ∨ (r = c - r ∧ q % 2 = 1)) := by
 unfold mdAway
 simp
theorem Qdi (n d : Int) (hn : -1000000000000000000 ≤ n) (hn' : n ≤ 1000000000000000000) (hd : 0 < d) : mdRes n 1 d 5 = (nearS n d, 0) := by
 obtain ⟨m, hm⟩ : ∃ m, m = (n.natAbs : Int) := ⟨_, rfl⟩
 have hm0 : 0 ≤ m := by omega
 have hq := Qeo hm0 hd
 have h0 := Int.emod_nonneg m (Int.ne_of_gt hd)
 have h1 := Int.emod_lt_of_pos m hd
 have e1 : ((1 : Int).natAbs : Int) = 1 := rfl
 have e2 : (d.natAbs : Int) = d := by omega
 have hQ : ∀ b, (if 0 < m % d ∧ mdAway 5 b (m / d) (m % d) d = true then m / d + 1 else m / d) = if 2 * (m % d) > d ∨ (2 * (m % d) = d ∧ (m / d) % 2 = 1) then m / d + 1 else m / d := by
  intro b
  have e : (0 < m % d ∧ mdAway 5 b (m / d) (m % d) d = true) ↔ (2 * (m % d) > d ∨ (2 * (m % d) = d ∧ (m / d) % 2 = 1)) := by rw [away5]; omega
  simp only [e]
 unfold mdRes mdQ
 rw [e1, e2, ← hm, Int.mul_one, hQ]
 unfold nearS
 by_cases hs : n < 0
 ·have hb : Qbg n 1 d = true := by unfold Qbg; rw [decide_eq_true hs, decide_eq_false (by omega : ¬ d < 0)]; rfl
  obtain rfl : n = -m := by omega
  rw [hb, if_pos rfl]
  by_cases hr : m % d = 0
  ·obtain ⟨e3, e4⟩ := Qdq hd hr
   rw [e3, e4, hr]
   generalize m / d = q at *
   rw [if_neg (by omega), if_neg (by omega), if_neg (by omega)]
  obtain ⟨e3, e4⟩ := QdI hd hr
  rw [e3, e4]
  generalize m / d = q at *
  generalize m % d = r at *
  by_cases c : 2 * r > d ∨ (2 * r = d ∧ q % 2 = 1)
  ·rw [if_pos c, if_neg (by omega), if_neg (by omega)]
   congr 1; omega
  rw [if_neg c, if_neg (by omega), if_pos (by omega)]
  congr 1; omega
 have hb : Qbg n 1 d = false := by unfold Qbg; rw [decide_eq_false hs, decide_eq_false (by omega : ¬ d < 0)]; rfl
 obtain rfl : n = m := by omega
 rw [hb, if_neg (by simp : ¬ false = true)]
 generalize n / d = q at *
 generalize n % d = r at *
 rw [if_neg]
 by_cases c : 2 * r > d ∨ (2 * r = d ∧ q % 2 = 1)
 ·rw [if_pos c]; omega
 rw [if_neg c]; omega
end Go.Proofs.Ytaembbndjpebhaa.Pr
