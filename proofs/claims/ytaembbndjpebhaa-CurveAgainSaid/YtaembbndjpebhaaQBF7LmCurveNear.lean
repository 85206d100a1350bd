/- Half up or down to the even one: what MulDiv and the reference's nearest answer. -/
import Derived.Test.YtaembbndjpebhaaQBF7P0
import Derived.Test.YtaembbndjpebhaaQBF7P1
namespace Go.Proofs.Ytaembbndjpebhaa.Pr
open Go.RowKit Go.Proofs.Ytaembbndjpebhaa.Pr Go.Proofs.YtaembbndjpebhaaW.PrintWords Go.Proofs.YtaembbndjpebhaaW.PrintLast Go.Proofs.YtaembbndjpebhaaW.PrintMore
set_option linter.unusedVariables false
set_option linter.unusedSimpArgs false
def nearS (n d : Int) : Int := if 2 * (n % d) > d ∨ (2 * (n % d) = d ∧ (n / d) % 2 = 1) then n / d + 1 else n / d
theorem QcH {m d : Int} (hd : 0 < d) (hr : m % d ≠ 0) : (-m) / d = -(m / d) - 1 ∧ (-m) % d = d - m % d := by
 have h0 := Int.emod_nonneg m (Int.ne_of_gt hd)
 have h1 := Int.emod_lt_of_pos m hd
 have h2 := Int.emod_add_mul_ediv m d
 refine (Int.ediv_emod_unique hd).2 ⟨?_, by omega, by omega⟩
 rw [Int.mul_sub, Int.mul_neg]
 omega
theorem Qcm {m d : Int} (hd : 0 < d) (hr : m % d = 0) : (-m) / d = -(m / d) ∧ (-m) % d = 0 := by
 have h2 := Int.emod_add_mul_ediv m d
 refine (Int.ediv_emod_unique hd).2 ⟨?_, by omega, by omega⟩
 rw [Int.mul_neg]
 omega
theorem Qcx {m d : Int} (hm : 0 ≤ m) (hd : 0 < d) : 0 ≤ m / d ∧ m / d ≤ m := by
 refine ⟨Int.ediv_nonneg hm (Int.le_of_lt hd), ?_⟩
 exact Int.ediv_le_self _ hm
theorem away5 (b : Bool) (q r c : Int) : (mdAway 5 b q r c = true) ↔ (c - r < r ∨ (r = c - r ∧ q % 2 = 1)) := by
 unfold mdAway
 simp
theorem Qei (n d : Int) (hn : -1000000000000000000 ≤ n) (hn' : n ≤ 1000000000000000000) (hd : 0 < d) : mdRes n 1 d 5 = (nearS n d, 0) := by
 obtain ⟨m, hm⟩ : ∃ m, m = (n.natAbs : Int) := ⟨_, rfl⟩
 have hm0 : 0 ≤ m := by omega
 have hq := Qcx hm0 hd
 have h0 := Int.emod_nonneg m (Int.ne_of_gt hd)
 have h1 := Int.emod_lt_of_pos m hd
 have e1 : ((1 : Int).natAbs : Int) = 1 := rfl
 have e2 : (d.natAbs : Int) = d := by omega
 have hQ : ∀ b, (if 0 < m % d ∧ mdAway 5 b (m / d) (m % d) d = true then m / d + 1 else m / d) = if 2 * (m % d) > d ∨ (2 * (m % d) = d ∧ (m / d) % 2 = 1) then m / d + 1 else m / d := by
  intro b
  have e : (0 < m % d ∧ mdAway 5 b (m / d) (m % d) d = true) ↔ (2 * (m % d) > d ∨ (2 * (m % d) = d ∧ (m / d) % 2 = 1)) := by rw [away5]; omega
  simp only [e]
 unfold mdRes mdQ
 rw [e1, e2, ← hm, Int.mul_one, hQ]
 unfold nearS
 by_cases hs : n < 0
 ·have hb : Qa7 n 1 d = true := by unfold Qa7; rw [decide_eq_true hs, decide_eq_false (by omega : ¬ d < 0)]; rfl
  obtain rfl : n = -m := by omega
  rw [hb, if_pos rfl]
  by_cases hr : m % d = 0
  ·obtain ⟨e3, e4⟩ := Qcm hd hr
   rw [e3, e4, hr]
   generalize m / d = q at *
   rw [if_neg (by omega), if_neg (by omega), if_neg (by omega)]
  obtain ⟨e3, e4⟩ := QcH hd hr
  rw [e3, e4]
  generalize m / d = q at *
  generalize m % d = r at *
  by_cases c : 2 * r > d ∨ (2 * r = d ∧ q % 2 = 1)
  ·rw [if_pos c, if_neg (by omega), if_neg (by omega)]
   congr 1; omega
  rw [if_neg c, if_neg (by omega), if_pos (by omega)]
  congr 1; omega
 have hb : Qa7 n 1 d = false := by unfold Qa7; rw [decide_eq_false hs, decide_eq_false (by omega : ¬ d < 0)]; rfl
 obtain rfl : n = m := by omega
 rw [hb, if_neg (by simp : ¬ false = true)]
 generalize n / d = q at *
 generalize n % d = r at *
 rw [if_neg]
 by_cases c : 2 * r > d ∨ (2 * r = d ∧ q % 2 = 1)
 ·rw [if_pos c]; omega
 rw [if_neg c]; omega
theorem tm2 (x : Int) : Int.tmod x 2 = 0 ↔ x % 2 = 0 := by
 rw [← Int.dvd_iff_tmod_eq_zero, ← Int.dvd_iff_emod_eq_zero]
theorem w64c {x : Int} (h : -4000000000000000000 ≤ x) (h' : x ≤ 4000000000000000000) : wrap64 x = x := by unfold wrap64; omega
theorem Qd8 (n d : Int) (hn : -1000000000000000000 ≤ n) (hn' : n ≤ 1000000000000000000) (hd : 0 < d) (hd' : d ≤ 1000000000000000000) : Qa0.f n d = some (nearS n d) := by
 unfold Qa0.f nearS
 rw [if_neg (by omega)]
 by_cases hs : n < 0
 ·obtain ⟨m, rfl⟩ : ∃ m, n = -m := ⟨-n, by omega⟩
  have hq := Qcx (m := m) (by omega) hd
  have h0 := Int.emod_nonneg m (Int.ne_of_gt hd)
  have h1 := Int.emod_lt_of_pos m hd
  rw [Int.neg_tdiv, Int.neg_tmod, Int.tdiv_eq_ediv_of_nonneg (by omega), Int.tmod_eq_emod_of_nonneg (by omega)]
  by_cases hr : m % d = 0
  ·obtain ⟨e3, e4⟩ := Qcm hd hr
   rw [e3, e4, hr]
   generalize m / d = q at *
   rw [if_neg (by omega), if_neg (by rw [w64c (by omega) (by omega)]; omega), if_neg (by rw [w64c (by omega) (by omega)]; omega), if_neg (by omega), w64c (by omega) (by omega)]
  obtain ⟨e3, e4⟩ := QcH hd hr
  rw [e3, e4]
  generalize m / d = q at *
  generalize m % d = r at *
  have w1 : wrap64 (-r + d) = d - r := by rw [w64c (by omega) (by omega)]; omega
  have w2 : wrap64 (2 * (d - r)) = 2 * (d - r) := w64c (by omega) (by omega)
  have w3 : wrap64 (-q) = -q := w64c (by omega) (by omega)
  have w4 : wrap64 (-q - 1) = -q - 1 := w64c (by omega) (by omega)
  have w5 : wrap64 (-q - 1 + 1) = -q - 1 + 1 := w64c (by omega) (by omega)
  rw [if_pos (by omega), w1, w2, w3, w4, w5]
  by_cases c : 2 * (d - r) > d
  ·rw [if_pos c, if_pos (.inl c)]
  rw [if_neg c]
  by_cases c2 : 2 * (d - r) = d
  ·rw [if_pos c2]
   by_cases c3 : (-q - 1) % 2 = 0
   ·rw [if_pos ((tm2 _).2 c3), if_neg (by omega)]
   rw [if_neg (fun h => c3 ((tm2 _).1 h)), if_pos (by omega)]
  rw [if_neg c2, if_neg (by omega)]
 have hq := Qcx (m := n) (by omega) hd
 have h0 := Int.emod_nonneg n (Int.ne_of_gt hd)
 have h1 := Int.emod_lt_of_pos n hd
 rw [Int.tdiv_eq_ediv_of_nonneg (by omega), Int.tmod_eq_emod_of_nonneg (by omega)]
 generalize n / d = q at *
 generalize n % d = r at *
 have w2 : wrap64 (2 * r) = 2 * r := w64c (by omega) (by omega)
 have w3 : wrap64 q = q := w64c (by omega) (by omega)
 have w5 : wrap64 (q + 1) = q + 1 := w64c (by omega) (by omega)
 rw [if_neg (by omega), w2, w3, w5]
 by_cases c : 2 * r > d
 ·rw [if_pos c, if_pos (.inl c)]
 rw [if_neg c]
 by_cases c2 : 2 * r = d
 ·rw [if_pos c2]
  by_cases c3 : q % 2 = 0
  ·rw [if_pos ((tm2 _).2 c3), if_neg (by omega)]
  rw [if_neg (fun h => c3 ((tm2 _).1 h)), if_pos (by omega)]
 rw [if_neg c2, if_neg (by omega)]
end Go.Proofs.Ytaembbndjpebhaa.Pr
