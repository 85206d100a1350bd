/- Positions: Check, Net, and the largest one, by the program and by the reference. -/
import Derived.Test.YtaiekjimdjlgbaaQ2BBLmBytes
import Derived.Test.YtaiekjimdjlgbaaQ2BBLmName
import Derived.Test.YtaiekjimdjlgbaaQ2BBP0
import Derived.Test.YtaiekjimdjlgbaaQ2BBP1
import Derived.Test.YtaiekjimdjlgbaaQ2BBP2
import Derived.Test.YtaiekjimdjlgbaaQ2BBP3
namespace Go.Proofs.Ytaiekjimdjlgbaa.Pr
open Go.RowKit Go.Proofs.Ytaiekjimdjlgbaa.Pr Go.Proofs.YtaiekjimdjlgbaaW.PrintWords Go.Proofs.YtaiekjimdjlgbaaW.PrintLast Go.Proofs.YtaiekjimdjlgbaaW.PrintMore
set_option linter.unusedVariables false
set_option linter.unusedSimpArgs false
abbrev Po := S109
theorem order_eq (a b : Int) : contangoref10_order.f a b = some (if a < b then -1 else if b < a then 1 else 0) := by
  unfold contangoref10_order.f
  (repeat' split) <;> first | rfl | (exfalso; omega)
theorem compare_eq10 (a : ByteArray) (a1 a2 a3 : Int) (b : ByteArray) (b1 b2 b3 : Int) : contangoref10_Compare.f a a1 a2 a3 b b1 b2 b3 = series_Compare.f a a1 a2 a3 b b1 b2 b3 := by
  unfold contangoref10_Compare.f series_Compare.f
  simp only [order_eq, Option.bind_some]
  by_cases h : Op.bytesLess a.toList b.toList = true
  · have hne : ¬ a.toList = b.toList := fun e => by rw [e, bl_self] at h; cases h
    rw [if_pos h, if_neg hne, if_pos h]
  · rw [if_neg h]
    by_cases e : a.toList = b.toList
    · rw [if_pos e, if_pos e]
      by_cases e2 : a2 = b2
      · rw [if_pos e2, if_pos e2]
        by_cases e1 : a1 = b1
        · rw [if_pos e1, if_pos e1]
          by_cases e3 : a3 = b3
          · rw [if_pos e3, if_neg (by omega), if_neg (by omega)]
          · rw [if_neg e3]
            by_cases l3 : a3 < b3
            · rw [if_pos l3, if_pos l3]
            · rw [if_neg l3, if_neg l3, if_pos (by omega)]
        · rw [if_neg e1, if_neg e1]
          by_cases l3 : a1 < b1
          · rw [if_pos l3, if_pos l3]
          · rw [if_neg l3, if_neg l3, if_pos (by omega)]
      · rw [if_neg e2, if_neg e2]
        by_cases l3 : a2 < b2
        · rw [if_pos l3, if_pos l3]
        · rw [if_neg l3, if_neg l3, if_pos (by omega)]
    · rw [if_neg e, if_neg e, if_neg h]
theorem series_some (a : ByteArray) (a1 a2 a3 : Int) (b : ByteArray) (b1 b2 b3 : Int) : ∃ r, series_Compare.f a a1 a2 a3 b b1 b2 b3 = some r := by
  unfold series_Compare.f
  (repeat' split) <;> exact ⟨_, rfl⟩
theorem lots_eq (n : Int) : position_lots.f n = some (decide (0 ≤ n ∧ n ≤ 1048576)) := by
  unfold position_lots.f
  split
  · congr 1; rw [decide_eq_decide]; omega
  · congr 1; exact (decide_eq_false (by omega)).symm
theorem rlots_eq (n : Int) : contangoref15_lots.f n = some (decide (0 ≤ n ∧ n ≤ 1048576)) := by
  unfold contangoref15_lots.f
  split
  · congr 1; rw [decide_eq_decide]; omega
  · congr 1; exact (decide_eq_false (by omega)).symm
theorem poschk_loop (l : List Po) (hl : l.length ≤ 128) : ∀ n i k : Nat, i + n = l.length → 2 * n + 2 ≤ k → ∃ r : Int, position_Check.l0 k l l (l.length : Int) (i : Int) = some r ∧ contangoref15_Check.l0 k l (i : Int) = some r ∧ (r = 0 → ∀ j : Nat, i ≤ j → j < l.length → 0 ≤ (rd_T109 l (j : Int)).f1 ∧ (rd_T109 l (j : Int)).f1 ≤ 1048576 ∧ 0 ≤ (rd_T109 l (j : Int)).f2 ∧ (rd_T109 l (j : Int)).f2 ≤ 1048576) := by
  intro n
  induction n with
  | zero =>
    intro i k hi hk
    obtain ⟨k, rfl⟩ : ∃ m, k = m + 1 := ⟨k - 1, by omega⟩
    exact ⟨0, by rw [position_Check.l0, if_neg (by omega)], by rw [contangoref15_Check.l0, if_neg (by omega)], fun _ j h1 h2 => by omega⟩
  | succ n ih =>
    intro i k hi hk
    obtain ⟨k, rfl⟩ : ∃ m, k = m + 2 := ⟨k - 2, by omega⟩
    obtain ⟨r, e1, e2, e3⟩ := ih (i + 1) k (by omega) (by omega)
    obtain ⟨p, hp⟩ : ∃ p, rd_T109 l (i : Int) = p := ⟨_, rfl⟩
    -- this position's own numbers
    have hj : ∀ b : Bool, ∃ r : Int, position_Check.j1 (k + 1) l l (l.length : Int) (i : Int) b p.f0.f0 p.f0.f1 p.f0.f2 p.f0.f3 p.f1 p.f2 = some r ∧ contangoref15_Check.j1 (k + 1) l (i : Int) b = some r ∧ (r = 0 → ∀ j : Nat, i ≤ j → j < l.length → 0 ≤ (rd_T109 l (j : Int)).f1 ∧ (rd_T109 l (j : Int)).f1 ≤ 1048576 ∧ 0 ≤ (rd_T109 l (j : Int)).f2 ∧ (rd_T109 l (j : Int)).f2 ≤ 1048576) := by
      intro b
      rw [position_Check.j1, contangoref15_Check.j1]
      cases b with
      | true => exact ⟨19, rfl, rfl, fun z => by cases z⟩
      | false =>
        simp only [Bool.false_eq_true, if_false]
        rw [if_pos (show (0 : Int) ≤ (i : Int) by omega), if_pos (show (i : Int) < (l.length : Int) by omega), hp]
        simp only [lots_eq, rlots_eq, Option.bind_some, decide_eq_true_eq]
        by_cases c1 : 0 ≤ p.f1 ∧ p.f1 ≤ 1048576
        · rw [if_pos c1, if_pos c1]
          by_cases c2 : 0 ≤ p.f2 ∧ p.f2 ≤ 1048576
          · rw [if_pos c2, if_pos c2, nwrap (x := p.f1 + p.f2) (by omega) (by omega), nwrap (x := (i : Int) + 1) (by omega) (by omega), show ((i : Int) + 1) = ((i + 1 : Nat) : Int) by omega]
            by_cases c3 : p.f1 = 0 ∧ p.f2 = 0
            · rw [if_pos c3.1, if_pos c3.2, if_pos (by omega)]
              exact ⟨18, rfl, rfl, fun z => by cases z⟩
            · rw [if_neg (show ¬ (p.f1 + p.f2 = 0) by omega)]
              refine ⟨r, ?_, e2, fun z j h1 h2 => ?_⟩
              · by_cases c4 : p.f1 = 0
                · rw [if_pos c4, if_neg (by omega), e1]
                · rw [if_neg c4, e1]
              · by_cases hij : i = j
                · subst hij; rw [hp]; exact ⟨c1.1, c1.2, c2.1, c2.2⟩
                · exact e3 z j (by omega) h2
          · rw [if_neg c2, if_neg c2]
            exact ⟨18, rfl, rfl, fun z => by cases z⟩
        · rw [if_neg c1, if_neg c1]
          exact ⟨18, rfl, rfl, fun z => by cases z⟩
    have hlt : (i : Int) < (l.length : Int) := by omega
    have h00 : (0 : Int) ≤ (i : Int) := by omega
    rw [position_Check.l0, contangoref15_Check.l0]
    simp only [eq_true hlt, eq_true h00, if_true, hp]
    by_cases h0 : (i : Int) > 0
    · have h1 : (0 : Int) ≤ (i : Int) - 1 := by omega
      have h2 : (i : Int) - 1 < (l.length : Int) := by omega
      rw [IntWalk.wrap64_in ((i : Int) - 1) (by omega)]
      simp only [eq_true h0, eq_true h1, eq_true h2, if_true, compare_eq10]
      obtain ⟨c, hc⟩ := series_some (rd_T109 l ((i : Int) - 1)).f0.f0 (rd_T109 l ((i : Int) - 1)).f0.f1 (rd_T109 l ((i : Int) - 1)).f0.f2 (rd_T109 l ((i : Int) - 1)).f0.f3 p.f0.f0 p.f0.f1 p.f0.f2 p.f0.f3
      simp only [hc, Option.bind_some]
      exact hj _
    · simp only [eq_false h0, if_false]
      exact hj _
theorem poscheck_eq (l : List Po) (k : Nat) (hk : 300 ≤ k) : ∃ r : Int, position_Check.f k l = some r ∧ contangoref15_Check.f k l = some r ∧ (r = 0 → l.length ≤ 128 ∧ ∀ j : Nat, j < l.length → 0 ≤ (rd_T109 l (j : Int)).f1 ∧ (rd_T109 l (j : Int)).f1 ≤ 1048576 ∧ 0 ≤ (rd_T109 l (j : Int)).f2 ∧ (rd_T109 l (j : Int)).f2 ≤ 1048576) := by
  unfold position_Check.f contangoref15_Check.f
  by_cases h : (l.length : Int) > 128
  · exact ⟨8, by rw [if_pos h], by rw [if_pos h], fun z => by cases z⟩
  · obtain ⟨r, e1, e2, e3⟩ := poschk_loop l (by omega) l.length 0 k (by omega) (by omega)
    exact ⟨r, by rw [if_neg h]; exact e1, by rw [if_neg h]; exact e2, fun z => ⟨by omega, fun j hj => e3 z j (by omega) hj⟩⟩
theorem lrg_loop (l : List Po) (hl : l.length ≤ 128) : ∀ n i k : Nat, i + n = l.length → n + 1 ≤ k → ∀ (m : Int) (s : ByteArray) (s1 s2 s3 : Int), ∃ r, addon_Largest.l0 k m l (l.length : Int) (i : Int) s s1 s2 s3 = some r ∧ contangoref28_Largest.l0 k l m (i : Int) s s1 s2 s3 = some r := by
  intro n
  induction n with
  | zero =>
    intro i k hi hk m s s1 s2 s3
    obtain ⟨k, rfl⟩ : ∃ m, k = m + 1 := ⟨k - 1, by omega⟩
    exact ⟨(m, s, s1, s2, s3, 0), by rw [addon_Largest.l0, if_neg (by omega)], by rw [contangoref28_Largest.l0, if_neg (by omega)]⟩
  | succ n ih =>
    intro i k hi hk m s s1 s2 s3
    obtain ⟨k, rfl⟩ : ∃ m, k = m + 1 := ⟨k - 1, by omega⟩
    have hlt : (i : Int) < (l.length : Int) := by omega
    have h00 : (0 : Int) ≤ (i : Int) := by omega
    rw [addon_Largest.l0, contangoref28_Largest.l0]
    unfold position_Net.f contangoref15_Net.f
    simp only [eq_true hlt, eq_true h00, if_true, Option.bind_some]
    rw [nwrap (x := (i : Int) + 1) (by omega) (by omega), show ((i : Int) + 1) = ((i + 1 : Nat) : Int) by omega]
    split
    · exact ih (i + 1) k (by omega) (by omega) _ _ _ _ _
    · exact ih (i + 1) k (by omega) (by omega) _ _ _ _ _
theorem largest_eq (l : List Po) (k : Nat) (hk : 300 ≤ k) : ∃ r, addon_Largest.f k l = some r ∧ contangoref28_Largest.f k l = some r := by
  obtain ⟨c, e1, e2, e3⟩ := poscheck_eq l k hk
  unfold addon_Largest.f contangoref28_Largest.f
  rw [e1, e2, Option.bind_some, Option.bind_some]
  by_cases h : c = 0
  · rw [if_pos h, if_pos h]
    by_cases h0 : (l.length : Int) = 0
    · rw [if_pos h0, if_pos h0]; exact ⟨_, rfl, rfl⟩
    · rw [if_neg h0, if_neg h0, show (0 : Int) = ((0 : Nat) : Int) from rfl]
      have hl := (e3 h).1
      exact lrg_loop l hl l.length 0 k (by omega) (by omega) _ _ _ _ _
  · rw [if_neg h, if_neg h]; exact ⟨_, rfl, rfl⟩
end Go.Proofs.Ytaiekjimdjlgbaa.Pr
