/- CurveBetween: a price lies between the least and the greatest known one, but for half a tick; of a known day it is that one's. -/
import Derived.Test.YtaembbndjpebhaaQBF7LmCurveAt
import Derived.Test.YtaembbndjpebhaaQBF7LmCurveChk
import Derived.Test.YtaembbndjpebhaaQBF7LmCurveEq
import Derived.Test.YtaembbndjpebhaaQBF7LmCurveLaw
import Derived.Test.YtaembbndjpebhaaQBF7LmCurveMore
import Derived.Test.YtaembbndjpebhaaQBF7LmCurveRef
import Derived.Test.YtaembbndjpebhaaQBF7LmCurveTop
import Derived.Test.YtaembbndjpebhaaQBF7P0
import Derived.Test.YtaembbndjpebhaaQBF7P3
import Derived.Test.YtaembbndjpebhaaQBF7PrxDCurveBetween
namespace Go.Proofs.Ytaembbndjpebhaa.Pure
open Go.RowKit Go.Proofs.Ytaembbndjpebhaa.Pr Go.Proofs.YtaembbndjpebhaaW.PrintWords Go.Proofs.YtaembbndjpebhaaW.PrintLast Go.Proofs.YtaembbndjpebhaaW.PrintMore
set_option linter.unusedVariables false
set_option linter.unusedSimpArgs false
theorem bt_loop (l : List Pt) (hG : GoodC l) (day tick : Int) (ht : 1 ≤ tick) (ht' : tick ≤ 16777216) (m : Nat) (hm3 : 3000 ≤ m) : ∀ (d i : Nat) (lo hi : Int), i + d = l.length → -67108864 ≤ lo → lo ≤ 67108864 → -67108864 ≤ hi → hi ≤ 67108864 → (∀ p ∈ kn (l.take i), lo ≤ p.f1 ∧ p.f1 ≤ hi) →
  contangolaw19_CurveBetween.l0 (d + 1 + m) day tick (atS l day tick) lo hi l (l.length : Int) (i : Int) = some true := by
 have hl := hG.len
 intro d
 induction d with
 | zero =>
  intro i lo hi hi1 b1 b2 b3 b4 h
  rw [List.take_of_length_le (by omega)] at h
  obtain ⟨q1, q2⟩ := Qbz hG (day := day) ht ht' h
  obtain ⟨q3, q4⟩ := Qbz hG (day := day) (lo := -16777216) (hi := 16777216) ht ht' (fun p hp => (hG.rng p (mem_kn hp).1).2.2 (mem_kn hp).2)
  rw [show 0 + 1 + m = m + 1 by omega, contangolaw19_CurveBetween.l0, if_neg (by omega), IntWalk.wrap64_in (2 * atS l day tick) (by omega), IntWalk.wrap64_in (2 * lo) (by omega), IntWalk.wrap64_in (2 * lo - tick) (by omega), IntWalk.wrap64_in (2 * hi) (by omega), IntWalk.wrap64_in (2 * hi + tick) (by omega), if_pos q1, if_pos q2, goes19 m hm3]
  rfl
 | succ d ih =>
  intro i lo hi hi1 b1 b2 b3 b4 h
  have hm := Qdo l i (by omega)
  rw [show d + 1 + 1 + m = (d + 1 + m) + 1 by omega, contangolaw19_CurveBetween.l0, if_pos (by omega), if_pos (by omega), if_pos (by omega), IntWalk.wrap64_in ((i : Int) + 1) (by omega), show ((i : Int) + 1) = ((i + 1 : Nat) : Int) by omega]
  have ht2 := Qb1 l i (by omega)
  have hkt : kn (l.take (i + 1)) = kn (l.take i) ++ kn [rd_T56 l (i : Int)] := by rw [ht2]; unfold kn; rw [List.filter_append]
  by_cases hk : (rd_T56 l (i : Int)).f2 = true
  ·have hp := (hG.rng _ hm).2.2 hk
   have mnx : ∀ x y : Int, mn x y ≤ x ∧ mn x y ≤ y ∧ (mn x y = x ∨ mn x y = y) := fun x y => by unfold mn; split <;> omega
   have mxx : ∀ x y : Int, x ≤ mx x y ∧ y ≤ mx x y ∧ (mx x y = x ∨ mx x y = y) := fun x y => by unfold mx; split <;> omega
   have nx : contangolaw19_CurveBetween.l0 (d + 1 + m) day tick (atS l day tick) (mn lo (rd_T56 l (i : Int)).f1) (mx hi (rd_T56 l (i : Int)).f1) l (l.length : Int) ((i + 1 : Nat) : Int) = some true := by
    have m1 := mnx lo (rd_T56 l (i : Int)).f1
    have m2 := mxx hi (rd_T56 l (i : Int)).f1
    have hp1 := hp.1
    have hp2 := hp.2
    refine ih (i + 1) _ _ (by omega) (by omega) (by omega) (by omega) (by omega) (fun p hpm => ?_)
    rw [hkt] at hpm
    rcases List.mem_append.1 hpm with hpm | hpm
    ·have := h p hpm; omega
    have := (mem_kn hpm).1
    rw [List.mem_singleton] at this
    subst this
    omega
   rw [if_pos hk]
   by_cases c : (rd_T56 l (i : Int)).f0 = day
   ·have e : atS l day tick = (rd_T56 l (i : Int)).f1 := by rw [← c]; exact QcQ hG.srt (List.mem_filter.2 ⟨hm, hk⟩) tick
    rw [if_pos c, if_pos e, nx]
   rw [if_neg c, nx]
  rw [if_neg hk]
  refine ih (i + 1) lo hi (by omega) b1 b2 b3 b4 (fun p hpm => ?_)
  rw [hkt] at hpm
  rcases List.mem_append.1 hpm with hpm | hpm
  ·exact h p hpm
  have h1 := mem_kn hpm
  have := h1.1
  rw [List.mem_singleton] at this
  rw [this] at h1
  exact absurd h1.2 hk
theorem CurveBetween : contangolaw19_CurveBetween.Pure := by
 intro l day tick _ _ _ _ _
 refine ⟨4000, ?_⟩
 unfold contangolaw19_CurveBetween.f
 rw [At_eq l day tick 4000 (by omega), Option.bind_some]
 unfold AtS
 by_cases h : chkS l = 0
 ·rw [if_pos h]
  by_cases h1 : tick < 1 ∨ tick > 16777216
  ·rw [if_pos h1, if_neg (by decide), if_pos rfl, goes19 4000 (by omega)]; rfl
  rw [if_neg h1]
  by_cases h2 : day < 0 ∨ day > 73048
  ·rw [if_pos h2, if_neg (by decide), if_pos rfl, goes19 4000 (by omega)]; rfl
  rw [if_neg h2, if_pos rfl]
  have hl := (Qbf h).len
  obtain ⟨m, hm, e⟩ : ∃ m, 3000 ≤ m ∧ 4000 = l.length + 1 + m := ⟨4000 - l.length - 1, by omega, by omega⟩
  have := bt_loop l (Qbf h) day tick (by omega) (by omega) m hm l.length 0 67108864 (-67108864) (by omega) (by omega) (by omega) (by omega) (by omega) (fun p hp => by simp [kn] at hp)
  rw [← e] at this
  exact this
 rw [if_neg h, if_neg h, if_pos rfl, goes19 4000 (by omega)]; rfl
end Go.Proofs.Ytaembbndjpebhaa.Pure
