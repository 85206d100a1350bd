/- Curves: what holds of the price of a day. -/
import Derived.Test.YtaembbndjpebhaaQ974LmCurveAt
import Derived.Test.YtaembbndjpebhaaQ974LmCurveChk
import Derived.Test.YtaembbndjpebhaaQ974LmCurveEq
import Derived.Test.YtaembbndjpebhaaQ974LmCurveNear
import Derived.Test.YtaembbndjpebhaaQ974LmCurvePr
import Derived.Test.YtaembbndjpebhaaQ974P0
namespace Go.Proofs.Ytaembbndjpebhaa.Pr
open Go.RowKit Go.Proofs.Ytaembbndjpebhaa.Pr Go.Proofs.YtaembbndjpebhaaW.PrintWords Go.Proofs.YtaembbndjpebhaaW.PrintLast Go.Proofs.YtaembbndjpebhaaW.PrintMore
set_option linter.unusedVariables false
set_option linter.unusedSimpArgs false
theorem QcF {l : List Pt} {day : Int} {b : Pt} (h : geK l day = some b) : b ∈ kn l ∧ day ≤ b.f0 := by
 have := List.mem_filter.1 (List.mem_of_head? h)
 exact ⟨this.1, by simpa using this.2⟩
theorem Qcg {l : List Pt} {day : Int} {a : Pt} (h : leK l day = some a) : a ∈ kn l ∧ a.f0 ≤ day := by
 have := List.mem_filter.1 (List.mem_of_getLast? h)
 exact ⟨this.1, by simpa using this.2⟩
theorem QdX {l : List Pt} (hne : kn l ≠ []) (day : Int) : leK l day ≠ none ∨ geK l day ≠ none := by
 cases hkn : kn l with
 | nil => exact absurd hkn hne
 | cons p t =>
  have hp : p ∈ kn l := by rw [hkn]; exact List.mem_cons_self
  by_cases c : p.f0 ≤ day
  ·left
   unfold leK
   intro e
   rw [List.getLast?_eq_none_iff] at e
   have := List.filter_eq_nil_iff.1 e p hp; simp at this; omega
  right
  unfold geK
  intro e
  rw [List.head?_eq_none_iff] at e
  have := List.filter_eq_nil_iff.1 e p hp; simp at this; omega
theorem Qdo {l : List Pt} (hG : GoodC l) {day tick lo hi : Int} (ht : 1 ≤ tick) (ht' : tick ≤ 16777216) (h : ∀ p ∈ kn l, lo ≤ p.f1 ∧ p.f1 ≤ hi) : 2 * lo - tick ≤ 2 * atS l day tick ∧ 2 * atS l day tick ≤ 2 * hi + tick := by
 unfold atS
 have hn := QdX hG.ne day
 cases hA : leK l day with
 | none =>
  cases hB : geK l day with
  | none => rw [hA, hB] at hn; simp at hn
  | some b => have := h b (QcF hB).1; dsimp only; omega
 | some a =>
  cases hB : geK l day with
  | none => have := h a (Qcg hA).1; dsimp only; omega
  | some b =>
   obtain ⟨a1, a2⟩ := Qcg hA
   obtain ⟨b1, b2⟩ := QcF hB
   obtain ⟨al, ah⟩ := h a a1
   obtain ⟨bl, bh⟩ := h b b1
   dsimp only
   by_cases c : a.f0 = b.f0
   ·rw [if_pos c]; omega
   rw [if_neg c]
   have hs : 0 < b.f0 - a.f0 := by omega
   have nt := Qco (a.f1 * (b.f0 - a.f0) + (b.f1 - a.f1) * (day - a.f0)) ((b.f0 - a.f0) * tick) (Int.mul_pos hs (by omega))
   have e : nearS (a.f1 * (b.f0 - a.f0) + (b.f1 - a.f1) * (day - a.f0)) ((b.f0 - a.f0) * tick) * ((b.f0 - a.f0) * tick) = lineS a b day tick * (b.f0 - a.f0) := by unfold lineS; rw [Int.mul_comm (b.f0 - a.f0) tick, ← Int.mul_assoc]
   rw [e] at nt
   have hN : lo * (b.f0 - a.f0) ≤ a.f1 * (b.f0 - a.f0) + (b.f1 - a.f1) * (day - a.f0) ∧ a.f1 * (b.f0 - a.f0) + (b.f1 - a.f1) * (day - a.f0) ≤ hi * (b.f0 - a.f0) := by
    have ep : a.f1 * (b.f0 - a.f0) + (b.f1 - a.f1) * (day - a.f0) = a.f1 * (b.f0 - day) + b.f1 * (day - a.f0) := by
     rw [Int.sub_mul, show b.f0 - a.f0 = (b.f0 - day) + (day - a.f0) by omega, Int.mul_add]; omega
    rw [ep, show b.f0 - a.f0 = (b.f0 - day) + (day - a.f0) by omega, Int.mul_add, Int.mul_add]
    have m1 := Int.mul_le_mul_of_nonneg_right al (show 0 ≤ b.f0 - day by omega)
    have m2 := Int.mul_le_mul_of_nonneg_right bl (show 0 ≤ day - a.f0 by omega)
    have m3 := Int.mul_le_mul_of_nonneg_right ah (show 0 ≤ b.f0 - day by omega)
    have m4 := Int.mul_le_mul_of_nonneg_right bh (show 0 ≤ day - a.f0 by omega)
    omega
   generalize a.f1 * (b.f0 - a.f0) + (b.f1 - a.f1) * (day - a.f0) = N at *
   generalize lineS a b day tick = v at *
   generalize b.f0 - a.f0 = s at *
   have q1 : (2 * lo - tick) * s ≤ (2 * v) * s := by
    rw [Int.sub_mul, Int.mul_assoc 2 lo, Int.mul_assoc 2 v, Int.mul_comm tick s]; omega
   have q2 : (2 * v) * s ≤ (2 * hi + tick) * s := by
    rw [Int.add_mul, Int.mul_assoc 2 hi, Int.mul_assoc 2 v, Int.mul_comm tick s]; omega
   exact ⟨Int.le_of_mul_le_mul_right q1 hs, Int.le_of_mul_le_mul_right q2 hs⟩
end Go.Proofs.Ytaembbndjpebhaa.Pr
