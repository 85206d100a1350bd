/- The price of a day: the reference's function is the plain one. -/
import Derived.Test.YtaembbndjpebhaaQBF7LmCurveAt
import Derived.Test.YtaembbndjpebhaaQBF7LmCurveChk
import Derived.Test.YtaembbndjpebhaaQBF7LmCurveEq
import Derived.Test.YtaembbndjpebhaaQBF7LmCurveNear
import Derived.Test.YtaembbndjpebhaaQBF7P0
import Derived.Test.YtaembbndjpebhaaQBF7P1
namespace Go.Proofs.Ytaembbndjpebhaa.Pr
open Go.RowKit Go.Proofs.Ytaembbndjpebhaa.Pr Go.Proofs.YtaembbndjpebhaaW.PrintWords Go.Proofs.YtaembbndjpebhaaW.PrintLast Go.Proofs.YtaembbndjpebhaaW.PrintMore
set_option linter.unusedVariables false
set_option linter.unusedSimpArgs false
def hitB (day : Int) (p : Pt) : Prop := p.f2 = true ∧ day ≤ p.f0
instance (day : Int) (p : Pt) : Decidable (hitB day p) := inferInstanceAs (Decidable (_ ∧ _))
def hitA (day : Int) (p : Pt) : Prop := p.f2 = true ∧ p.f0 ≤ day
instance (day : Int) (p : Pt) : Decidable (hitA day p) := inferInstanceAs (Decidable (_ ∧ _))
def bIdx (l : List Pt) (day : Int) : Nat → Int → Int
 | 0, x8 => x8
 | m + 1, x8 => bIdx l day m (if hitB day (rd_T56 l (m : Int)) then (m : Int) else x8)
theorem Qd6 (l : List Pt) (hl : l.length ≤ 1000000) (day tick x7 : Int) (m' : Nat) : ∀ (m : Nat) (x8 : Int), m ≤ l.length → Qai.l0 (m + 1 + m') l day tick x7 x8 ((m : Int) - 1) = Qai.l1 m' l day tick x7 (bIdx l day m x8) 0 := by
 intro m
 induction m with
 | zero =>
  intro x8 _
  rw [show 0 + 1 + m' = m' + 1 by omega, Qai.l0, if_neg (by omega)]
  rfl
 | succ m ih =>
  intro x8 hm
  rw [show m + 1 + 1 + m' = (m + 1 + m') + 1 by omega, Qai.l0, show (((m + 1 : Nat) : Int) - 1) = (m : Int) by omega, if_pos (by omega), if_pos (by omega), if_pos (by omega), IntWalk.wrap64_in ((m : Int) - 1) (by omega)]
  unfold bIdx
  by_cases hk : (rd_T56 l (m : Int)).f2 = true
  ·rw [if_pos hk]
   by_cases c : (rd_T56 l (m : Int)).f0 ≥ day
   ·rw [if_pos c, if_pos (show hitB day _ from ⟨hk, c⟩), ih _ (by omega)]
   rw [if_neg c, if_neg (fun h : hitB day _ => c h.2), ih _ (by omega)]
  rw [if_neg hk, if_neg (fun h : hitB day _ => hk h.1), ih _ (by omega)]
theorem Qb1 (l : List Pt) (m : Nat) (h : m < l.length) : l.take (m + 1) = l.take m ++ [rd_T56 l (m : Int)] := by
 rw [pt_rd l m h, List.take_add_one, List.getElem?_eq_getElem h]
 rfl
theorem filt2 (l : List Pt) (P : Pt → Bool) : (kn l).filter P = l.filter (fun p => p.f2 && P p) := by
 unfold kn
 rw [List.filter_filter]
 congr 1
 funext p
 rw [Bool.and_comm]
theorem QdC (l : List Pt) (day : Int) : ∀ (m : Nat) (x8 : Int), m ≤ l.length → (bIdx l day m x8 = x8 ∧ (l.take m).filter (fun p => p.f2 && decide (day ≤ p.f0)) = []) ∨ (∃ j : Nat, j < m ∧ bIdx l day m x8 = (j : Int) ∧ ((l.take m).filter (fun p => p.f2 && decide (day ≤ p.f0))).head? = some (rd_T56 l (j : Int))) := by
 intro m
 induction m with
 | zero => intro x8 _; left; exact ⟨rfl, by simp⟩
 | succ m ih =>
  intro x8 hm
  rw [Qb1 l m (by omega), List.filter_append]
  unfold bIdx
  by_cases c : hitB day (rd_T56 l (m : Int))
  ·rw [if_pos c, List.filter_cons_of_pos (by rw [c.1, decide_eq_true c.2]; rfl), List.filter_nil]
   right
   rcases ih (m : Int) (by omega) with ⟨h1, h2⟩ | ⟨j, h1, h2, h3⟩
   ·exact ⟨m, by omega, h1, by rw [h2]; rfl⟩
   exact ⟨j, by omega, h2, by rw [List.head?_append, h3]; rfl⟩
  rw [if_neg c, List.filter_cons_of_neg (by unfold hitB at c; simpa using c), List.filter_nil, List.append_nil]
  rcases ih x8 (by omega) with h | ⟨j, h1, h2, h3⟩
  ·exact .inl h
  exact .inr ⟨j, by omega, h2, h3⟩
def aIs (l : List Pt) (day : Int) (i : Nat) (x7 : Int) : Prop := (x7 = -1 ∧ (l.take i).filter (fun p => p.f2 && decide (p.f0 ≤ day)) = []) ∨ (∃ j : Nat, j < i ∧ x7 = (j : Int) ∧ ((l.take i).filter (fun p => p.f2 && decide (p.f0 ≤ day))).getLast? = some (rd_T56 l (j : Int)))
theorem QdQ (l : List Pt) (day : Int) (i : Nat) (hi : i < l.length) (x7 : Int) (h : aIs l day i x7) : aIs l day (i + 1) (if hitA day (rd_T56 l (i : Int)) then (i : Int) else x7) := by
 unfold aIs at *
 rw [Qb1 l i hi, List.filter_append]
 by_cases c : hitA day (rd_T56 l (i : Int))
 ·rw [if_pos c, List.filter_cons_of_pos (by rw [c.1, decide_eq_true c.2]; rfl), List.filter_nil]
  right
  exact ⟨i, by omega, rfl, by rw [List.getLast?_concat]⟩
 rw [if_neg c, List.filter_cons_of_neg (by unfold hitA at c; simpa using c), List.filter_nil, List.append_nil]
 rcases h with h | ⟨j, h1, h2, h3⟩
 ·exact .inl h
 exact .inr ⟨j, by omega, h2, h3⟩
theorem rat_up (l : List Pt) (hl : l.length ≤ 1000000) (day tick x8 : Int) (k' : Nat) (r : Option Int) (hend : ∀ x7, aIs l day l.length x7 → Qai.l1 (k' + 1) l day tick x7 x8 (l.length : Int) = r) : ∀ (d i : Nat) (x7 : Int), i + d = l.length → aIs l day i x7 → Qai.l1 (d + (k' + 1)) l day tick x7 x8 (i : Int) = r := by
 intro d
 induction d with
 | zero =>
  intro i x7 hi ha
  obtain rfl : i = l.length := by omega
  rw [Nat.zero_add]
  exact hend x7 ha
 | succ d ih =>
  intro i x7 hi ha
  have st := QdQ l day i (by omega) x7 ha
  rw [show d + 1 + (k' + 1) = (d + (k' + 1)) + 1 by omega, Qai.l1, if_pos (by omega), if_pos (by omega), IntWalk.wrap64_in ((i : Int) + 1) (by omega), show ((i : Int) + 1) = ((i + 1 : Nat) : Int) by omega]
  by_cases hk : (rd_T56 l (i : Int)).f2 = true
  ·rw [if_pos hk]
   by_cases c : (rd_T56 l (i : Int)).f0 ≤ day
   ·rw [if_pos c, ih _ _ (by omega) (by rwa [if_pos (show hitA day _ from ⟨hk, c⟩)] at st)]
   rw [if_neg c, ih _ _ (by omega) (by rwa [if_neg (fun h : hitA day _ => c h.2)] at st)]
  rw [if_neg (fun h : hitA day _ => hk h.1)] at st
  rw [if_neg hk, ih _ _ (by omega) st]
theorem rat_eq (l : List Pt) (hG : GoodC l) (day tick : Int) (hd : 0 ≤ day) (hd' : day ≤ 73048) (ht : 1 ≤ tick) (ht' : tick ≤ 16777216) (k : Nat) (hk : 2000 ≤ k) : Qai.f k l day tick = some (atS l day tick) := by
 have hl := hG.len
 obtain ⟨m', rfl⟩ : ∃ m', k = l.length + 1 + (l.length + (m' + 1)) := ⟨k - l.length - l.length - 2, by omega⟩
 unfold Qai.f
 rw [IntWalk.wrap64_in ((l.length : Int) - 1) (by omega), Qd6 l (by omega) day tick (-1) _ l.length (-1) (Nat.le_refl _)]
 have hb := QdC l day l.length (-1) (Nat.le_refl _)
 rw [List.take_length, ← filt2] at hb
 generalize bIdx l day l.length (-1) = x8 at *
 refine rat_up l (by omega) day tick x8 m' _ (fun x7 ha => ?_) l.length 0 (-1) (by omega) (.inl ⟨rfl, by simp⟩)
 unfold aIs at ha
 rw [List.take_length, ← filt2] at ha
 rw [Qai.l1, if_neg (by omega)]
 have hge : geK l day = ((kn l).filter (fun p => decide (day ≤ p.f0))).head? := rfl
 have hle : leK l day = ((kn l).filter (fun p => decide (p.f0 ≤ day))).getLast? := rfl
 unfold atS
 have fact : ∀ j : Nat, j < l.length → ∀ p, rd_T56 l (j : Int) = p → p ∈ kn l → 0 ≤ p.f0 ∧ p.f0 ≤ 73048 ∧ QaO p.f1 := fun j hj p hp hpk => by
  obtain ⟨q1, q2⟩ := mem_kn hpk
  obtain ⟨r1, r2, r3⟩ := hG.rng p q1
  exact ⟨r1, r2, r3 q2⟩
 rcases ha with ⟨rfl, ha⟩ | ⟨j, j1, rfl, ha⟩
 ·rw [if_pos (by omega), hle, ha]
  rcases hb with ⟨rfl, hb⟩ | ⟨i, i1, rfl, hb⟩
  ·exfalso
   apply hG.ne
   cases hkn : kn l with
   | nil => rfl
   | cons p t =>
    have hp : p ∈ kn l := by rw [hkn]; exact List.mem_cons_self
    by_cases c : p.f0 ≤ day
    ·have := List.filter_eq_nil_iff.1 ha p hp; simp at this; omega
    have := List.filter_eq_nil_iff.1 hb p hp; simp at this; omega
  rw [if_pos (by omega), if_pos (by omega), hge, hb]
  rfl
 rw [if_neg (by omega), hle, ha]
 rcases hb with ⟨rfl, hb⟩ | ⟨i, i1, rfl, hb⟩
 ·rw [if_pos (by omega), if_pos (by omega), if_pos (by omega), hge, hb]
  rfl
 rw [if_neg (by omega), hge, hb]
 have pa := List.mem_filter.1 (List.mem_of_getLast? ha)
 have pb := List.mem_filter.1 (List.mem_of_head? hb)
 have da : (rd_T56 l (j : Int)).f0 ≤ day := by simpa using pa.2
 have db : day ≤ (rd_T56 l (i : Int)).f0 := by simpa using pb.2
 dsimp only
 by_cases c : (j : Int) = (i : Int)
 ·rw [if_pos c, if_pos (by omega), if_pos (by omega), c, if_pos rfl]
 obtain ⟨a1, a2, a3⟩ := fact j j1 _ rfl pa.1
 obtain ⟨b1, b2, b3⟩ := fact i i1 _ rfl pb.1
 have hne : (rd_T56 l (j : Int)).f0 ≠ (rd_T56 l (i : Int)).f0 := by
  rw [pt_rd l j j1, pt_rd l i i1]
  have hs := List.pairwise_iff_getElem.1 hG.srt
  rcases Nat.lt_or_gt_of_ne (show j ≠ i by omega) with h | h
  ·have := hs j i j1 i1 h; omega
  have := hs i j i1 j1 h; omega
 rw [if_neg c, if_pos (by omega), if_pos (by omega), if_pos (by omega), if_pos (by omega), if_neg hne]
 generalize rd_T56 l (j : Int) = a at *
 generalize rd_T56 l (i : Int) = b at *
 obtain ⟨b1, b2, s1, s2, e1, e2, e3, _⟩ := Qdn (a := a) (b := b) (day := day) (tick := tick) a3 b3 a1 da db (by omega) (by omega) ht ht'
 rw [e1, e2, Qd8 _ _ (by omega) (by omega) s1 (by omega), Option.bind_some, e3]
end Go.Proofs.Ytaembbndjpebhaa.Pr
