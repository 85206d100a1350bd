/- Which points may be: the code's Check and the reference's answer one number. -/
import Derived.Test.YtaembbndjpebhaaQBF7P0
import Derived.Test.YtaembbndjpebhaaQBF7P1
namespace Go.Proofs.Ytaembbndjpebhaa.Pr
open Go.RowKit Go.Proofs.Ytaembbndjpebhaa.Pr Go.Proofs.YtaembbndjpebhaaW.PrintWords Go.Proofs.YtaembbndjpebhaaW.PrintLast Go.Proofs.YtaembbndjpebhaaW.PrintMore
set_option linter.unusedVariables false
set_option linter.unusedSimpArgs false
abbrev Pt := S56
theorem pt_rd (l : List Pt) (i : Nat) (h : i < l.length) : rd_T56 l (i : Int) = l[i] := by
 unfold rd_T56
 rw [Int.toNat_natCast, List.getD_eq_getElem?_getD, List.getElem?_eq_getElem h]
 rfl
theorem Qbq (l : List Pt) (i : Nat) (h : i < l.length) : l.drop i = rd_T56 l (i : Int) :: l.drop (i + 1) := by
 rw [List.drop_eq_getElem_cons h, pt_rd l i h]
def badP (pv : Option Int) (e : Int) : Bool := decide (e < 0) || (decide (e > 73048) || (match pv with | none => false | some x => decide (e ≤ x)))
def QaO (n : Int) : Prop := -16777216 ≤ n ∧ n ≤ 16777216
instance (n : Int) : Decidable (QaO n) := inferInstanceAs (Decidable (_ ∧ _))
def chk : Option Int → Bool → List Pt → Int
 | _, kb, [] => if kb = true then 0 else 11
 | pv, kb, p :: t => if badP pv p.f0 = true then 15 else if p.f2 = true ∧ ¬ QaO p.f1 then 17 else chk (some p.f0) (kb || p.f2) t
def chkS (l : List Pt) : Int := if (l.length : Int) = 0 ∨ (l.length : Int) > 128 then 8 else chk none false l
def prevE (l : List Pt) (i : Nat) : Option Int := if i = 0 then none else some (rd_T56 l ((i : Int) - 1)).f0
theorem Qcn (l : List Pt) (i : Nat) : prevE l (i + 1) = some (rd_T56 l (i : Int)).f0 := by
 unfold prevE
 rw [if_neg (by omega)]
 congr 3
 omega
theorem QbW (n : Int) : QaH.f n = some (decide (QaO n)) := by
 unfold QaH.f
 by_cases h : n ≥ -16777216
 ·rw [if_pos h]
  by_cases h2 : n ≤ 16777216
  ·rw [decide_eq_true h2, decide_eq_true (show QaO n from ⟨h, h2⟩)]
  rw [decide_eq_false h2, decide_eq_false (fun x : QaO n => h2 x.2)]
 rw [if_neg h, decide_eq_false (fun x : QaO n => h x.1)]
theorem bad_eq {α : Type} (l : List Pt) (i : Nat) (hi : i < l.length) (e : Int) (F : Bool → Option α) :
  (if e < 0 then F true else if e > 73048 then F true else if (i : Int) > 0 then (if 0 ≤ wrap64 ((i : Int) - 1) then (if wrap64 ((i : Int) - 1) < (l.length : Int) then F (decide (e ≤ (rd_T56 l (wrap64 ((i : Int) - 1))).f0)) else none) else none) else F false) = F (badP (prevE l i) e) ∨ 9223372036854775807 < (i : Int) := by
 by_cases hb : 9223372036854775807 < (i : Int)
 ·exact .inr hb
 left
 unfold badP prevE
 by_cases c1 : e < 0
 ·rw [if_pos c1, decide_eq_true c1]; rfl
 rw [if_neg c1, decide_eq_false c1]
 by_cases c2 : e > 73048
 ·rw [if_pos c2, decide_eq_true c2]; rfl
 rw [if_neg c2, decide_eq_false c2]
 by_cases c3 : (i : Int) > 0
 ·have w : wrap64 ((i : Int) - 1) = (i : Int) - 1 := IntWalk.wrap64_in _ (by omega)
  rw [if_pos c3, w, if_pos (by omega), if_pos (by omega), if_neg (by omega)]
  rfl
 rw [if_neg c3, if_pos (by omega)]
 rfl
theorem Qda (l : List Pt) (hl : l.length ≤ 1000000) : ∀ (d i k : Nat) (kb : Bool), i + d = l.length → 2 * d < k → Qal.l0 k l kb l (l.length : Int) (i : Int) = some (chk (prevE l i) kb (l.drop i)) := by
 intro d
 induction d with
 | zero =>
  intro i k kb hi hk
  obtain ⟨k, rfl⟩ : ∃ m, k = m + 1 := ⟨k - 1, by omega⟩
  rw [Qal.l0, if_neg (by omega), List.drop_eq_nil_of_le (by omega), chk]
  cases kb <;> rfl
 | succ d ih =>
  intro i k kb hi hk
  obtain ⟨k, rfl⟩ : ∃ m, k = m + 1 + 1 := ⟨k - 2, by omega⟩
  rw [Qal.l0, if_pos (by omega), if_pos (by omega), if_pos (by omega), Qbq l i (by omega), chk]
  have hb := (bad_eq l i (by omega) (rd_T56 l (i : Int)).f0 (fun b => Qal.j2 (k + 1) l kb l (l.length : Int) (i : Int) b (rd_T56 l (i : Int)).f0 (rd_T56 l (i : Int)).f1 (rd_T56 l (i : Int)).f2)).resolve_right (by omega)
  rw [hb]
  clear hb
  have nx : ∀ kb2, Qal.l0 k l kb2 l (l.length : Int) (wrap64 ((i : Int) + 1)) = some (chk (some (rd_T56 l (i : Int)).f0) kb2 (l.drop (i + 1))) := by
   intro kb2
   have := ih (i + 1) k kb2 (by omega) (by omega)
   rw [Qcn] at this
   rw [IntWalk.wrap64_in _ (by omega), ← this]
   rfl
  simp only [Qal.j2, QbW, nx]
  cases badP (prevE l i) (rd_T56 l (i : Int)).f0 with
  | true => simp
  | false =>
   cases hk2 : (rd_T56 l (i : Int)).f2 with
   | true =>
    by_cases hp : QaO (rd_T56 l (i : Int)).f1
    ·cases kb <;> simp [hp]
    simp [hp]
   | false => cases kb <;> simp
theorem QbT (l : List Pt) (k : Nat) (hk : 600 ≤ k) : Qal.f k l = some (chkS l) := by
 unfold Qal.f chkS
 obtain ⟨k, rfl⟩ : ∃ m, k = m + 1 := ⟨k - 1, by omega⟩
 simp only [Qal.j0]
 by_cases h : (l.length : Int) = 0
 ·rw [if_pos h, if_pos trivial, if_pos (Or.inl h)]
 rw [if_neg h]
 by_cases h2 : (l.length : Int) > 128
 ·rw [decide_eq_true h2, if_pos rfl, if_pos (Or.inr h2)]
 rw [decide_eq_false h2, if_neg (by simp), if_neg (by omega)]
 have := Qda l (by omega) l.length 0 k false (by omega) (by omega)
 exact this
theorem Qdd (l : List Pt) (hl : l.length ≤ 1000000) : ∀ (d i k : Nat) (kb : Bool), i + d = l.length → 2 * d < k → Qad.l0 k l kb (i : Int) = some (chk (prevE l i) kb (l.drop i)) := by
 intro d
 induction d with
 | zero =>
  intro i k kb hi hk
  obtain ⟨k, rfl⟩ : ∃ m, k = m + 1 := ⟨k - 1, by omega⟩
  rw [Qad.l0, if_neg (by omega), List.drop_eq_nil_of_le (by omega), chk]
  cases kb <;> rfl
 | succ d ih =>
  intro i k kb hi hk
  obtain ⟨k, rfl⟩ : ∃ m, k = m + 1 + 1 := ⟨k - 2, by omega⟩
  rw [Qad.l0, if_pos (by omega), if_pos (by omega), Qbq l i (by omega), chk]
  have hb := (bad_eq l i (by omega) (rd_T56 l (i : Int)).f0 (fun b => Qad.j2 (k + 1) l kb (i : Int) b)).resolve_right (by omega)
  rw [hb]
  clear hb
  have nx : ∀ kb2, Qad.l0 k l kb2 (wrap64 ((i : Int) + 1)) = some (chk (some (rd_T56 l (i : Int)).f0) kb2 (l.drop (i + 1))) := by
   intro kb2
   have := ih (i + 1) k kb2 (by omega) (by omega)
   rw [Qcn] at this
   rw [IntWalk.wrap64_in _ (by omega), ← this]
   rfl
  simp only [Qad.j2, nx]
  cases badP (prevE l i) (rd_T56 l (i : Int)).f0 with
  | true => simp
  | false =>
   rw [if_neg (by simp), if_pos (by omega), if_pos (by omega)]
   cases hk2 : (rd_T56 l (i : Int)).f2 with
   | true =>
    by_cases hp : QaO (rd_T56 l (i : Int)).f1
    ·rw [if_pos rfl, if_neg (by unfold QaO at hp; omega), if_neg (by unfold QaO at hp; omega)]
     cases kb <;> simp [hp]
    rw [if_pos rfl]
    by_cases h3 : (rd_T56 l (i : Int)).f1 < -16777216
    ·rw [if_pos h3]; simp [hp]
    rw [if_neg h3, if_pos (by unfold QaO at hp; omega)]; simp [hp]
   | false => cases kb <;> simp
theorem QbI (l : List Pt) (k : Nat) (hk : 600 ≤ k) : Qad.f k l = some (chkS l) := by
 unfold Qad.f chkS
 obtain ⟨k, rfl⟩ : ∃ m, k = m + 1 := ⟨k - 1, by omega⟩
 simp only [Qad.j0]
 by_cases h : (l.length : Int) < 1
 ·rw [if_pos h, if_pos trivial, if_pos (Or.inl (by omega))]
 rw [if_neg h]
 by_cases h2 : (l.length : Int) > 128
 ·rw [decide_eq_true h2, if_pos rfl, if_pos (Or.inr h2)]
 rw [decide_eq_false h2, if_neg (by simp), if_neg (by omega)]
 have := Qdd l (by omega) l.length 0 k false (by omega) (by omega)
 exact this
end Go.Proofs.Ytaembbndjpebhaa.Pr
