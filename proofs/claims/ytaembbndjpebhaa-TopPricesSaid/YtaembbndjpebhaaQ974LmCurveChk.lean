/- Which points may be: the code's Check and the reference's answer one number. -/
import Derived.Test.YtaembbndjpebhaaQ974P0
namespace Go.Proofs.Ytaembbndjpebhaa.Pr
open Go.RowKit Go.Proofs.Ytaembbndjpebhaa.Pr Go.Proofs.YtaembbndjpebhaaW.PrintWords Go.Proofs.YtaembbndjpebhaaW.PrintLast Go.Proofs.YtaembbndjpebhaaW.PrintMore
set_option linter.unusedVariables false
set_option linter.unusedSimpArgs false
abbrev Pt := S56
theorem pt_rd (l : List Pt) (i : Nat) (h : i < l.length) : rd_T56 l (i : Int) = l[i] := by
 unfold rd_T56
 rw [Int.toNat_natCast, List.getD_eq_getElem?_getD, List.getElem?_eq_getElem h]
 rfl
theorem Qdj (l : List Pt) (i : Nat) (h : i < l.length) : l.drop i = rd_T56 l (i : Int) :: l.drop (i + 1) := by
 rw [List.drop_eq_getElem_cons h, pt_rd l i h]
def badP (pv : Option Int) (e : Int) : Bool := decide (e < 0) || (decide (e > 73048) || (match pv with | none => false | some x => decide (e ≤ x)))
def QaV (n : Int) : Prop := -16777216 ≤ n ∧ n ≤ 16777216
instance (n : Int) : Decidable (QaV n) := inferInstanceAs (Decidable (_ ∧ _))
def chk : Option Int → Bool → List Pt → Int
 | _, kb, [] => if kb = true then 0 else 11
 | pv, kb, p :: t => if badP pv p.f0 = true then 15 else if p.f2 = true ∧ ¬ QaV p.f1 then 17 else chk (some p.f0) (kb || p.f2) t
def chkS (l : List Pt) : Int := if (l.length : Int) = 0 ∨ (l.length : Int) > 128 then 8 else chk none false l
def prevE (l : List Pt) (i : Nat) : Option Int := if i = 0 then none else some (rd_T56 l ((i : Int) - 1)).f0
theorem Qds (l : List Pt) (i : Nat) : prevE l (i + 1) = some (rd_T56 l (i : Int)).f0 := by
 unfold prevE
 rw [if_neg (by omega)]
 congr 3
 omega
theorem Qcc (n : Int) : Qbk.f n = some (decide (QaV n)) := by
 unfold Qbk.f
 by_cases h : n ≥ -16777216
 ·rw [if_pos h]
  by_cases h2 : n ≤ 16777216
  ·rw [decide_eq_true h2, decide_eq_true (show QaV n from ⟨h, h2⟩)]
  rw [decide_eq_false h2, decide_eq_false (fun x : QaV n => h2 x.2)]
 rw [if_neg h, decide_eq_false (fun x : QaV n => h x.1)]
theorem bad_eq {α : Type} (l : List Pt) (i : Nat) (hi : i < l.length) (e : Int) (F : Bool → Option α) :
  (if e < 0 then F true else if e > 73048 then F true else if (i : Int) > 0 then (if 0 ≤ wrap64 ((i : Int) - 1) then (if wrap64 ((i : Int) - 1) < (l.length : Int) then F (decide (e ≤ (rd_T56 l (wrap64 ((i : Int) - 1))).f0)) else none) else none) else F false) = F (badP (prevE l i) e) ∨ 9223372036854775807 < (i : Int) := by
 by_cases hb : 9223372036854775807 < (i : Int)
 ·exact .inr hb
 left
 unfold badP prevE
 by_cases c1 : e < 0
 ·rw [if_pos c1, decide_eq_true c1]; rfl
 rw [if_neg c1, decide_eq_false c1]
 by_cases c2 : e > 73048
 ·rw [if_pos c2, decide_eq_true c2]; rfl
 rw [if_neg c2, decide_eq_false c2]
 by_cases c3 : (i : Int) > 0
 ·have w : wrap64 ((i : Int) - 1) = (i : Int) - 1 := IntWalk.wrap64_in _ (by omega)
  rw [if_pos c3, w, if_pos (by omega), if_pos (by omega), if_neg (by omega)]
  rfl
 rw [if_neg c3, if_pos (by omega)]
 rfl
theorem Qc8 (l : List Pt) (hl : l.length ≤ 1000000) : ∀ (d i k : Nat) (kb : Bool), i + d = l.length → 2 * d < k → Qat.l0 k l kb l (l.length : Int) (i : Int) = some (chk (prevE l i) kb (l.drop i)) := by
 intro d
 induction d with
 | zero =>
  intro i k kb hi hk
  obtain ⟨k, rfl⟩ : ∃ m, k = m + 1 := ⟨k - 1, by omega⟩
  rw [Qat.l0, if_neg (by omega), List.drop_eq_nil_of_le (by omega), chk]
  cases kb <;> rfl
 | succ d ih =>
  intro i k kb hi hk
  obtain ⟨k, rfl⟩ : ∃ m, k = m + 1 + 1 := ⟨k - 2, by omega⟩
  rw [Qat.l0, if_pos (by omega), if_pos (by omega), if_pos (by omega), Qdj l i (by omega), chk]
  have hb := (bad_eq l i (by omega) (rd_T56 l (i : Int)).f0 (fun b => Qat.j2 (k + 1) l kb l (l.length : Int) (i : Int) b (rd_T56 l (i : Int)).f0 (rd_T56 l (i : Int)).f1 (rd_T56 l (i : Int)).f2)).resolve_right (by omega)
  rw [hb]
  clear hb
  have nx : ∀ kb2, Qat.l0 k l kb2 l (l.length : Int) (wrap64 ((i : Int) + 1)) = some (chk (some (rd_T56 l (i : Int)).f0) kb2 (l.drop (i + 1))) := by
   intro kb2
   have := ih (i + 1) k kb2 (by omega) (by omega)
   rw [Qds] at this
   rw [IntWalk.wrap64_in _ (by omega), ← this]
   rfl
  simp only [Qat.j2, Qcc, nx]
  cases badP (prevE l i) (rd_T56 l (i : Int)).f0 with
  | true => simp
  | false =>
   cases hk2 : (rd_T56 l (i : Int)).f2 with
   | true =>
    by_cases hp : QaV (rd_T56 l (i : Int)).f1
    ·cases kb <;> simp [hp]
    simp [hp]
   | false => cases kb <;> simp
theorem Qdw (l : List Pt) (k : Nat) (hk : 600 ≤ k) : Qat.f k l = some (chkS l) := by
 unfold Qat.f chkS
 obtain ⟨k, rfl⟩ : ∃ m, k = m + 1 := ⟨k - 1, by omega⟩
 simp only [Qat.j0]
 by_cases h : (l.length : Int) = 0
 ·rw [if_pos h, if_pos trivial, if_pos (Or.inl h)]
 rw [if_neg h]
 by_cases h2 : (l.length : Int) > 128
 ·rw [decide_eq_true h2, if_pos rfl, if_pos (Or.inr h2)]
 rw [decide_eq_false h2, if_neg (by simp), if_neg (by omega)]
 have := Qc8 l (by omega) l.length 0 k false (by omega) (by omega)
 exact this
end Go.Proofs.Ytaembbndjpebhaa.Pr
