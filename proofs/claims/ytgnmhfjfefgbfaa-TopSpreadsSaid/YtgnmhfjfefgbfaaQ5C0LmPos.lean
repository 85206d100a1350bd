/- Positions: the order of series, what Check answers, by the program and by the reference. -/
import Derived.Test.YtgnmhfjfefgbfaaQ5C0LmBytes
import Derived.Test.YtgnmhfjfefgbfaaQ5C0P0
namespace Go.Proofs.Ytgnmhfjfefgbfaa.Pr
open Go.RowKit Go.Proofs.Ytgnmhfjfefgbfaa.Pr Go.Proofs.YtgnmhfjfefgbfaaW.PrintWords Go.Proofs.YtgnmhfjfefgbfaaW.PrintLast Go.Proofs.YtgnmhfjfefgbfaaW.PrintMore
set_option linter.unusedVariables false
set_option linter.unusedSimpArgs false
abbrev Ser := S69
abbrev Posn := S71
def cmpS (a b : Ser) : Int :=
 if a.f0.toList = b.f0.toList then
  if a.f2 = b.f2 then
   if a.f1 = b.f1 then
    if a.f3 = b.f3 then 0 else if a.f3 < b.f3 then -1 else 1
   else if a.f1 < b.f1 then -1 else 1
  else if a.f2 < b.f2 then -1 else 1
 else if Op.bytesLess a.f0.toList b.f0.toList = true then -1 else 1
theorem cmp_eq (a b : Ser) : Qbi.f a.f0 a.f1 a.f2 a.f3 b.f0 b.f1 b.f2 b.f3 = some (cmpS a b) := by
 unfold Qbi.f cmpS
 (repeat' split) <;> rfl
def lotsOk (p : Posn) : Prop := (0 ≤ p.f1 ∧ p.f1 ≤ 1048576) ∧ (0 ≤ p.f2 ∧ p.f2 ≤ 1048576) ∧ ¬ (p.f1 = 0 ∧ p.f2 = 0)
instance (p : Posn) : Decidable (lotsOk p) := by unfold lotsOk; infer_instance
def ordBad (q : Option Ser) (s : Ser) : Bool := match q with | some r => decide (cmpS r s ≥ 0) | none => false
def chkL : Option Ser → List Posn → Int
 | _, [] => 0
 | q, p :: t => if ordBad q p.f0 = true then 19 else if lotsOk p then chkL (some p.f0) t else 18
theorem Qe0 (q : Option Ser) (p : Posn) (t : List Posn) : chkL q (p :: t) = if ordBad q p.f0 = true then 19 else if lotsOk p then chkL (some p.f0) t else 18 := by
 cases q <;> rfl
def chk (l : List Posn) : Int := if (l.length : Int) > 128 then 8 else chkL none l
theorem Qc5 (l : List Posn) (i : Nat) (h : i < l.length) : l.drop i = rd_T71 l (i : Int) :: l.drop (i + 1) := by
 rw [List.drop_eq_getElem_cons h]
 unfold rd_T71
 rw [Int.toNat_natCast, List.getD_eq_getElem?_getD, List.getElem?_eq_getElem h]
 rfl
def prevS (l : List Posn) : Nat → Option Ser
 | 0 => none
 | i + 1 => some (rd_T71 l (i : Int)).f0
theorem Qdg {x : Int} (h0 : 0 ≤ x) (h1 : x ≤ 1073741824) : wrap64 x = x := IntWalk.wrap64_in x (by omega)
theorem QeB (n : Int) : Qa5.f n = some (decide (0 ≤ n ∧ n ≤ 1048576)) := by
 unfold Qa5.f
 split
 ·congr 1; rw [decide_eq_decide]; omega
 congr 1; exact (decide_eq_false (by omega)).symm
theorem Qfr (l : List Posn) (hl : l.length ≤ 128) : ∀ n i k : Nat, i + n = l.length → 2 * n + 1 ≤ k → Qao.l0 k l l (l.length : Int) (i : Int) = some (chkL (prevS l i) (l.drop i)) := by
 intro n
 induction n with
 | zero =>
  intro i k hi hk
  obtain ⟨k, rfl⟩ : ∃ m, k = m + 1 := ⟨k - 1, by omega⟩
  rw [Qao.l0, if_neg (by omega), List.drop_eq_nil_of_le (by omega), chkL]
 | succ n ih =>
  intro i k hi hk
  obtain ⟨k, rfl⟩ : ∃ m, k = m + 2 := ⟨k - 2, by omega⟩
  have hlt : i < l.length := by omega
  have IH := ih (i + 1) k (by omega) (by omega)
  have IH' := ih (i + 1) (k) (by omega) (by omega)
  have tail : ∀ b : Bool, Qao.j1 (k + 1) l l (l.length : Int) (i : Int) b ((rd_T71 l i).f0.f0) ((rd_T71 l i).f0.f1) ((rd_T71 l i).f0.f2) ((rd_T71 l i).f0.f3) ((rd_T71 l i).f1) ((rd_T71 l i).f2) = some (if b = true then 19 else if lotsOk (rd_T71 l i) then chkL (prevS l (i + 1)) (l.drop (i + 1)) else 18) := by
   intro b
   rw [Qao.j1, QeB, QeB, Qdg (by omega) (by omega)]
   rw [show ((i : Int) + 1) = ((i + 1 : Nat) : Int) by omega, IH]
   simp only [Option.bind_some, decide_eq_true_eq]
   unfold lotsOk
   generalize chkL (prevS l (i + 1)) (l.drop (i + 1)) = C
   by_cases h1 : 0 ≤ (rd_T71 l i).f1 ∧ (rd_T71 l i).f1 ≤ 1048576 <;> by_cases h2 : 0 ≤ (rd_T71 l i).f2 ∧ (rd_T71 l i).f2 ≤ 1048576 <;> by_cases h3 : (rd_T71 l i).f1 = 0 <;> by_cases h4 : (rd_T71 l i).f2 = 0 <;> cases b <;> simp [h1, h2, h3, h4]
  rw [Qao.l0, if_pos (by omega), if_pos (by omega), if_pos (by omega), Qc5 l i hlt, Qe0]
  cases i with
  | zero =>
   rw [if_neg (by omega)]
   exact tail false
  | succ j =>
   rw [if_pos (by omega)]
   have e : wrap64 (((j + 1 : Nat) : Int) - 1) = (j : Int) := by rw [Qdg (by omega) (by omega)]; omega
   rw [e, if_pos (by omega), if_pos (by omega), cmp_eq, Option.bind_some, tail]
   rfl
theorem QcX (l : List Posn) (k : Nat) (hk : 258 ≤ k) : Qao.f k l = some (chk l) := by
 unfold Qao.f chk
 split
 ·rfl
 exact Qfr l (by omega) l.length 0 k (by omega) (by omega)
end Go.Proofs.Ytgnmhfjfefgbfaa.Pr
