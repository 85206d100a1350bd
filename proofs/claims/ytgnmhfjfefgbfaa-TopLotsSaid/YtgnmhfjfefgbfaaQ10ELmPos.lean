/- Positions: the order of series, what Check answers, by the program and by the reference. -/
import Derived.Test.YtgnmhfjfefgbfaaQ10ELmBytes
import Derived.Test.YtgnmhfjfefgbfaaQ10EP0
namespace Go.Proofs.Ytgnmhfjfefgbfaa.Pr
open Go.RowKit Go.Proofs.Ytgnmhfjfefgbfaa.Pr Go.Proofs.YtgnmhfjfefgbfaaW.PrintWords Go.Proofs.YtgnmhfjfefgbfaaW.PrintLast Go.Proofs.YtgnmhfjfefgbfaaW.PrintMore
set_option linter.unusedVariables false
set_option linter.unusedSimpArgs false
abbrev Ser := S69
abbrev Posn := S71
def cmpS (a b : Ser) : Int :=
 if a.f0.toList = b.f0.toList then
  if a.f2 = b.f2 then
   if a.f1 = b.f1 then
    if a.f3 = b.f3 then 0 else if a.f3 < b.f3 then -1 else 1
   else if a.f1 < b.f1 then -1 else 1
  else if a.f2 < b.f2 then -1 else 1
 else if Op.bytesLess a.f0.toList b.f0.toList = true then -1 else 1
theorem cmp_eq (a b : Ser) : QaM.f a.f0 a.f1 a.f2 a.f3 b.f0 b.f1 b.f2 b.f3 = some (cmpS a b) := by
 unfold QaM.f cmpS
 (repeat' split) <;> rfl
theorem cmp_lt (a b : Ser) : cmpS a b < 0 ↔ (Op.bytesLess a.f0.toList b.f0.toList = true ∧ a.f0.toList ≠ b.f0.toList) ∨ (a.f0.toList = b.f0.toList ∧ (a.f2 < b.f2 ∨ (a.f2 = b.f2 ∧ (a.f1 < b.f1 ∨ (a.f1 = b.f1 ∧ a.f3 < b.f3))))) := by
 unfold cmpS
 by_cases h : a.f0.toList = b.f0.toList
 ·simp only [h, if_true, ne_eq, not_true_eq_false, and_false, false_or, true_and]
  (repeat' split) <;> omega
 simp only [h, if_false, ne_eq, not_false_eq_true, and_true, false_and, or_false]
 split <;> simp [*]
theorem Qes (a b c : Ser) (h1 : cmpS a b < 0) (h2 : cmpS b c < 0) : cmpS a c < 0 := by
 rw [cmp_lt] at *
 rcases h1 with ⟨h1, n1⟩ | ⟨e1, h1⟩
 ·rcases h2 with ⟨h2, n2⟩ | ⟨e2, h2⟩
  ·refine Or.inl ⟨Qcs _ _ _ h1 h2, fun e => ?_⟩
   rw [← e] at h2
   have := Qcs _ _ _ h1 h2
   rw [QdR] at this
   exact absurd this (by decide)
  rw [e2] at h1 n1
  exact Or.inl ⟨h1, n1⟩
 rcases h2 with ⟨h2, n2⟩ | ⟨e2, h2⟩
 ·rw [← e1] at h2 n2
  exact Or.inl ⟨h2, n2⟩
 refine Or.inr ⟨e1.trans e2, ?_⟩
 omega
def lotsOk (p : Posn) : Prop := (0 ≤ p.f1 ∧ p.f1 ≤ 1048576) ∧ (0 ≤ p.f2 ∧ p.f2 ≤ 1048576) ∧ ¬ (p.f1 = 0 ∧ p.f2 = 0)
instance (p : Posn) : Decidable (lotsOk p) := by unfold lotsOk; infer_instance
def ordBad (q : Option Ser) (s : Ser) : Bool := match q with | some r => decide (cmpS r s ≥ 0) | none => false
def chkL : Option Ser → List Posn → Int
 | _, [] => 0
 | q, p :: t => if ordBad q p.f0 = true then 19 else if lotsOk p then chkL (some p.f0) t else 18
theorem Qc0 (q : Option Ser) (p : Posn) (t : List Posn) : chkL q (p :: t) = if ordBad q p.f0 = true then 19 else if lotsOk p then chkL (some p.f0) t else 18 := by
 cases q <;> rfl
def chk (l : List Posn) : Int := if (l.length : Int) > 128 then 8 else chkL none l
theorem Qcx (l : List Posn) (i : Nat) (h : i < l.length) : l.drop i = rd_T71 l (i : Int) :: l.drop (i + 1) := by
 rw [List.drop_eq_getElem_cons h]
 unfold rd_T71
 rw [Int.toNat_natCast, List.getD_eq_getElem?_getD, List.getElem?_eq_getElem h]
 rfl
def prevS (l : List Posn) : Nat → Option Ser
 | 0 => none
 | i + 1 => some (rd_T71 l (i : Int)).f0
theorem QcH {x : Int} (h0 : 0 ≤ x) (h1 : x ≤ 1073741824) : wrap64 x = x := IntWalk.wrap64_in x (by omega)
theorem Qd2 (n : Int) : QaS.f n = some (decide (0 ≤ n ∧ n ≤ 1048576)) := by
 unfold QaS.f
 split
 ·congr 1; rw [decide_eq_decide]; omega
 congr 1; exact (decide_eq_false (by omega)).symm
theorem QeM (l : List Posn) (hl : l.length ≤ 128) : ∀ n i k : Nat, i + n = l.length → 2 * n + 1 ≤ k → Qal.l0 k l l (l.length : Int) (i : Int) = some (chkL (prevS l i) (l.drop i)) := by
 intro n
 induction n with
 | zero =>
  intro i k hi hk
  obtain ⟨k, rfl⟩ : ∃ m, k = m + 1 := ⟨k - 1, by omega⟩
  rw [Qal.l0, if_neg (by omega), List.drop_eq_nil_of_le (by omega), chkL]
 | succ n ih =>
  intro i k hi hk
  obtain ⟨k, rfl⟩ : ∃ m, k = m + 2 := ⟨k - 2, by omega⟩
  have hlt : i < l.length := by omega
  have IH := ih (i + 1) k (by omega) (by omega)
  have IH' := ih (i + 1) (k) (by omega) (by omega)
  have tail : ∀ b : Bool, Qal.j1 (k + 1) l l (l.length : Int) (i : Int) b ((rd_T71 l i).f0.f0) ((rd_T71 l i).f0.f1) ((rd_T71 l i).f0.f2) ((rd_T71 l i).f0.f3) ((rd_T71 l i).f1) ((rd_T71 l i).f2) = some (if b = true then 19 else if lotsOk (rd_T71 l i) then chkL (prevS l (i + 1)) (l.drop (i + 1)) else 18) := by
   intro b
   rw [Qal.j1, Qd2, Qd2, QcH (by omega) (by omega)]
   rw [show ((i : Int) + 1) = ((i + 1 : Nat) : Int) by omega, IH]
   simp only [Option.bind_some, decide_eq_true_eq]
   unfold lotsOk
   generalize chkL (prevS l (i + 1)) (l.drop (i + 1)) = C
   by_cases h1 : 0 ≤ (rd_T71 l i).f1 ∧ (rd_T71 l i).f1 ≤ 1048576 <;> by_cases h2 : 0 ≤ (rd_T71 l i).f2 ∧ (rd_T71 l i).f2 ≤ 1048576 <;> by_cases h3 : (rd_T71 l i).f1 = 0 <;> by_cases h4 : (rd_T71 l i).f2 = 0 <;> cases b <;> simp [h1, h2, h3, h4]
  rw [Qal.l0, if_pos (by omega), if_pos (by omega), if_pos (by omega), Qcx l i hlt, Qc0]
  cases i with
  | zero =>
   rw [if_neg (by omega)]
   exact tail false
  | succ j =>
   rw [if_pos (by omega)]
   have e : wrap64 (((j + 1 : Nat) : Int) - 1) = (j : Int) := by rw [QcH (by omega) (by omega)]; omega
   rw [e, if_pos (by omega), if_pos (by omega), cmp_eq, Option.bind_some, tail]
   rfl
theorem Qbw (l : List Posn) (k : Nat) (hk : 258 ≤ k) : Qal.f k l = some (chk l) := by
 unfold Qal.f chk
 split
 ·rfl
 exact QeM l (by omega) l.length 0 k (by omega) (by omega)
def QaY (l : List Posn) : Prop := l.length ≤ 128 ∧ l.Pairwise (fun a b => cmpS a.f0 b.f0 < 0) ∧ ∀ p ∈ l, lotsOk p
theorem Qc1 : ∀ (l : List Posn) (q : Option Ser), chkL q l = 0 ↔ ((∀ s, q = some s → ∀ p ∈ l, cmpS s p.f0 < 0) ∧ l.Pairwise (fun a b => cmpS a.f0 b.f0 < 0) ∧ ∀ p ∈ l, lotsOk p)
 | [], q => by simp [chkL]
 | p :: t, q => by
  have ih := Qc1 t (some p.f0)
  have t1 : (∀ s, (some p.f0) = some s → ∀ p ∈ t, cmpS s p.f0 < 0) ↔ ∀ x ∈ t, cmpS p.f0 x.f0 < 0 := by simp
  rw [t1] at ih
  rw [Qc0]
  by_cases hq : ordBad q p.f0 = true
  ·rw [if_pos hq]
   refine ⟨fun h => absurd h (by decide), fun h => ?_⟩
   cases q with
   | none => cases hq
   | some s =>
    have := h.1 s rfl p (by simp)
    have h2 := of_decide_eq_true hq
    omega
  rw [if_neg hq]
  by_cases hp : lotsOk p
  ·rw [if_pos hp, ih, List.pairwise_cons]
   constructor
   ·rintro ⟨h1, h2, h3⟩
    refine ⟨?_, ⟨h1, h2⟩, ?_⟩
    ·rintro s rfl x hx
     have hs : cmpS s p.f0 < 0 := by
      have := of_decide_eq_false (Bool.eq_false_iff.2 hq)
      omega
     rcases List.mem_cons.1 hx with rfl | hx
     ·exact hs
     exact Qes _ _ _ hs (h1 x hx)
    intro x hx
    rcases List.mem_cons.1 hx with rfl | hx
    ·exact hp
    exact h3 x hx
   rintro ⟨_, ⟨h1, h2⟩, h3⟩
   exact ⟨h1, h2, fun x hx => h3 x (List.mem_cons_of_mem _ hx)⟩
  rw [if_neg hp]
  exact ⟨fun h => absurd h (by decide), fun h => absurd (h.2.2 p (by simp)) hp⟩
theorem Qbp (l : List Posn) : chk l = 0 ↔ QaY l := by
 unfold chk QaY
 split
 ·exact ⟨fun h => absurd h (by decide), fun h => by omega⟩
 rw [Qc1]
 simp
 omega
end Go.Proofs.Ytgnmhfjfefgbfaa.Pr
