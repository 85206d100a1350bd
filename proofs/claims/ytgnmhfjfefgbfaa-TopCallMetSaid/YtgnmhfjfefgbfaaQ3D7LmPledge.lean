/- Pledges: their order, what Check answers, where a pledge stands, what a list with a pledge is. -/
import Derived.Test.YtgnmhfjfefgbfaaQ3D7LmBytes
import Derived.Test.YtgnmhfjfefgbfaaQ3D7LmName
import Derived.Test.YtgnmhfjfefgbfaaQ3D7P0
import Derived.Test.YtgnmhfjfefgbfaaQ3D7P4
import Derived.Test.YtgnmhfjfefgbfaaQ3D7P2
import Derived.Test.YtgnmhfjfefgbfaaQ3D7P6
namespace Go.Proofs.Ytgnmhfjfefgbfaa.Pr
open Go.RowKit Go.Proofs.Ytgnmhfjfefgbfaa.Pr Go.Proofs.YtgnmhfjfefgbfaaW.PrintWords Go.Proofs.YtgnmhfjfefgbfaaW.PrintLast Go.Proofs.YtgnmhfjfefgbfaaW.PrintMore
set_option linter.unusedVariables false
set_option linter.unusedSimpArgs false
abbrev Pled := S346
abbrev PK := ByteArray × ByteArray × ByteArray
def pkey (p : Pled) : PK := (p.f0.f0, p.f0.f1, p.f1)
def klt (a b : PK) : Bool :=
 if a.1 = b.1 then if a.2.1 = b.2.1 then Op.bytesLess a.2.2.toList b.2.2.toList else Op.bytesLess a.2.1.toList b.2.1.toList else Op.bytesLess a.1.toList b.1.toList
theorem Qd9 {a b : ByteArray} (h : Op.bytesLess a.toList b.toList = true) : a ≠ b := fun e => by rw [e, Qck] at h; cases h
theorem QfJ (a : PK) : klt a a = false := by simp [klt, Qck]
theorem Qfj (a b c : PK) (h1 : klt a b = true) (h2 : klt b c = true) : klt a c = true := by
 obtain ⟨a1, a2, a3⟩ := a
 obtain ⟨b1, b2, b3⟩ := b
 obtain ⟨c1, c2, c3⟩ := c
 unfold klt at *
 simp only at *
 by_cases e1 : a1 = b1
 ·subst e1
  rw [if_pos rfl] at h1
  by_cases e2 : a1 = c1
  ·subst e2
   rw [if_pos rfl] at h2 ⊢
   by_cases f1 : a2 = b2
   ·subst f1
    rw [if_pos rfl] at h1
    by_cases f2 : a2 = c2
    ·subst f2
     rw [if_pos rfl] at h2 ⊢
     exact QcO _ _ _ h1 h2
    rw [if_neg f2] at h2 ⊢
    exact h2
   rw [if_neg f1] at h1
   by_cases f2 : b2 = c2
   ·subst f2
    rw [if_neg f1]
    exact h1
   rw [if_neg f2] at h2
   have h3 := QcO _ _ _ h1 h2
   rw [if_neg (Qd9 h3)]
   exact h3
  rw [if_neg e2] at h2 ⊢
  exact h2
 rw [if_neg e1] at h1
 by_cases e2 : b1 = c1
 ·subst e2
  rw [if_neg e1]
  exact h1
 rw [if_neg e2] at h2
 have h3 := QcO _ _ _ h1 h2
 rw [if_neg (Qd9 h3)]
 exact h3
def cmpK (a b : PK) : Int := if a = b then 0 else if klt a b = true then -1 else 1
theorem Qer (a b : Pled) : QbD.f a.f0.f0 a.f0.f1 a.f1 a.f2 b.f0.f0 b.f0.f1 b.f1 b.f2 = some (cmpK (pkey a) (pkey b)) := by
 unfold QbD.f Qbj.f Qby.f cmpK klt pkey
 simp only [tl_iff, Prod.mk.injEq]
 by_cases e1 : a.f0.f0 = b.f0.f0
 ·by_cases e2 : a.f0.f1 = b.f0.f1
  ·by_cases e3 : a.f1 = b.f1
   ·simp [e1, e2, e3, Qck]
   cases h : Op.bytesLess a.f1.toList b.f1.toList <;> simp [e1, e2, e3, Qck, h]
  cases h : Op.bytesLess a.f0.f1.toList b.f0.f1.toList <;> simp [e1, e2, Qck, h]
 cases h : Op.bytesLess a.f0.f0.toList b.f0.f0.toList <;> simp [e1, Qck, h]
theorem Qde (l : List Pled) (i : Nat) (h : i < l.length) : l.drop i = Qaj l (i : Int) :: l.drop (i + 1) := by
 rw [List.drop_eq_getElem_cons h]
 unfold Qaj
 rw [Int.toNat_natCast, List.getD_eq_getElem?_getD, List.getElem?_eq_getElem h]
 rfl
def okName (p : Pled) : Bool := nameOk p.f0.f0 && (nameOk p.f0.f1 && nameOk p.f1)
def okQty (n : Int) : Bool := decide (1 ≤ n) && decide (n ≤ 1152921504606846976)
theorem Qgm (n : Int) : Qb0.f n = some (okQty n) := by
 unfold Qb0.f okQty
 split
 ·rename_i h; simp [show 1 ≤ n from h]
 rename_i h; simp [show ¬ 1 ≤ n from h]
def Qcd (q : Option PK) (s : PK) : Bool := match q with | some r => !klt r s | none => false
def chkLP : Option PK → List Pled → Int
 | _, [] => 0
 | q, p :: t => if okName p = true then if Qcd q (pkey p) = true then 12 else if okQty p.f2 = true then chkLP (some (pkey p)) t else 18 else 10
theorem Qdw (q : Option PK) (p : Pled) (t : List Pled) : chkLP q (p :: t) = if okName p = true then if Qcd q (pkey p) = true then 12 else if okQty p.f2 = true then chkLP (some (pkey p)) t else 18 else 10 := by
 cases q <;> rfl
def chkP (l : List Pled) : Int := if (l.length : Int) > 1024 then 8 else chkLP none l
def prevK (l : List Pled) : Nat → Option PK
 | 0 => none
 | i + 1 => some (pkey (Qaj l (i : Int)))
theorem QeQ (l : List ByteArray) (hl : l.length ≤ 1000) : ∀ n i k : Nat, i + n = l.length → n + 20 ≤ k → Qa4.l0 k l (l.length : Int) (i : Int) = some ((l.drop i).all nameOk) := by
 intro n
 induction n with
 | zero =>
  intro i k hi hk
  obtain ⟨k, rfl⟩ : ∃ m, k = m + 1 := ⟨k - 1, by omega⟩
  rw [Qa4.l0, if_neg (by omega), List.drop_eq_nil_of_le (by omega)]
  rfl
 | succ n ih =>
  intro i k hi hk
  obtain ⟨k, rfl⟩ : ∃ m, k = m + 1 := ⟨k - 1, by omega⟩
  have hlt : i < l.length := by omega
  have e : rdOf ByteArray.empty l (i : Int) = l[i] := by
   unfold rdOf
   rw [Int.toNat_natCast, List.getD_eq_getElem?_getD, List.getElem?_eq_getElem hlt]
   rfl
  rw [Qa4.l0, if_pos (by omega), if_pos (by omega), if_pos (by omega), QcL _ k (by omega), Option.bind_some, nwrap (by omega) (by omega), show ((i : Int) + 1) = ((i + 1 : Nat) : Int) by omega, ih (i + 1) k (by omega) (by omega), List.drop_eq_getElem_cons hlt, List.all_cons, e]
  cases nameOk l[i] <;> simp
theorem Qfs (l : List ByteArray) (hl : l.length ≤ 1000) (k : Nat) (hk : l.length + 20 ≤ k) : Qa4.f k l = some (l.all nameOk) := by
 unfold Qa4.f
 rw [show (0 : Int) = ((0 : Nat) : Int) from rfl, QeQ l hl l.length 0 k (by omega) hk, List.drop_zero]
theorem Qev (a b : PK) : (cmpK a b ≥ 0) ↔ klt a b = false := by
 unfold cmpK
 by_cases e : a = b
 ·rw [if_pos e, e, QfJ]; simp
 rw [if_neg e]
 cases h : klt a b <;> simp
theorem Qfr (l : List Pled) (hl : l.length ≤ 1024) : ∀ n i k : Nat, i + n = l.length → 2 * n + 30 ≤ k → QaD.l0 k l l (l.length : Int) (i : Int) = some (chkLP (prevK l i) (l.drop i)) := by
 intro n
 induction n with
 | zero =>
  intro i k hi hk
  obtain ⟨k, rfl⟩ : ∃ m, k = m + 1 := ⟨k - 1, by omega⟩
  rw [QaD.l0, if_neg (by omega), List.drop_eq_nil_of_le (by omega), chkLP]
 | succ n ih =>
  intro i k hi hk
  obtain ⟨k, rfl⟩ : ∃ m, k = m + 2 := ⟨k - 2, by omega⟩
  have hlt : i < l.length := by omega
  have IH := ih (i + 1) k (by omega) (by omega)
  have tail : ∀ b : Bool, QaD.j1 (k + 1) l l (l.length : Int) (i : Int) b (Qaj l i).f0.f0 (Qaj l i).f0.f1 (Qaj l i).f1 (Qaj l i).f2 = some (if b = true then 12 else if okQty (Qaj l i).f2 = true then chkLP (prevK l (i + 1)) (l.drop (i + 1)) else 18) := by
   intro b
   rw [QaD.j1, Qgm, Option.bind_some, nwrap (by omega) (by omega), show ((i : Int) + 1) = ((i + 1 : Nat) : Int) by omega, IH]
   cases b <;> cases okQty (Qaj l i).f2 <;> simp
  rw [QaD.l0, if_pos (by omega), if_pos (by omega), if_pos (by omega), Qde l i hlt, Qdw, Qfs _ (by simp) _ (by simp; omega), Option.bind_some]
  have e0 : [(Qaj l i).f0.f0, (Qaj l i).f0.f1, (Qaj l i).f1].all nameOk = okName (Qaj l i) := by simp [okName]
  rw [e0]
  cases hn : okName (Qaj l i) with
  | false => simp
  | true =>
   simp only [if_true]
   cases i with
   | zero =>
    rw [if_neg (by omega)]
    exact tail false
   | succ j =>
    have e : wrap64 (((j + 1 : Nat) : Int) - 1) = (j : Int) := by rw [nwrap (by omega) (by omega)]; omega
    rw [if_pos (by omega), e, if_pos (by omega), if_pos (by omega), Qer, Option.bind_some, tail]
    have : decide (cmpK (pkey (Qaj l (j : Int))) (pkey (Qaj l ((j + 1 : Nat) : Int))) ≥ 0) = Qcd (prevK l (j + 1)) (pkey (Qaj l ((j + 1 : Nat) : Int))) := by
     unfold prevK Qcd
     cases h : klt (pkey (Qaj l (j : Int))) (pkey (Qaj l ((j + 1 : Nat) : Int))) with
     | false => simp only [decide_eq_true_eq, h, Bool.not_false, Qev, decide_true]
     | true => simp only [h, Bool.not_true, Qev]; decide
    rw [this]
    rfl
theorem Qc3 (l : List Pled) (k : Nat) (hk : 2078 ≤ k) : QaD.f k l = some (chkP l) := by
 unfold QaD.f chkP
 split
 ·rfl
 exact Qfr l (by omega) l.length 0 k (by omega) (by omega)
def Qdh (l : List Pled) : Prop := l.Pairwise (fun a b => klt (pkey a) (pkey b) = true)
def loP (q : PK) (l : List Pled) : List Pled := l.filter (fun p => klt (pkey p) q)
def midP (q : PK) (l : List Pled) : List Pled := l.filter (fun p => decide (pkey p = q))
def hiP (q : PK) (l : List Pled) : List Pled := l.filter (fun p => klt q (pkey p))
def hadP (q : PK) (l : List Pled) : Int := match midP q l with | [] => 0 | x :: _ => x.f2
def plOf (q : PK) (n : Int) : Pled := ⟨⟨q.1, q.2.1⟩, q.2.2, n⟩
theorem qcond (x : Pled) (a b : ByteArray) : ((x.f0.f0.toList == a.toList && (x.f0.f1.toList == b.toList)) = true) ↔ (x.f0.f0 = a ∧ x.f0.f1 = b) := by
 simp only [Bool.and_eq_true, beq_iff_eq, tl_iff]
end Go.Proofs.Ytgnmhfjfefgbfaa.Pr
