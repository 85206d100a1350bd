/- Pledges: their order, what Check answers, where a pledge stands, what a list with a pledge is. -/
import Derived.Test.YtfcaaefdmabkhaaQEB3LmBytes
import Derived.Test.YtfcaaefdmabkhaaQEB3LmName
import Derived.Test.YtfcaaefdmabkhaaQEB3P0
import Derived.Test.YtfcaaefdmabkhaaQEB3P1
import Derived.Test.YtfcaaefdmabkhaaQEB3P3
namespace Go.Proofs.Ytfcaaefdmabkhaa.Pr
open Go.RowKit Go.Proofs.Ytfcaaefdmabkhaa.Pr Go.Proofs.YtfcaaefdmabkhaaW.PrintWords Go.Proofs.YtfcaaefdmabkhaaW.PrintLast Go.Proofs.YtfcaaefdmabkhaaW.PrintMore
set_option linter.unusedVariables false
set_option linter.unusedSimpArgs false
abbrev Pled := S46
abbrev PK := ByteArray × ByteArray × ByteArray
def pkey (p : Pled) : PK := (p.f0.f0, p.f0.f1, p.f1)
def klt (a b : PK) : Bool :=
 if a.1 = b.1 then if a.2.1 = b.2.1 then Op.bytesLess a.2.2.toList b.2.2.toList else Op.bytesLess a.2.1.toList b.2.1.toList else Op.bytesLess a.1.toList b.1.toList
theorem Qdj {a b : ByteArray} (h : Op.bytesLess a.toList b.toList = true) : a ≠ b := fun e => by rw [e, QbQ] at h; cases h
theorem QeH (a : PK) : klt a a = false := by simp [klt, QbQ]
theorem Qed (a b c : PK) (h1 : klt a b = true) (h2 : klt b c = true) : klt a c = true := by
 obtain ⟨a1, a2, a3⟩ := a
 obtain ⟨b1, b2, b3⟩ := b
 obtain ⟨c1, c2, c3⟩ := c
 unfold klt at *
 simp only at *
 by_cases e1 : a1 = b1
 ·subst e1
  rw [if_pos rfl] at h1
  by_cases e2 : a1 = c1
  ·subst e2
   rw [if_pos rfl] at h2 ⊢
   by_cases f1 : a2 = b2
   ·subst f1
    rw [if_pos rfl] at h1
    by_cases f2 : a2 = c2
    ·subst f2
     rw [if_pos rfl] at h2 ⊢
     exact Qb8 _ _ _ h1 h2
    rw [if_neg f2] at h2 ⊢
    exact h2
   rw [if_neg f1] at h1
   by_cases f2 : b2 = c2
   ·subst f2
    rw [if_neg f1]
    exact h1
   rw [if_neg f2] at h2
   have h3 := Qb8 _ _ _ h1 h2
   rw [if_neg (Qdj h3)]
   exact h3
  rw [if_neg e2] at h2 ⊢
  exact h2
 rw [if_neg e1] at h1
 by_cases e2 : b1 = c1
 ·subst e2
  rw [if_neg e1]
  exact h1
 rw [if_neg e2] at h2
 have h3 := Qb8 _ _ _ h1 h2
 rw [if_neg (Qdj h3)]
 exact h3
def cmpK (a b : PK) : Int := if a = b then 0 else if klt a b = true then -1 else 1
theorem Qdx (a b : Pled) : Qbi.f a.f0.f0 a.f0.f1 a.f1 a.f2 b.f0.f0 b.f0.f1 b.f1 b.f2 = some (cmpK (pkey a) (pkey b)) := by
 unfold Qbi.f Qa1.f Qbd.f cmpK klt pkey
 simp only [tl_iff, Prod.mk.injEq]
 by_cases e1 : a.f0.f0 = b.f0.f0
 ·by_cases e2 : a.f0.f1 = b.f0.f1
  ·by_cases e3 : a.f1 = b.f1
   ·simp [e1, e2, e3, QbQ]
   cases h : Op.bytesLess a.f1.toList b.f1.toList <;> simp [e1, e2, e3, QbQ, h]
  cases h : Op.bytesLess a.f0.f1.toList b.f0.f1.toList <;> simp [e1, e2, QbQ, h]
 cases h : Op.bytesLess a.f0.f0.toList b.f0.f0.toList <;> simp [e1, QbQ, h]
theorem Qb6 (l : List Pled) (i : Nat) (h : i < l.length) : l.drop i = rd_T46 l (i : Int) :: l.drop (i + 1) := by
 rw [List.drop_eq_getElem_cons h]
 unfold rd_T46
 rw [Int.toNat_natCast, List.getD_eq_getElem?_getD, List.getElem?_eq_getElem h]
 rfl
def okName (p : Pled) : Bool := nameOk p.f0.f0 && (nameOk p.f0.f1 && nameOk p.f1)
def okQty (n : Int) : Bool := decide (1 ≤ n) && decide (n ≤ 1152921504606846976)
theorem Qfd (n : Int) : Qby.f n = some (okQty n) := by
 unfold Qby.f okQty
 split
 ·rename_i h; simp [show 1 ≤ n from h]
 rename_i h; simp [show ¬ 1 ≤ n from h]
def QbK (q : Option PK) (s : PK) : Bool := match q with | some r => !klt r s | none => false
def chkLP : Option PK → List Pled → Int
 | _, [] => 0
 | q, p :: t => if okName p = true then if QbK q (pkey p) = true then 12 else if okQty p.f2 = true then chkLP (some (pkey p)) t else 18 else 10
theorem QcE (q : Option PK) (p : Pled) (t : List Pled) : chkLP q (p :: t) = if okName p = true then if QbK q (pkey p) = true then 12 else if okQty p.f2 = true then chkLP (some (pkey p)) t else 18 else 10 := by
 cases q <;> rfl
def chkP (l : List Pled) : Int := if (l.length : Int) > 1024 then 8 else chkLP none l
def prevK (l : List Pled) : Nat → Option PK
 | 0 => none
 | i + 1 => some (pkey (rd_T46 l (i : Int)))
theorem QdV (l : List ByteArray) (hl : l.length ≤ 1000) : ∀ n i k : Nat, i + n = l.length → n + 20 ≤ k → QaL.l0 k l (l.length : Int) (i : Int) = some ((l.drop i).all nameOk) := by
 intro n
 induction n with
 | zero =>
  intro i k hi hk
  obtain ⟨k, rfl⟩ : ∃ m, k = m + 1 := ⟨k - 1, by omega⟩
  rw [QaL.l0, if_neg (by omega), List.drop_eq_nil_of_le (by omega)]
  rfl
 | succ n ih =>
  intro i k hi hk
  obtain ⟨k, rfl⟩ : ∃ m, k = m + 1 := ⟨k - 1, by omega⟩
  have hlt : i < l.length := by omega
  have e : rdOf ByteArray.empty l (i : Int) = l[i] := by
   unfold rdOf
   rw [Int.toNat_natCast, List.getD_eq_getElem?_getD, List.getElem?_eq_getElem hlt]
   rfl
  rw [QaL.l0, if_pos (by omega), if_pos (by omega), if_pos (by omega), QcV _ k (by omega), Option.bind_some, nwrap (by omega) (by omega), show ((i : Int) + 1) = ((i + 1 : Nat) : Int) by omega, ih (i + 1) k (by omega) (by omega), List.drop_eq_getElem_cons hlt, List.all_cons, e]
  cases nameOk l[i] <;> simp
theorem Qel (l : List ByteArray) (hl : l.length ≤ 1000) (k : Nat) (hk : l.length + 20 ≤ k) : QaL.f k l = some (l.all nameOk) := by
 unfold QaL.f
 rw [show (0 : Int) = ((0 : Nat) : Int) from rfl, QdV l hl l.length 0 k (by omega) hk, List.drop_zero]
theorem QdD (a b : PK) : (cmpK a b ≥ 0) ↔ klt a b = false := by
 unfold cmpK
 by_cases e : a = b
 ·rw [if_pos e, e, QeH]; simp
 rw [if_neg e]
 cases h : klt a b <;> simp
theorem Qek (l : List Pled) (hl : l.length ≤ 1024) : ∀ n i k : Nat, i + n = l.length → 2 * n + 30 ≤ k → Qaw.l0 k l l (l.length : Int) (i : Int) = some (chkLP (prevK l i) (l.drop i)) := by
 intro n
 induction n with
 | zero =>
  intro i k hi hk
  obtain ⟨k, rfl⟩ : ∃ m, k = m + 1 := ⟨k - 1, by omega⟩
  rw [Qaw.l0, if_neg (by omega), List.drop_eq_nil_of_le (by omega), chkLP]
 | succ n ih =>
  intro i k hi hk
  obtain ⟨k, rfl⟩ : ∃ m, k = m + 2 := ⟨k - 2, by omega⟩
  have hlt : i < l.length := by omega
  have IH := ih (i + 1) k (by omega) (by omega)
  have tail : ∀ b : Bool, Qaw.j1 (k + 1) l l (l.length : Int) (i : Int) b (rd_T46 l i).f0.f0 (rd_T46 l i).f0.f1 (rd_T46 l i).f1 (rd_T46 l i).f2 = some (if b = true then 12 else if okQty (rd_T46 l i).f2 = true then chkLP (prevK l (i + 1)) (l.drop (i + 1)) else 18) := by
   intro b
   rw [Qaw.j1, Qfd, Option.bind_some, nwrap (by omega) (by omega), show ((i : Int) + 1) = ((i + 1 : Nat) : Int) by omega, IH]
   cases b <;> cases okQty (rd_T46 l i).f2 <;> simp
  rw [Qaw.l0, if_pos (by omega), if_pos (by omega), if_pos (by omega), Qb6 l i hlt, QcE, Qel _ (by simp) _ (by simp; omega), Option.bind_some]
  have e0 : [(rd_T46 l i).f0.f0, (rd_T46 l i).f0.f1, (rd_T46 l i).f1].all nameOk = okName (rd_T46 l i) := by simp [okName]
  rw [e0]
  cases hn : okName (rd_T46 l i) with
  | false => simp
  | true =>
   simp only [if_true]
   cases i with
   | zero =>
    rw [if_neg (by omega)]
    exact tail false
   | succ j =>
    have e : wrap64 (((j + 1 : Nat) : Int) - 1) = (j : Int) := by rw [nwrap (by omega) (by omega)]; omega
    rw [if_pos (by omega), e, if_pos (by omega), if_pos (by omega), Qdx, Option.bind_some, tail]
    have : decide (cmpK (pkey (rd_T46 l (j : Int))) (pkey (rd_T46 l ((j + 1 : Nat) : Int))) ≥ 0) = QbK (prevK l (j + 1)) (pkey (rd_T46 l ((j + 1 : Nat) : Int))) := by
     unfold prevK QbK
     cases h : klt (pkey (rd_T46 l (j : Int))) (pkey (rd_T46 l ((j + 1 : Nat) : Int))) with
     | false => simp only [decide_eq_true_eq, h, Bool.not_false, QdD, decide_true]
     | true => simp only [h, Bool.not_true, QdD]; decide
    rw [this]
    rfl
theorem Qci (l : List Pled) (k : Nat) (hk : 2078 ≤ k) : Qaw.f k l = some (chkP l) := by
 unfold Qaw.f chkP
 split
 ·rfl
 exact Qek l (by omega) l.length 0 k (by omega) (by omega)
def Qcq (l : List Pled) : Prop := l.Pairwise (fun a b => klt (pkey a) (pkey b) = true)
theorem qcond (x : Pled) (a b : ByteArray) : ((x.f0.f0.toList == a.toList && (x.f0.f1.toList == b.toList)) = true) ↔ (x.f0.f0 = a ∧ x.f0.f1 = b) := by
 simp only [Bool.and_eq_true, beq_iff_eq, tl_iff]
end Go.Proofs.Ytfcaaefdmabkhaa.Pr
