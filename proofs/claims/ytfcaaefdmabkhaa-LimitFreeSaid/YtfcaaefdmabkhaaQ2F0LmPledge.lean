/- Pledges: their order, what Check answers, where a pledge stands, what a list with a pledge is. -/
import Derived.Test.YtfcaaefdmabkhaaQ2F0LmBytes
import Derived.Test.YtfcaaefdmabkhaaQ2F0LmName
import Derived.Test.YtfcaaefdmabkhaaQ2F0P0
import Derived.Test.YtfcaaefdmabkhaaQ2F0P2
import Derived.Test.YtfcaaefdmabkhaaQ2F0P3
import Derived.Test.YtfcaaefdmabkhaaQ2F0P1
import Derived.Test.YtfcaaefdmabkhaaQ2F0P7
import Derived.Test.YtfcaaefdmabkhaaQ2F0P6
namespace Go.Proofs.Ytfcaaefdmabkhaa.Pr
open Go.RowKit Go.Proofs.Ytfcaaefdmabkhaa.Pr Go.Proofs.YtfcaaefdmabkhaaW.PrintWords Go.Proofs.YtfcaaefdmabkhaaW.PrintLast Go.Proofs.YtfcaaefdmabkhaaW.PrintMore
set_option linter.unusedVariables false
set_option linter.unusedSimpArgs false
abbrev Pled := S46
abbrev PK := ByteArray × ByteArray × ByteArray
def pkey (p : Pled) : PK := (p.f0.f0, p.f0.f1, p.f1)
def klt (a b : PK) : Bool :=
 if a.1 = b.1 then if a.2.1 = b.2.1 then Op.bytesLess a.2.2.toList b.2.2.toList else Op.bytesLess a.2.1.toList b.2.1.toList else Op.bytesLess a.1.toList b.1.toList
theorem Qet {a b : ByteArray} (h : Op.bytesLess a.toList b.toList = true) : a ≠ b := fun e => by rw [e, Qcy] at h; cases h
theorem QcA (a : PK) : klt a a = false := by simp [klt, Qcy]
theorem QcR (a b c : PK) (h1 : klt a b = true) (h2 : klt b c = true) : klt a c = true := by
 obtain ⟨a1, a2, a3⟩ := a
 obtain ⟨b1, b2, b3⟩ := b
 obtain ⟨c1, c2, c3⟩ := c
 unfold klt at *
 simp only at *
 by_cases e1 : a1 = b1
 ·subst e1
  rw [if_pos rfl] at h1
  by_cases e2 : a1 = c1
  ·subst e2
   rw [if_pos rfl] at h2 ⊢
   by_cases f1 : a2 = b2
   ·subst f1
    rw [if_pos rfl] at h1
    by_cases f2 : a2 = c2
    ·subst f2
     rw [if_pos rfl] at h2 ⊢
     exact Qc4 _ _ _ h1 h2
    rw [if_neg f2] at h2 ⊢
    exact h2
   rw [if_neg f1] at h1
   by_cases f2 : b2 = c2
   ·subst f2
    rw [if_neg f1]
    exact h1
   rw [if_neg f2] at h2
   have h3 := Qc4 _ _ _ h1 h2
   rw [if_neg (Qet h3)]
   exact h3
  rw [if_neg e2] at h2 ⊢
  exact h2
 rw [if_neg e1] at h1
 by_cases e2 : b1 = c1
 ·subst e2
  rw [if_neg e1]
  exact h1
 rw [if_neg e2] at h2
 have h3 := Qc4 _ _ _ h1 h2
 rw [if_neg (Qet h3)]
 exact h3
theorem QgW (a b : PK) (h : klt a b = false) (n : a ≠ b) : klt b a = true := by
 obtain ⟨a1, a2, a3⟩ := a
 obtain ⟨b1, b2, b3⟩ := b
 unfold klt at *
 simp only at *
 have tl : ∀ x y : ByteArray, x ≠ y → x.toList ≠ y.toList := fun x y n e => n (Qed e)
 by_cases e1 : a1 = b1
 ·subst e1
  rw [if_pos rfl] at h ⊢
  by_cases f1 : a2 = b2
  ·subst f1
   rw [if_pos rfl] at h ⊢
   exact bl_tri _ _ h (tl _ _ (fun e => n (by rw [e])))
  rw [if_neg f1] at h
  rw [if_neg (fun e => f1 e.symm)]
  exact bl_tri _ _ h (tl _ _ f1)
 rw [if_neg e1] at h
 rw [if_neg (fun e => e1 e.symm)]
 exact bl_tri _ _ h (tl _ _ e1)
theorem QdI (a b : PK) (h : klt a b = true) : klt b a = false := by
 cases h2 : klt b a with
 | false => rfl
 | true => have := QcR _ _ _ h h2; rw [QcA] at this; cases this
theorem klt_ne {a b : PK} (h : klt a b = true) : a ≠ b := fun e => by rw [e, QcA] at h; cases h
def cmpK (a b : PK) : Int := if a = b then 0 else if klt a b = true then -1 else 1
theorem QcY (a b : Pled) : QbD.f a.f0.f0 a.f0.f1 a.f1 a.f2 b.f0.f0 b.f0.f1 b.f1 b.f2 = some (cmpK (pkey a) (pkey b)) := by
 unfold QbD.f Qbu.f QbG.f cmpK klt pkey
 simp only [tl_iff, Prod.mk.injEq]
 by_cases e1 : a.f0.f0 = b.f0.f0
 ·by_cases e2 : a.f0.f1 = b.f0.f1
  ·by_cases e3 : a.f1 = b.f1
   ·simp [e1, e2, e3, Qcy]
   cases h : Op.bytesLess a.f1.toList b.f1.toList <;> simp [e1, e2, e3, Qcy, h]
  cases h : Op.bytesLess a.f0.f1.toList b.f0.f1.toList <;> simp [e1, e2, Qcy, h]
 cases h : Op.bytesLess a.f0.f0.toList b.f0.f0.toList <;> simp [e1, Qcy, h]
theorem QfY (a b : Pled) : QbJ.f a.f0.f0 a.f0.f1 a.f1 a.f2 b.f0.f0 b.f0.f1 b.f1 b.f2 = some (klt (pkey a) (pkey b)) := by
 unfold QbJ.f klt pkey
 simp only [tl_iff]
 (repeat' split) <;> rfl
theorem Qce (l : List Pled) (i : Nat) (h : i < l.length) : l.drop i = rd_T46 l (i : Int) :: l.drop (i + 1) := by
 rw [List.drop_eq_getElem_cons h]
 unfold rd_T46
 rw [Int.toNat_natCast, List.getD_eq_getElem?_getD, List.getElem?_eq_getElem h]
 rfl
theorem pl_rd (l : List Pled) (i : Nat) (h : i < l.length) : rd_T46 l (i : Int) = l[i] := by
 unfold rd_T46
 rw [Int.toNat_natCast, List.getD_eq_getElem?_getD, List.getElem?_eq_getElem h]
 rfl
def okName (p : Pled) : Bool := nameOk p.f0.f0 && (nameOk p.f0.f1 && nameOk p.f1)
def okQty (n : Int) : Bool := decide (1 ≤ n) && decide (n ≤ 1152921504606846976)
theorem QeV (n : Int) : QbY.f n = some (okQty n) := by
 unfold QbY.f okQty
 split
 ·rename_i h; simp [show 1 ≤ n from h]
 rename_i h; simp [show ¬ 1 ≤ n from h]
theorem may_eq (n : Int) : QbV.f n = some (okQty n) := by
 unfold QbV.f okQty
 split
 ·rename_i h; simp [show 1 ≤ n from h]
 rename_i h; simp [show ¬ 1 ≤ n from h]
def Qcq (q : Option PK) (s : PK) : Bool := match q with | some r => !klt r s | none => false
def chkLP : Option PK → List Pled → Int
 | _, [] => 0
 | q, p :: t => if okName p = true then if Qcq q (pkey p) = true then 12 else if okQty p.f2 = true then chkLP (some (pkey p)) t else 18 else 10
theorem Qc5 (q : Option PK) (p : Pled) (t : List Pled) : chkLP q (p :: t) = if okName p = true then if Qcq q (pkey p) = true then 12 else if okQty p.f2 = true then chkLP (some (pkey p)) t else 18 else 10 := by
 cases q <;> rfl
def chkP (l : List Pled) : Int := if (l.length : Int) > 1024 then 8 else chkLP none l
def prevK (l : List Pled) : Nat → Option PK
 | 0 => none
 | i + 1 => some (pkey (rd_T46 l (i : Int)))
theorem Qfh (l : List ByteArray) (hl : l.length ≤ 1000) : ∀ n i k : Nat, i + n = l.length → n + 20 ≤ k → Qbe.l0 k l (l.length : Int) (i : Int) = some ((l.drop i).all nameOk) := by
 intro n
 induction n with
 | zero =>
  intro i k hi hk
  obtain ⟨k, rfl⟩ : ∃ m, k = m + 1 := ⟨k - 1, by omega⟩
  rw [Qbe.l0, if_neg (by omega), List.drop_eq_nil_of_le (by omega)]
  rfl
 | succ n ih =>
  intro i k hi hk
  obtain ⟨k, rfl⟩ : ∃ m, k = m + 1 := ⟨k - 1, by omega⟩
  have hlt : i < l.length := by omega
  have e : rdOf ByteArray.empty l (i : Int) = l[i] := by
   unfold rdOf
   rw [Int.toNat_natCast, List.getD_eq_getElem?_getD, List.getElem?_eq_getElem hlt]
   rfl
  rw [Qbe.l0, if_pos (by omega), if_pos (by omega), if_pos (by omega), Qd3 _ k (by omega), Option.bind_some, nwrap (by omega) (by omega), show ((i : Int) + 1) = ((i + 1 : Nat) : Int) by omega, ih (i + 1) k (by omega) (by omega), List.drop_eq_getElem_cons hlt, List.all_cons, e]
  cases nameOk l[i] <;> simp
theorem QfM (l : List ByteArray) (hl : l.length ≤ 1000) (k : Nat) (hk : l.length + 20 ≤ k) : Qbe.f k l = some (l.all nameOk) := by
 unfold Qbe.f
 rw [show (0 : Int) = ((0 : Nat) : Int) from rfl, Qfh l hl l.length 0 k (by omega) hk, List.drop_zero]
theorem QeP (a b : PK) : (cmpK a b ≥ 0) ↔ klt a b = false := by
 unfold cmpK
 by_cases e : a = b
 ·rw [if_pos e, e, QcA]; simp
 rw [if_neg e]
 cases h : klt a b <;> simp
theorem QeQ (a b : PK) : (cmpK a b < 0) ↔ klt a b = true := by
 unfold cmpK
 by_cases e : a = b
 ·rw [if_pos e, e, QcA]; simp
 rw [if_neg e]
 cases h : klt a b <;> simp
theorem QgJ (a b : PK) : (cmpK a b = 0) ↔ a = b := by
 unfold cmpK
 by_cases e : a = b
 ·simp [e]
 rw [if_neg e]
 split <;> simp [e]
theorem QfL (l : List Pled) (hl : l.length ≤ 1024) : ∀ n i k : Nat, i + n = l.length → 2 * n + 30 ≤ k → QaG.l0 k l l (l.length : Int) (i : Int) = some (chkLP (prevK l i) (l.drop i)) := by
 intro n
 induction n with
 | zero =>
  intro i k hi hk
  obtain ⟨k, rfl⟩ : ∃ m, k = m + 1 := ⟨k - 1, by omega⟩
  rw [QaG.l0, if_neg (by omega), List.drop_eq_nil_of_le (by omega), chkLP]
 | succ n ih =>
  intro i k hi hk
  obtain ⟨k, rfl⟩ : ∃ m, k = m + 2 := ⟨k - 2, by omega⟩
  have hlt : i < l.length := by omega
  have IH := ih (i + 1) k (by omega) (by omega)
  have tail : ∀ b : Bool, QaG.j1 (k + 1) l l (l.length : Int) (i : Int) b (rd_T46 l i).f0.f0 (rd_T46 l i).f0.f1 (rd_T46 l i).f1 (rd_T46 l i).f2 = some (if b = true then 12 else if okQty (rd_T46 l i).f2 = true then chkLP (prevK l (i + 1)) (l.drop (i + 1)) else 18) := by
   intro b
   rw [QaG.j1, QeV, Option.bind_some, nwrap (by omega) (by omega), show ((i : Int) + 1) = ((i + 1 : Nat) : Int) by omega, IH]
   cases b <;> cases okQty (rd_T46 l i).f2 <;> simp
  rw [QaG.l0, if_pos (by omega), if_pos (by omega), if_pos (by omega), Qce l i hlt, Qc5, QfM _ (by simp) _ (by simp; omega), Option.bind_some]
  have e0 : [(rd_T46 l i).f0.f0, (rd_T46 l i).f0.f1, (rd_T46 l i).f1].all nameOk = okName (rd_T46 l i) := by simp [okName]
  rw [e0]
  cases hn : okName (rd_T46 l i) with
  | false => simp
  | true =>
   simp only [if_true]
   cases i with
   | zero =>
    rw [if_neg (by omega)]
    exact tail false
   | succ j =>
    have e : wrap64 (((j + 1 : Nat) : Int) - 1) = (j : Int) := by rw [nwrap (by omega) (by omega)]; omega
    rw [if_pos (by omega), e, if_pos (by omega), if_pos (by omega), QcY, Option.bind_some, tail]
    have : decide (cmpK (pkey (rd_T46 l (j : Int))) (pkey (rd_T46 l ((j + 1 : Nat) : Int))) ≥ 0) = Qcq (prevK l (j + 1)) (pkey (rd_T46 l ((j + 1 : Nat) : Int))) := by
     unfold prevK Qcq
     cases h : klt (pkey (rd_T46 l (j : Int))) (pkey (rd_T46 l ((j + 1 : Nat) : Int))) with
     | false => simp only [decide_eq_true_eq, h, Bool.not_false, QeP, decide_true]
     | true => simp only [h, Bool.not_true, QeP]; decide
    rw [this]
    rfl
theorem QcS (l : List Pled) (k : Nat) (hk : 2078 ≤ k) : QaG.f k l = some (chkP l) := by
 unfold QaG.f chkP
 split
 ·rfl
 exact QfL l (by omega) l.length 0 k (by omega) (by omega)
def szP (p : Pled) : Nat := p.f0.f0.size + p.f0.f1.size + p.f1.size
def szsP : List Pled → Nat
 | [] => 0
 | p :: t => szP p + szsP t
theorem Qe5 : ∀ {l : List Pled} {p : Pled}, p ∈ l → szP p ≤ szsP l
 | q :: t, p, h => by
  rcases List.mem_cons.1 h with rfl | h
  ·unfold szsP; omega
  have := Qe5 h
  unfold szsP; omega
def bigOk (p : Pled) : Prop := p.f0.f0.size ≤ 9223372036854775807 ∧ p.f0.f1.size ≤ 9223372036854775807 ∧ p.f1.size ≤ 9223372036854775807
theorem QfR (a b : ByteArray) (ha : a.size ≤ 9223372036854775807) (hb : b.size ≤ 9223372036854775807) (k : Nat) (hk : a.size + b.size + 1 ≤ k) : Qbk.f k a b = some (nameOk a && nameOk b) := by
 unfold Qbk.f
 rw [QcN a ha k (by omega), QcN b hb k (by omega), Option.bind_some]
 cases nameOk a <;> simp
theorem Qfk (l : List Pled) (hl : l.length ≤ 1024) (hb : ∀ p ∈ l, bigOk p) : ∀ n i k : Nat, i + n = l.length → 3 * n + szsP l + 30 ≤ k → Qaq.l0 k l (i : Int) = some (chkLP (prevK l i) (l.drop i)) := by
 intro n
 induction n with
 | zero =>
  intro i k hi hk
  obtain ⟨k, rfl⟩ : ∃ m, k = m + 1 := ⟨k - 1, by omega⟩
  rw [Qaq.l0, if_neg (by omega), List.drop_eq_nil_of_le (by omega), chkLP]
 | succ n ih =>
  intro i k hi hk
  obtain ⟨k, rfl⟩ : ∃ m, k = m + 3 := ⟨k - 3, by omega⟩
  have hlt : i < l.length := by omega
  have IH := ih (i + 1) k (by omega) (by omega)
  have hm : rd_T46 l (i : Int) ∈ l := by rw [pl_rd l i hlt]; exact List.getElem_mem _
  have hz := Qe5 hm
  have hbg := hb _ hm
  unfold szP at hz
  have tail2 : ∀ b : Bool, Qaq.j2 (k + 1) l (i : Int) b = some (if b = true then 12 else if okQty (rd_T46 l i).f2 = true then chkLP (prevK l (i + 1)) (l.drop (i + 1)) else 18) := by
   intro b
   rw [Qaq.j2, if_pos (show (0 : Int) ≤ (i : Int) by omega), if_pos (show (i : Int) < (l.length : Int) by omega), may_eq, Option.bind_some, nwrap (by omega) (by omega), show ((i : Int) + 1) = ((i + 1 : Nat) : Int) by omega, IH]
   cases b <;> cases okQty (rd_T46 l i).f2 <;> simp
  have tail1 : ∀ b : Bool, Qaq.j1 (k + 2) l (i : Int) b = some (if b = true then 10 else if Qcq (prevK l i) (pkey (rd_T46 l i)) = true then 12 else if okQty (rd_T46 l i).f2 = true then chkLP (prevK l (i + 1)) (l.drop (i + 1)) else 18) := by
   intro b
   rw [Qaq.j1]
   cases b with
   | true => simp
   | false =>
    rw [if_neg (by simp)]
    cases i with
    | zero =>
     rw [if_neg (by omega), tail2 false]
     rfl
    | succ j =>
     have e : wrap64 (((j + 1 : Nat) : Int) - 1) = (j : Int) := by rw [nwrap (by omega) (by omega)]; omega
     rw [if_pos (by omega), e, if_pos (by omega), if_pos (by omega), if_pos (by omega), if_pos (by omega), QfY, Option.bind_some, tail2]
     rfl
  rw [Qaq.l0, if_pos (by omega), if_pos (by omega), Qce l i hlt, Qc5, QfR _ _ hbg.1 hbg.2.1 _ (by omega), Option.bind_some, QcN _ hbg.2.2 _ (by omega), Option.bind_some]
  rw [show okName (rd_T46 l i) = ((nameOk (rd_T46 l i).f0.f0 && nameOk (rd_T46 l i).f0.f1) && nameOk (rd_T46 l i).f1) by unfold okName; rw [Bool.and_assoc]]
  cases (nameOk (rd_T46 l i).f0.f0 && nameOk (rd_T46 l i).f0.f1) with
  | false => rw [if_neg (by simp), tail1 true]; simp
  | true =>
   rw [if_pos rfl, tail1]
   cases nameOk (rd_T46 l i).f1 <;> simp [prevK]
theorem Qdb (l : List Pled) (hb : ∀ p ∈ l, bigOk p) (k : Nat) (hk : szsP l + 3102 ≤ k) : Qaq.f k l = some (chkP l) := by
 unfold Qaq.f chkP
 split
 ·rfl
 exact Qfk l (by omega) hb l.length 0 k (by omega) (by omega)
def QbX (l : List Pled) : Prop := l.Pairwise (fun a b => klt (pkey a) (pkey b) = true)
def loP (q : PK) (l : List Pled) : List Pled := l.filter (fun p => klt (pkey p) q)
def midP (q : PK) (l : List Pled) : List Pled := l.filter (fun p => decide (pkey p = q))
def hiP (q : PK) (l : List Pled) : List Pled := l.filter (fun p => klt q (pkey p))
theorem lo_nil (q : PK) (l : List Pled) (h : ∀ p ∈ l, klt q (pkey p) = true) : loP q l = [] := by
 refine List.filter_eq_nil_iff.2 fun p hp => ?_
 rw [QdI _ _ (h p hp)]; simp
theorem Qd2 (q : PK) (l : List Pled) (h : ∀ p ∈ l, klt q (pkey p) = true) : midP q l = [] := by
 refine List.filter_eq_nil_iff.2 fun p hp => ?_
 have := klt_ne (h p hp)
 exact fun z => this (of_decide_eq_true z).symm
theorem hi_all (q : PK) (l : List Pled) (h : ∀ p ∈ l, klt q (pkey p) = true) : hiP q l = l := List.filter_eq_self.2 h
theorem split3 (q : PK) : ∀ l : List Pled, QbX l → l = loP q l ++ (midP q l ++ hiP q l)
 | [], _ => rfl
 | p :: t, h => by
  have ht : QbX t := (List.pairwise_cons.1 h).2
  have hp : ∀ x ∈ t, klt (pkey p) (pkey x) = true := (List.pairwise_cons.1 h).1
  have ih := split3 q t ht
  cases h1 : klt (pkey p) q with
  | true =>
   have e1 : loP q (p :: t) = p :: loP q t := by simp [loP, List.filter_cons, h1]
   have e2 : midP q (p :: t) = midP q t := by unfold midP; rw [List.filter_cons_of_neg]; simp [klt_ne h1]
   have e3 : hiP q (p :: t) = hiP q t := by unfold hiP; rw [List.filter_cons_of_neg]; rw [QdI _ _ h1]; simp
   rw [e1, e2, e3, List.cons_append, ← ih]
  | false =>
   have e1 : loP q (p :: t) = loP q t := by unfold loP; rw [List.filter_cons_of_neg]; rw [h1]; simp
   by_cases h2 : pkey p = q
   ·have hq : ∀ x ∈ t, klt q (pkey x) = true := by rw [← h2]; exact hp
    have e2 : midP q (p :: t) = p :: midP q t := by unfold midP; rw [List.filter_cons_of_pos]; simp [h2]
    have e3 : hiP q (p :: t) = hiP q t := by unfold hiP; rw [List.filter_cons_of_neg]; rw [h2, QcA]; simp
    rw [e1, e2, e3, lo_nil q t hq, Qd2 q t hq, hi_all q t hq]; rfl
   have h3 := QgW _ _ h1 h2
   have hq : ∀ x ∈ p :: t, klt q (pkey x) = true := by
    intro x hx
    rcases List.mem_cons.1 hx with rfl | hx
    ·exact h3
    exact QcR _ _ _ h3 (hp x hx)
   rw [lo_nil q _ hq, Qd2 q _ hq, hi_all q _ hq]; rfl
theorem Qdj (q : PK) : ∀ l : List Pled, QbX l → midP q l = [] ∨ ∃ x, midP q l = [x] ∧ pkey x = q
 | [], _ => Or.inl rfl
 | p :: t, h => by
  have ht : QbX t := (List.pairwise_cons.1 h).2
  have hp : ∀ x ∈ t, klt (pkey p) (pkey x) = true := (List.pairwise_cons.1 h).1
  by_cases h2 : pkey p = q
  ·have hq : ∀ x ∈ t, klt q (pkey x) = true := by rw [← h2]; exact hp
   have e2 : midP q (p :: t) = p :: midP q t := by unfold midP; rw [List.filter_cons_of_pos]; simp [h2]
   exact Or.inr ⟨p, by rw [e2, Qd2 q t hq], h2⟩
  have e2 : midP q (p :: t) = midP q t := by unfold midP; rw [List.filter_cons_of_neg]; simp [h2]
  rw [e2]
  exact Qdj q t ht
theorem lo_lt {q : PK} {l : List Pled} {x : Pled} (h : x ∈ loP q l) : klt (pkey x) q = true := (List.mem_filter.1 h).2
theorem hi_gt {q : PK} {l : List Pled} {x : Pled} (h : x ∈ hiP q l) : klt q (pkey x) = true := (List.mem_filter.1 h).2
theorem mid_is {q : PK} {l : List Pled} {x : Pled} (h : x ∈ midP q l) : pkey x = q := of_decide_eq_true (List.mem_filter.1 h).2
theorem lt_at (q : PK) (l : List Pled) (h : QbX l) (j : Nat) (hj : j < l.length) : klt (pkey l[j]) q = decide (j < (loP q l).length) := by
 have e := split3 q l h
 by_cases hlt : j < (loP q l).length
 ·have : l[j] = (loP q l)[j] := by
   have : l[j]? = (loP q l)[j]? := by
    conv => lhs; rw [e]
    rw [List.getElem?_append_left hlt]
   rw [List.getElem?_eq_getElem hj, List.getElem?_eq_getElem hlt] at this
   exact Option.some.inj this
  rw [this, lo_lt (List.getElem_mem hlt)]
  simp [hlt]
 have hm : l[j] ∈ midP q l ++ hiP q l := by
  have : l[j]? = (midP q l ++ hiP q l)[j - (loP q l).length]? := by
   conv => lhs; rw [e]
   rw [List.getElem?_append_right (by omega)]
  rw [List.getElem?_eq_getElem hj] at this
  exact List.mem_of_getElem? this.symm
 have hf : klt (pkey l[j]) q = false := by
  rcases List.mem_append.1 hm with h | h
  ·rw [mid_is h, QcA]
  exact QdI _ _ (hi_gt h)
 rw [hf]
 simp [hlt]
theorem Qfj (q : PK) (n : Int) (l : List Pled) (h : QbX l) (hl : l.length ≤ 1073741824) : ∀ d a b k : Nat, b - a = d → a ≤ (loP q l).length → (loP q l).length ≤ b → b ≤ l.length → d + 1 ≤ k →
  Qaw.l0 k l (a : Int) (b : Int) q.1 q.2.1 q.2.2 n = some (((loP q l).length : Int), decide (midP q l ≠ [])) := by
 intro d
 induction d using Nat.strongRecOn with
 | ind d ih =>
  intro a b k hd ha hb hbl hk
  obtain ⟨k, rfl⟩ : ∃ m, k = m + 1 := ⟨k - 1, by omega⟩
  rw [Qaw.l0]
  by_cases hab : a < b
  ·have hm : wrap64 (Int.tdiv (wrap64 ((a : Int) + (b : Int))) 2) = (((a + b) / 2 : Nat) : Int) := by
    rw [nwrap (x := (a : Int) + (b : Int)) (by omega) (by omega), Int.tdiv_eq_ediv_of_nonneg (by omega), nwrap (by omega) (by omega)]
    omega
   have hm1 : wrap64 ((((a + b) / 2 : Nat) : Int) + 1) = (((a + b) / 2 + 1 : Nat) : Int) := by
    rw [nwrap (by omega) (by omega)]; omega
   have hmid : (a + b) / 2 < l.length := by omega
   have hc := QcY (rd_T46 l (((a + b) / 2 : Nat) : Int)) ⟨⟨q.1, q.2.1⟩, q.2.2, n⟩
   have hlt := lt_at q l h _ hmid
   rw [← pl_rd l _ hmid] at hlt
   rw [if_pos (by omega), hm, if_pos (by omega), if_pos (by omega), hc, Option.bind_some, hm1]
   by_cases hx : (a + b) / 2 < (loP q l).length
   ·rw [if_pos ((QeQ _ _).2 (by rw [show pkey (⟨⟨q.1, q.2.1⟩, q.2.2, n⟩ : Pled) = q from rfl, hlt]; simp [hx])), ih (b - ((a + b) / 2 + 1)) (by omega) _ _ k rfl (by omega) hb hbl (by omega)]
   rw [if_neg (fun z => by have := (QeQ _ _).1 z; rw [show pkey (⟨⟨q.1, q.2.1⟩, q.2.2, n⟩ : Pled) = q from rfl, hlt] at this; simp [hx] at this), ih ((a + b) / 2 - a) (by omega) _ _ k rfl ha (by omega) (by omega) (by omega)]
  have ea : a = (loP q l).length := by omega
  rw [if_neg (by omega)]
  have e := split3 q l h
  have el : l.length = (loP q l).length + ((midP q l).length + (hiP q l).length) := by
   conv => lhs; rw [e]
   rw [List.length_append, List.length_append]
  by_cases hal : a < l.length
  ·have hc := QcY (rd_T46 l (a : Int)) ⟨⟨q.1, q.2.1⟩, q.2.2, n⟩
   rw [if_pos (by omega), if_pos (by omega), hc, Option.bind_some, ← ea]
   congr 2
   have hh : l[a]? = (midP q l ++ hiP q l)[0]? := by
    conv => lhs; rw [e]
    rw [List.getElem?_append_right (by omega), ea, Nat.sub_self]
   rw [List.getElem?_eq_getElem hal] at hh
   rw [pl_rd l a hal, show pkey (⟨⟨q.1, q.2.1⟩, q.2.2, n⟩ : Pled) = q from rfl]
   rcases Qdj q l h with hm | ⟨x, hm, hx⟩
   ·rw [hm, List.nil_append] at hh
    have hg := hi_gt (List.mem_of_getElem? hh.symm)
    have hne : ¬ cmpK (pkey l[a]) q = 0 := fun z => klt_ne hg ((QgJ _ _).1 z).symm
    simp [hm, hne]
   rw [hm, List.singleton_append, List.getElem?_cons_zero] at hh
   have : pkey l[a] = q := by rw [Option.some.inj hh]; exact hx
   simp [hm, this, cmpK]
  rw [if_neg (by omega), ← ea]
  have hm : midP q l = [] := by
   have : (midP q l).length = 0 := by omega
   exact List.length_eq_zero_iff.1 this
  simp [hm]
theorem QfN (q : PK) (n : Int) (l : List Pled) (h : QbX l) (hl : l.length ≤ 1073741824) (k : Nat) (hk : l.length + 1 ≤ k) :
  Qaw.f k l q.1 q.2.1 q.2.2 n = some (((loP q l).length : Int), decide (midP q l ≠ [])) := by
 unfold Qaw.f
 have e := split3 q l h
 have el : l.length = (loP q l).length + ((midP q l).length + (hiP q l).length) := by
  conv => lhs; rw [e]
  rw [List.length_append, List.length_append]
 exact Qfj q n l h hl l.length 0 l.length k (by omega) (by omega) (by omega) (by omega) hk
theorem QeJ (l p : List Pled) (a s : Nat) (hl : l.length ≤ 1073741824) (hp : p.length ≤ 1000) (h1 : a + s ≤ l.length) :
  Qbs.f l (a : Int) (s : Int) p = some (l.take a ++ p ++ l.drop (a + s)) := by
 unfold Qbs.f
 have e1 : wrap64 (wrap64 ((l.length : Int) + (p.length : Int)) - (s : Int)) = (l.length : Int) + (p.length : Int) - (s : Int) := by
  rw [nwrap (x := (l.length : Int) + (p.length : Int)) (by omega) (by omega), nwrap (by omega) (by omega)]
 have e2 : wrap64 ((a : Int) + (s : Int)) = ((a + s : Nat) : Int) := by rw [nwrap (by omega) (by omega)]; omega
 rw [e1, e2, if_pos (by omega), if_pos (by omega), Option.bind_some, if_pos (by omega), if_pos (by omega), Option.bind_some, if_pos (by simp; omega), Option.bind_some, if_pos (by simp; omega), Option.bind_some, if_pos (by omega), if_pos (by omega), Option.bind_some, if_pos (by simp [-List.length_take, -List.length_drop]; rw [List.length_take, List.length_drop]; omega)]
 simp only [List.nil_append, Int.toNat_natCast]
def hadP (q : PK) (l : List Pled) : Int := match midP q l with | [] => 0 | x :: _ => x.f2
def plOf (q : PK) (n : Int) : Pled := ⟨⟨q.1, q.2.1⟩, q.2.2, n⟩
def insP (q : PK) (n : Int) (l : List Pled) : List Pled := loP q l ++ ((if n = 0 then [] else [plOf q n]) ++ hiP q l)
theorem Qhf (q : PK) (l : List Pled) (h : QbX l) : l.take (loP q l).length = loP q l := by
 exact (congrArg (List.take (loP q l).length) (split3 q l h)).trans (List.take_left' rfl)
theorem QgM (q : PK) (l : List Pled) (h : QbX l) : l.drop (loP q l).length = midP q l ++ hiP q l := by
 exact (congrArg (List.drop (loP q l).length) (split3 q l h)).trans (List.drop_left' rfl)
theorem QeY (x p : Pled) : pkey x = pkey p ↔ (x.f0.f0 = p.f0.f0 ∧ x.f0.f1 = p.f0.f1) ∧ x.f1 = p.f1 := by
 unfold pkey
 simp only [Prod.mk.injEq, and_assoc]
theorem qcond (x : Pled) (a b : ByteArray) : ((x.f0.f0.toList == a.toList && (x.f0.f1.toList == b.toList)) = true) ↔ (x.f0.f0 = a ∧ x.f0.f1 = b) := by
 simp only [Bool.and_eq_true, beq_iff_eq, tl_iff]
theorem Qgi (q : PK) (x : Pled) (t : List Pled) : midP q (x :: t) = if pkey x = q then x :: midP q t else midP q t := by
 unfold midP
 by_cases h : pkey x = q <;> simp [List.filter_cons, h]
theorem Qew (q : PK) (x : Pled) (t : List Pled) : hadP q (x :: t) = if pkey x = q then x.f2 else hadP q t := by
 unfold hadP
 rw [Qgi]
 by_cases h : pkey x = q <;> simp [h]
theorem Qgo (q : PK) (l : List Pled) (hl : l.length ≤ 1073741824) : ∀ n i k : Nat, i + n = l.length → n + 1 ≤ k → Qbl.l0 k q.2.2 l (l.length : Int) (i : Int) q.1 q.2.1 = some (hadP q (l.drop i)) := by
 intro n
 induction n with
 | zero =>
  intro i k hi hk
  obtain ⟨k, rfl⟩ : ∃ m, k = m + 1 := ⟨k - 1, by omega⟩
  rw [Qbl.l0, if_neg (by omega), List.drop_eq_nil_of_le (by omega)]
  rfl
 | succ n ih =>
  intro i k hi hk
  obtain ⟨k, rfl⟩ : ∃ m, k = m + 1 := ⟨k - 1, by omega⟩
  have hlt : i < l.length := by omega
  rw [Qbl.l0, if_pos (by omega), if_pos (by omega), if_pos (by omega), nwrap (by omega) (by omega), show ((i : Int) + 1) = ((i + 1 : Nat) : Int) by omega, ih (i + 1) k (by omega) (by omega), Qce l i hlt, Qew]
  simp only [qcond, tl_iff]
  have hke : pkey (rd_T46 l (i : Int)) = q ↔ ((rd_T46 l (i : Int)).f0.f0 = q.1 ∧ (rd_T46 l (i : Int)).f0.f1 = q.2.1) ∧ (rd_T46 l (i : Int)).f1 = q.2.2 := QeY _ (plOf q 0)
  by_cases h1 : (rd_T46 l (i : Int)).f0.f0 = q.1 ∧ (rd_T46 l (i : Int)).f0.f1 = q.2.1
  ·by_cases h2 : (rd_T46 l (i : Int)).f1 = q.2.2
   ·rw [if_pos h1, if_pos h2, if_pos (hke.2 ⟨h1, h2⟩)]
   rw [if_pos h1, if_neg h2, if_neg (fun z => h2 (hke.1 z).2)]
  rw [if_neg h1, if_neg (fun z => h1 (hke.1 z).1)]
theorem Qg5 (q : PK) (l : List Pled) (hl : l.length ≤ 1073741824) (k : Nat) (hk : l.length + 1 ≤ k) : Qbl.f k l q.1 q.2.1 q.2.2 = some (hadP q l) := by
 unfold Qbl.f
 rw [show (0 : Int) = ((0 : Nat) : Int) from rfl, Qgo q l hl l.length 0 k (by omega) hk, List.drop_zero]
theorem QfS (q : PK) (l : List Pled) (hl : l.length ≤ 1073741824) : ∀ n i k : Nat, i + n = l.length → n + 1 ≤ k → Qa1.l0 k l q.2.2 (i : Int) q.1 q.2.1 = some (hadP q (l.drop i)) := by
 intro n
 induction n with
 | zero =>
  intro i k hi hk
  obtain ⟨k, rfl⟩ : ∃ m, k = m + 1 := ⟨k - 1, by omega⟩
  rw [Qa1.l0, if_neg (by omega), List.drop_eq_nil_of_le (by omega)]
  rfl
 | succ n ih =>
  intro i k hi hk
  obtain ⟨k, rfl⟩ : ∃ m, k = m + 1 := ⟨k - 1, by omega⟩
  have hlt : i < l.length := by omega
  rw [Qa1.l0, if_pos (by omega), if_pos (by omega), nwrap (by omega) (by omega), show ((i : Int) + 1) = ((i + 1 : Nat) : Int) by omega, ih (i + 1) k (by omega) (by omega), Qce l i hlt, Qew]
  simp only [qcond, tl_iff]
  have hke : pkey (rd_T46 l (i : Int)) = q ↔ ((rd_T46 l (i : Int)).f0.f0 = q.1 ∧ (rd_T46 l (i : Int)).f0.f1 = q.2.1) ∧ (rd_T46 l (i : Int)).f1 = q.2.2 := QeY _ (plOf q 0)
  by_cases h1 : (rd_T46 l (i : Int)).f0.f0 = q.1 ∧ (rd_T46 l (i : Int)).f0.f1 = q.2.1
  ·by_cases h2 : (rd_T46 l (i : Int)).f1 = q.2.2
   ·rw [if_pos h1, if_pos h2, if_pos (hke.2 ⟨h1, h2⟩)]
   rw [if_pos h1, if_neg h2, if_neg (fun z => h2 (hke.1 z).2)]
  rw [if_neg h1, if_neg (fun z => h1 (hke.1 z).1)]
theorem Qgl (q : PK) (l : List Pled) (hl : l.length ≤ 1073741824) (k : Nat) (hk : l.length + 1 ≤ k) : Qa1.f k l q.1 q.2.1 q.2.2 = some (hadP q l) := by
 unfold Qa1.f
 rw [show (0 : Int) = ((0 : Nat) : Int) from rfl, QfS q l hl l.length 0 k (by omega) hk, List.drop_zero]
end Go.Proofs.Ytfcaaefdmabkhaa.Pr
