/- Pledges: their order, what Check answers, where a pledge stands, what a list with a pledge is. -/
import Derived.Test.YtfcaaefdmabkhaaQ78ALmBytes
import Derived.Test.YtfcaaefdmabkhaaQ78ALmName
import Derived.Test.YtfcaaefdmabkhaaQ78AP0
import Derived.Test.YtfcaaefdmabkhaaQ78AP2
import Derived.Test.YtfcaaefdmabkhaaQ78AP3
import Derived.Test.YtfcaaefdmabkhaaQ78AP7
import Derived.Test.YtfcaaefdmabkhaaQ78AP1
import Derived.Test.YtfcaaefdmabkhaaQ78AP6
namespace Go.Proofs.Ytfcaaefdmabkhaa.Pr
open Go.RowKit Go.Proofs.Ytfcaaefdmabkhaa.Pr Go.Proofs.YtfcaaefdmabkhaaW.PrintWords Go.Proofs.YtfcaaefdmabkhaaW.PrintLast Go.Proofs.YtfcaaefdmabkhaaW.PrintMore
set_option linter.unusedVariables false
set_option linter.unusedSimpArgs false
abbrev Pled := S46
abbrev PK := ByteArray × ByteArray × ByteArray
def pkey (p : Pled) : PK := (p.f0.f0, p.f0.f1, p.f1)
def klt (a b : PK) : Bool :=
 if a.1 = b.1 then if a.2.1 = b.2.1 then Op.bytesLess a.2.2.toList b.2.2.toList else Op.bytesLess a.2.1.toList b.2.1.toList else Op.bytesLess a.1.toList b.1.toList
theorem QdZ {a b : ByteArray} (h : Op.bytesLess a.toList b.toList = true) : a ≠ b := fun e => by rw [e, Qce] at h; cases h
theorem QbX (a : PK) : klt a a = false := by simp [klt, Qce]
theorem Qb6 (a b c : PK) (h1 : klt a b = true) (h2 : klt b c = true) : klt a c = true := by
 obtain ⟨a1, a2, a3⟩ := a
 obtain ⟨b1, b2, b3⟩ := b
 obtain ⟨c1, c2, c3⟩ := c
 unfold klt at *
 simp only at *
 by_cases e1 : a1 = b1
 ·subst e1
  rw [if_pos rfl] at h1
  by_cases e2 : a1 = c1
  ·subst e2
   rw [if_pos rfl] at h2 ⊢
   by_cases f1 : a2 = b2
   ·subst f1
    rw [if_pos rfl] at h1
    by_cases f2 : a2 = c2
    ·subst f2
     rw [if_pos rfl] at h2 ⊢
     exact QcD _ _ _ h1 h2
    rw [if_neg f2] at h2 ⊢
    exact h2
   rw [if_neg f1] at h1
   by_cases f2 : b2 = c2
   ·subst f2
    rw [if_neg f1]
    exact h1
   rw [if_neg f2] at h2
   have h3 := QcD _ _ _ h1 h2
   rw [if_neg (QdZ h3)]
   exact h3
  rw [if_neg e2] at h2 ⊢
  exact h2
 rw [if_neg e1] at h1
 by_cases e2 : b1 = c1
 ·subst e2
  rw [if_neg e1]
  exact h1
 rw [if_neg e2] at h2
 have h3 := QcD _ _ _ h1 h2
 rw [if_neg (QdZ h3)]
 exact h3
theorem Qdz (a b : PK) (h : klt a b = false) (n : a ≠ b) : klt b a = true := by
 obtain ⟨a1, a2, a3⟩ := a
 obtain ⟨b1, b2, b3⟩ := b
 unfold klt at *
 simp only at *
 have tl : ∀ x y : ByteArray, x ≠ y → x.toList ≠ y.toList := fun x y n e => n (QdJ e)
 by_cases e1 : a1 = b1
 ·subst e1
  rw [if_pos rfl] at h ⊢
  by_cases f1 : a2 = b2
  ·subst f1
   rw [if_pos rfl] at h ⊢
   exact bl_tri _ _ h (tl _ _ (fun e => n (by rw [e])))
  rw [if_neg f1] at h
  rw [if_neg (fun e => f1 e.symm)]
  exact bl_tri _ _ h (tl _ _ f1)
 rw [if_neg e1] at h
 rw [if_neg (fun e => e1 e.symm)]
 exact bl_tri _ _ h (tl _ _ e1)
theorem Qcr (a b : PK) (h : klt a b = true) : klt b a = false := by
 cases h2 : klt b a with
 | false => rfl
 | true => have := Qb6 _ _ _ h h2; rw [QbX] at this; cases this
theorem klt_ne {a b : PK} (h : klt a b = true) : a ≠ b := fun e => by rw [e, QbX] at h; cases h
def cmpK (a b : PK) : Int := if a = b then 0 else if klt a b = true then -1 else 1
theorem QcB (a b : Pled) : Qbl.f a.f0.f0 a.f0.f1 a.f1 a.f2 b.f0.f0 b.f0.f1 b.f1 b.f2 = some (cmpK (pkey a) (pkey b)) := by
 unfold Qbl.f Qbd.f Qbq.f cmpK klt pkey
 simp only [tl_iff, Prod.mk.injEq]
 by_cases e1 : a.f0.f0 = b.f0.f0
 ·by_cases e2 : a.f0.f1 = b.f0.f1
  ·by_cases e3 : a.f1 = b.f1
   ·simp [e1, e2, e3, Qce]
   cases h : Op.bytesLess a.f1.toList b.f1.toList <;> simp [e1, e2, e3, Qce, h]
  cases h : Op.bytesLess a.f0.f1.toList b.f0.f1.toList <;> simp [e1, e2, Qce, h]
 cases h : Op.bytesLess a.f0.f0.toList b.f0.f0.toList <;> simp [e1, Qce, h]
theorem QdX (a b : Pled) : Qbk.f a.f0.f0 a.f0.f1 a.f1 a.f2 b.f0.f0 b.f0.f1 b.f1 b.f2 = some (klt (pkey a) (pkey b)) := by
 unfold Qbk.f klt pkey
 simp only [tl_iff]
 (repeat' split) <;> rfl
theorem Qb8 (l : List Pled) (i : Nat) (h : i < l.length) : l.drop i = rd_T46 l (i : Int) :: l.drop (i + 1) := by
 rw [List.drop_eq_getElem_cons h]
 unfold rd_T46
 rw [Int.toNat_natCast, List.getD_eq_getElem?_getD, List.getElem?_eq_getElem h]
 rfl
theorem pl_rd (l : List Pled) (i : Nat) (h : i < l.length) : rd_T46 l (i : Int) = l[i] := by
 unfold rd_T46
 rw [Int.toNat_natCast, List.getD_eq_getElem?_getD, List.getElem?_eq_getElem h]
 rfl
def okName (p : Pled) : Bool := nameOk p.f0.f0 && (nameOk p.f0.f1 && nameOk p.f1)
def okQty (n : Int) : Bool := decide (1 ≤ n) && decide (n ≤ 1152921504606846976)
theorem Qep (n : Int) : QbF.f n = some (okQty n) := by
 unfold QbF.f okQty
 split
 ·rename_i h; simp [show 1 ≤ n from h]
 rename_i h; simp [show ¬ 1 ≤ n from h]
theorem may_eq (n : Int) : Qbn.f n = some (okQty n) := by
 unfold Qbn.f okQty
 split
 ·rename_i h; simp [show 1 ≤ n from h]
 rename_i h; simp [show ¬ 1 ≤ n from h]
def Qb2 (q : Option PK) (s : PK) : Bool := match q with | some r => !klt r s | none => false
def chkLP : Option PK → List Pled → Int
 | _, [] => 0
 | q, p :: t => if okName p = true then if Qb2 q (pkey p) = true then 12 else if okQty p.f2 = true then chkLP (some (pkey p)) t else 18 else 10
theorem QcE (q : Option PK) (p : Pled) (t : List Pled) : chkLP q (p :: t) = if okName p = true then if Qb2 q (pkey p) = true then 12 else if okQty p.f2 = true then chkLP (some (pkey p)) t else 18 else 10 := by
 cases q <;> rfl
def chkP (l : List Pled) : Int := if (l.length : Int) > 1024 then 8 else chkLP none l
def prevK (l : List Pled) : Nat → Option PK
 | 0 => none
 | i + 1 => some (pkey (rd_T46 l (i : Int)))
theorem QeH (l : List ByteArray) (hl : l.length ≤ 1000) : ∀ n i k : Nat, i + n = l.length → n + 20 ≤ k → Qa2.l0 k l (l.length : Int) (i : Int) = some ((l.drop i).all nameOk) := by
 intro n
 induction n with
 | zero =>
  intro i k hi hk
  obtain ⟨k, rfl⟩ : ∃ m, k = m + 1 := ⟨k - 1, by omega⟩
  rw [Qa2.l0, if_neg (by omega), List.drop_eq_nil_of_le (by omega)]
  rfl
 | succ n ih =>
  intro i k hi hk
  obtain ⟨k, rfl⟩ : ∃ m, k = m + 1 := ⟨k - 1, by omega⟩
  have hlt : i < l.length := by omega
  have e : rdOf ByteArray.empty l (i : Int) = l[i] := by
   unfold rdOf
   rw [Int.toNat_natCast, List.getD_eq_getElem?_getD, List.getElem?_eq_getElem hlt]
   rfl
  rw [Qa2.l0, if_pos (by omega), if_pos (by omega), if_pos (by omega), QdB _ k (by omega), Option.bind_some, nwrap (by omega) (by omega), show ((i : Int) + 1) = ((i + 1 : Nat) : Int) by omega, ih (i + 1) k (by omega) (by omega), List.drop_eq_getElem_cons hlt, List.all_cons, e]
  cases nameOk l[i] <;> simp
theorem Qfc (l : List ByteArray) (hl : l.length ≤ 1000) (k : Nat) (hk : l.length + 20 ≤ k) : Qa2.f k l = some (l.all nameOk) := by
 unfold Qa2.f
 rw [show (0 : Int) = ((0 : Nat) : Int) from rfl, QeH l hl l.length 0 k (by omega) hk, List.drop_zero]
theorem Qek (a b : PK) : (cmpK a b ≥ 0) ↔ klt a b = false := by
 unfold cmpK
 by_cases e : a = b
 ·rw [if_pos e, e, QbX]; simp
 rw [if_neg e]
 cases h : klt a b <;> simp
theorem Qel (a b : PK) : (cmpK a b < 0) ↔ klt a b = true := by
 unfold cmpK
 by_cases e : a = b
 ·rw [if_pos e, e, QbX]; simp
 rw [if_neg e]
 cases h : klt a b <;> simp
theorem QfW (a b : PK) : (cmpK a b = 0) ↔ a = b := by
 unfold cmpK
 by_cases e : a = b
 ·simp [e]
 rw [if_neg e]
 split <;> simp [e]
theorem Qfb (l : List Pled) (hl : l.length ≤ 1024) : ∀ n i k : Nat, i + n = l.length → 2 * n + 30 ≤ k → QaA.l0 k l l (l.length : Int) (i : Int) = some (chkLP (prevK l i) (l.drop i)) := by
 intro n
 induction n with
 | zero =>
  intro i k hi hk
  obtain ⟨k, rfl⟩ : ∃ m, k = m + 1 := ⟨k - 1, by omega⟩
  rw [QaA.l0, if_neg (by omega), List.drop_eq_nil_of_le (by omega), chkLP]
 | succ n ih =>
  intro i k hi hk
  obtain ⟨k, rfl⟩ : ∃ m, k = m + 2 := ⟨k - 2, by omega⟩
  have hlt : i < l.length := by omega
  have IH := ih (i + 1) k (by omega) (by omega)
  have tail : ∀ b : Bool, QaA.j1 (k + 1) l l (l.length : Int) (i : Int) b (rd_T46 l i).f0.f0 (rd_T46 l i).f0.f1 (rd_T46 l i).f1 (rd_T46 l i).f2 = some (if b = true then 12 else if okQty (rd_T46 l i).f2 = true then chkLP (prevK l (i + 1)) (l.drop (i + 1)) else 18) := by
   intro b
   rw [QaA.j1, Qep, Option.bind_some, nwrap (by omega) (by omega), show ((i : Int) + 1) = ((i + 1 : Nat) : Int) by omega, IH]
   cases b <;> cases okQty (rd_T46 l i).f2 <;> simp
  rw [QaA.l0, if_pos (by omega), if_pos (by omega), if_pos (by omega), Qb8 l i hlt, QcE, Qfc _ (by simp) _ (by simp; omega), Option.bind_some]
  have e0 : [(rd_T46 l i).f0.f0, (rd_T46 l i).f0.f1, (rd_T46 l i).f1].all nameOk = okName (rd_T46 l i) := by simp [okName]
  rw [e0]
  cases hn : okName (rd_T46 l i) with
  | false => simp
  | true =>
   simp only [if_true]
   cases i with
   | zero =>
    rw [if_neg (by omega)]
    exact tail false
   | succ j =>
    have e : wrap64 (((j + 1 : Nat) : Int) - 1) = (j : Int) := by rw [nwrap (by omega) (by omega)]; omega
    rw [if_pos (by omega), e, if_pos (by omega), if_pos (by omega), QcB, Option.bind_some, tail]
    have : decide (cmpK (pkey (rd_T46 l (j : Int))) (pkey (rd_T46 l ((j + 1 : Nat) : Int))) ≥ 0) = Qb2 (prevK l (j + 1)) (pkey (rd_T46 l ((j + 1 : Nat) : Int))) := by
     unfold prevK Qb2
     cases h : klt (pkey (rd_T46 l (j : Int))) (pkey (rd_T46 l ((j + 1 : Nat) : Int))) with
     | false => simp only [decide_eq_true_eq, h, Bool.not_false, Qek, decide_true]
     | true => simp only [h, Bool.not_true, Qek]; decide
    rw [this]
    rfl
theorem Qcv (l : List Pled) (k : Nat) (hk : 2078 ≤ k) : QaA.f k l = some (chkP l) := by
 unfold QaA.f chkP
 split
 ·rfl
 exact Qfb l (by omega) l.length 0 k (by omega) (by omega)
def szP (p : Pled) : Nat := p.f0.f0.size + p.f0.f1.size + p.f1.size
def szsP : List Pled → Nat
 | [] => 0
 | p :: t => szP p + szsP t
theorem Qev : ∀ {l : List Pled} {p : Pled}, p ∈ l → szP p ≤ szsP l
 | q :: t, p, h => by
  rcases List.mem_cons.1 h with rfl | h
  ·unfold szsP; omega
  have := Qev h
  unfold szsP; omega
def bigOk (p : Pled) : Prop := p.f0.f0.size ≤ 9223372036854775807 ∧ p.f0.f1.size ≤ 9223372036854775807 ∧ p.f1.size ≤ 9223372036854775807
theorem Qfh (a b : ByteArray) (ha : a.size ≤ 9223372036854775807) (hb : b.size ≤ 9223372036854775807) (k : Nat) (hk : a.size + b.size + 1 ≤ k) : Qa5.f k a b = some (nameOk a && nameOk b) := by
 unfold Qa5.f
 rw [Qdg a ha k (by omega), Qdg b hb k (by omega), Option.bind_some]
 cases nameOk a <;> simp
theorem QeL (l : List Pled) (hl : l.length ≤ 1024) (hb : ∀ p ∈ l, bigOk p) : ∀ n i k : Nat, i + n = l.length → 3 * n + szsP l + 30 ≤ k → Qas.l0 k l (i : Int) = some (chkLP (prevK l i) (l.drop i)) := by
 intro n
 induction n with
 | zero =>
  intro i k hi hk
  obtain ⟨k, rfl⟩ : ∃ m, k = m + 1 := ⟨k - 1, by omega⟩
  rw [Qas.l0, if_neg (by omega), List.drop_eq_nil_of_le (by omega), chkLP]
 | succ n ih =>
  intro i k hi hk
  obtain ⟨k, rfl⟩ : ∃ m, k = m + 3 := ⟨k - 3, by omega⟩
  have hlt : i < l.length := by omega
  have IH := ih (i + 1) k (by omega) (by omega)
  have hm : rd_T46 l (i : Int) ∈ l := by rw [pl_rd l i hlt]; exact List.getElem_mem _
  have hz := Qev hm
  have hbg := hb _ hm
  unfold szP at hz
  have tail2 : ∀ b : Bool, Qas.j2 (k + 1) l (i : Int) b = some (if b = true then 12 else if okQty (rd_T46 l i).f2 = true then chkLP (prevK l (i + 1)) (l.drop (i + 1)) else 18) := by
   intro b
   rw [Qas.j2, if_pos (show (0 : Int) ≤ (i : Int) by omega), if_pos (show (i : Int) < (l.length : Int) by omega), may_eq, Option.bind_some, nwrap (by omega) (by omega), show ((i : Int) + 1) = ((i + 1 : Nat) : Int) by omega, IH]
   cases b <;> cases okQty (rd_T46 l i).f2 <;> simp
  have tail1 : ∀ b : Bool, Qas.j1 (k + 2) l (i : Int) b = some (if b = true then 10 else if Qb2 (prevK l i) (pkey (rd_T46 l i)) = true then 12 else if okQty (rd_T46 l i).f2 = true then chkLP (prevK l (i + 1)) (l.drop (i + 1)) else 18) := by
   intro b
   rw [Qas.j1]
   cases b with
   | true => simp
   | false =>
    rw [if_neg (by simp)]
    cases i with
    | zero =>
     rw [if_neg (by omega), tail2 false]
     rfl
    | succ j =>
     have e : wrap64 (((j + 1 : Nat) : Int) - 1) = (j : Int) := by rw [nwrap (by omega) (by omega)]; omega
     rw [if_pos (by omega), e, if_pos (by omega), if_pos (by omega), if_pos (by omega), if_pos (by omega), QdX, Option.bind_some, tail2]
     rfl
  rw [Qas.l0, if_pos (by omega), if_pos (by omega), Qb8 l i hlt, QcE, Qfh _ _ hbg.1 hbg.2.1 _ (by omega), Option.bind_some, Qdg _ hbg.2.2 _ (by omega), Option.bind_some]
  rw [show okName (rd_T46 l i) = ((nameOk (rd_T46 l i).f0.f0 && nameOk (rd_T46 l i).f0.f1) && nameOk (rd_T46 l i).f1) by unfold okName; rw [Bool.and_assoc]]
  cases (nameOk (rd_T46 l i).f0.f0 && nameOk (rd_T46 l i).f0.f1) with
  | false => rw [if_neg (by simp), tail1 true]; simp
  | true =>
   rw [if_pos rfl, tail1]
   cases nameOk (rd_T46 l i).f1 <;> simp [prevK]
theorem QeK (l : List Pled) (hb : ∀ p ∈ l, bigOk p) (k : Nat) (hk : szsP l + 3102 ≤ k) : Qas.f k l = some (chkP l) := by
 unfold Qas.f chkP
 split
 ·rfl
 exact QeL l (by omega) hb l.length 0 k (by omega) (by omega)
def Qbu (l : List Pled) : Prop := l.Pairwise (fun a b => klt (pkey a) (pkey b) = true)
def loP (q : PK) (l : List Pled) : List Pled := l.filter (fun p => klt (pkey p) q)
def midP (q : PK) (l : List Pled) : List Pled := l.filter (fun p => decide (pkey p = q))
def hiP (q : PK) (l : List Pled) : List Pled := l.filter (fun p => klt q (pkey p))
theorem lo_nil (q : PK) (l : List Pled) (h : ∀ p ∈ l, klt q (pkey p) = true) : loP q l = [] := by
 refine List.filter_eq_nil_iff.2 fun p hp => ?_
 rw [Qcr _ _ (h p hp)]; simp
theorem QdA (q : PK) (l : List Pled) (h : ∀ p ∈ l, klt q (pkey p) = true) : midP q l = [] := by
 refine List.filter_eq_nil_iff.2 fun p hp => ?_
 have := klt_ne (h p hp)
 exact fun z => this (of_decide_eq_true z).symm
theorem hi_all (q : PK) (l : List Pled) (h : ∀ p ∈ l, klt q (pkey p) = true) : hiP q l = l := List.filter_eq_self.2 h
theorem split3 (q : PK) : ∀ l : List Pled, Qbu l → l = loP q l ++ (midP q l ++ hiP q l)
 | [], _ => rfl
 | p :: t, h => by
  have ht : Qbu t := (List.pairwise_cons.1 h).2
  have hp : ∀ x ∈ t, klt (pkey p) (pkey x) = true := (List.pairwise_cons.1 h).1
  have ih := split3 q t ht
  cases h1 : klt (pkey p) q with
  | true =>
   have e1 : loP q (p :: t) = p :: loP q t := by simp [loP, List.filter_cons, h1]
   have e2 : midP q (p :: t) = midP q t := by unfold midP; rw [List.filter_cons_of_neg]; simp [klt_ne h1]
   have e3 : hiP q (p :: t) = hiP q t := by unfold hiP; rw [List.filter_cons_of_neg]; rw [Qcr _ _ h1]; simp
   rw [e1, e2, e3, List.cons_append, ← ih]
  | false =>
   have e1 : loP q (p :: t) = loP q t := by unfold loP; rw [List.filter_cons_of_neg]; rw [h1]; simp
   by_cases h2 : pkey p = q
   ·have hq : ∀ x ∈ t, klt q (pkey x) = true := by rw [← h2]; exact hp
    have e2 : midP q (p :: t) = p :: midP q t := by unfold midP; rw [List.filter_cons_of_pos]; simp [h2]
    have e3 : hiP q (p :: t) = hiP q t := by unfold hiP; rw [List.filter_cons_of_neg]; rw [h2, QbX]; simp
    rw [e1, e2, e3, lo_nil q t hq, QdA q t hq, hi_all q t hq]; rfl
   have h3 := Qdz _ _ h1 h2
   have hq : ∀ x ∈ p :: t, klt q (pkey x) = true := by
    intro x hx
    rcases List.mem_cons.1 hx with rfl | hx
    ·exact h3
    exact Qb6 _ _ _ h3 (hp x hx)
   rw [lo_nil q _ hq, QdA q _ hq, hi_all q _ hq]; rfl
theorem QcN (q : PK) : ∀ l : List Pled, Qbu l → midP q l = [] ∨ ∃ x, midP q l = [x] ∧ pkey x = q
 | [], _ => Or.inl rfl
 | p :: t, h => by
  have ht : Qbu t := (List.pairwise_cons.1 h).2
  have hp : ∀ x ∈ t, klt (pkey p) (pkey x) = true := (List.pairwise_cons.1 h).1
  by_cases h2 : pkey p = q
  ·have hq : ∀ x ∈ t, klt q (pkey x) = true := by rw [← h2]; exact hp
   have e2 : midP q (p :: t) = p :: midP q t := by unfold midP; rw [List.filter_cons_of_pos]; simp [h2]
   exact Or.inr ⟨p, by rw [e2, QdA q t hq], h2⟩
  have e2 : midP q (p :: t) = midP q t := by unfold midP; rw [List.filter_cons_of_neg]; simp [h2]
  rw [e2]
  exact QcN q t ht
theorem lo_lt {q : PK} {l : List Pled} {x : Pled} (h : x ∈ loP q l) : klt (pkey x) q = true := (List.mem_filter.1 h).2
theorem hi_gt {q : PK} {l : List Pled} {x : Pled} (h : x ∈ hiP q l) : klt q (pkey x) = true := (List.mem_filter.1 h).2
theorem mid_is {q : PK} {l : List Pled} {x : Pled} (h : x ∈ midP q l) : pkey x = q := of_decide_eq_true (List.mem_filter.1 h).2
theorem lt_at (q : PK) (l : List Pled) (h : Qbu l) (j : Nat) (hj : j < l.length) : klt (pkey l[j]) q = decide (j < (loP q l).length) := by
 have e := split3 q l h
 by_cases hlt : j < (loP q l).length
 ·have : l[j] = (loP q l)[j] := by
   have : l[j]? = (loP q l)[j]? := by
    conv => lhs; rw [e]
    rw [List.getElem?_append_left hlt]
   rw [List.getElem?_eq_getElem hj, List.getElem?_eq_getElem hlt] at this
   exact Option.some.inj this
  rw [this, lo_lt (List.getElem_mem hlt)]
  simp [hlt]
 have hm : l[j] ∈ midP q l ++ hiP q l := by
  have : l[j]? = (midP q l ++ hiP q l)[j - (loP q l).length]? := by
   conv => lhs; rw [e]
   rw [List.getElem?_append_right (by omega)]
  rw [List.getElem?_eq_getElem hj] at this
  exact List.mem_of_getElem? this.symm
 have hf : klt (pkey l[j]) q = false := by
  rcases List.mem_append.1 hm with h | h
  ·rw [mid_is h, QbX]
  exact Qcr _ _ (hi_gt h)
 rw [hf]
 simp [hlt]
theorem QeJ (q : PK) (n : Int) (l : List Pled) (h : Qbu l) (hl : l.length ≤ 1073741824) : ∀ d a b k : Nat, b - a = d → a ≤ (loP q l).length → (loP q l).length ≤ b → b ≤ l.length → d + 1 ≤ k →
  Qat.l0 k l (a : Int) (b : Int) q.1 q.2.1 q.2.2 n = some (((loP q l).length : Int), decide (midP q l ≠ [])) := by
 intro d
 induction d using Nat.strongRecOn with
 | ind d ih =>
  intro a b k hd ha hb hbl hk
  obtain ⟨k, rfl⟩ : ∃ m, k = m + 1 := ⟨k - 1, by omega⟩
  rw [Qat.l0]
  by_cases hab : a < b
  ·have hm : wrap64 (Int.tdiv (wrap64 ((a : Int) + (b : Int))) 2) = (((a + b) / 2 : Nat) : Int) := by
    rw [nwrap (x := (a : Int) + (b : Int)) (by omega) (by omega), Int.tdiv_eq_ediv_of_nonneg (by omega), nwrap (by omega) (by omega)]
    omega
   have hm1 : wrap64 ((((a + b) / 2 : Nat) : Int) + 1) = (((a + b) / 2 + 1 : Nat) : Int) := by
    rw [nwrap (by omega) (by omega)]; omega
   have hmid : (a + b) / 2 < l.length := by omega
   have hc := QcB (rd_T46 l (((a + b) / 2 : Nat) : Int)) ⟨⟨q.1, q.2.1⟩, q.2.2, n⟩
   have hlt := lt_at q l h _ hmid
   rw [← pl_rd l _ hmid] at hlt
   rw [if_pos (by omega), hm, if_pos (by omega), if_pos (by omega), hc, Option.bind_some, hm1]
   by_cases hx : (a + b) / 2 < (loP q l).length
   ·rw [if_pos ((Qel _ _).2 (by rw [show pkey (⟨⟨q.1, q.2.1⟩, q.2.2, n⟩ : Pled) = q from rfl, hlt]; simp [hx])), ih (b - ((a + b) / 2 + 1)) (by omega) _ _ k rfl (by omega) hb hbl (by omega)]
   rw [if_neg (fun z => by have := (Qel _ _).1 z; rw [show pkey (⟨⟨q.1, q.2.1⟩, q.2.2, n⟩ : Pled) = q from rfl, hlt] at this; simp [hx] at this), ih ((a + b) / 2 - a) (by omega) _ _ k rfl ha (by omega) (by omega) (by omega)]
  have ea : a = (loP q l).length := by omega
  rw [if_neg (by omega)]
  have e := split3 q l h
  have el : l.length = (loP q l).length + ((midP q l).length + (hiP q l).length) := by
   conv => lhs; rw [e]
   rw [List.length_append, List.length_append]
  by_cases hal : a < l.length
  ·have hc := QcB (rd_T46 l (a : Int)) ⟨⟨q.1, q.2.1⟩, q.2.2, n⟩
   rw [if_pos (by omega), if_pos (by omega), hc, Option.bind_some, ← ea]
   congr 2
   have hh : l[a]? = (midP q l ++ hiP q l)[0]? := by
    conv => lhs; rw [e]
    rw [List.getElem?_append_right (by omega), ea, Nat.sub_self]
   rw [List.getElem?_eq_getElem hal] at hh
   rw [pl_rd l a hal, show pkey (⟨⟨q.1, q.2.1⟩, q.2.2, n⟩ : Pled) = q from rfl]
   rcases QcN q l h with hm | ⟨x, hm, hx⟩
   ·rw [hm, List.nil_append] at hh
    have hg := hi_gt (List.mem_of_getElem? hh.symm)
    have hne : ¬ cmpK (pkey l[a]) q = 0 := fun z => klt_ne hg ((QfW _ _).1 z).symm
    simp [hm, hne]
   rw [hm, List.singleton_append, List.getElem?_cons_zero] at hh
   have : pkey l[a] = q := by rw [Option.some.inj hh]; exact hx
   simp [hm, this, cmpK]
  rw [if_neg (by omega), ← ea]
  have hm : midP q l = [] := by
   have : (midP q l).length = 0 := by omega
   exact List.length_eq_zero_iff.1 this
  simp [hm]
theorem Qfd (q : PK) (n : Int) (l : List Pled) (h : Qbu l) (hl : l.length ≤ 1073741824) (k : Nat) (hk : l.length + 1 ≤ k) :
  Qat.f k l q.1 q.2.1 q.2.2 n = some (((loP q l).length : Int), decide (midP q l ≠ [])) := by
 unfold Qat.f
 have e := split3 q l h
 have el : l.length = (loP q l).length + ((midP q l).length + (hiP q l).length) := by
  conv => lhs; rw [e]
  rw [List.length_append, List.length_append]
 exact QeJ q n l h hl l.length 0 l.length k (by omega) (by omega) (by omega) (by omega) hk
theorem Qeh (l p : List Pled) (a s : Nat) (hl : l.length ≤ 1073741824) (hp : p.length ≤ 1000) (h1 : a + s ≤ l.length) :
  Qbc.f l (a : Int) (s : Int) p = some (l.take a ++ p ++ l.drop (a + s)) := by
 unfold Qbc.f
 have e1 : wrap64 (wrap64 ((l.length : Int) + (p.length : Int)) - (s : Int)) = (l.length : Int) + (p.length : Int) - (s : Int) := by
  rw [nwrap (x := (l.length : Int) + (p.length : Int)) (by omega) (by omega), nwrap (by omega) (by omega)]
 have e2 : wrap64 ((a : Int) + (s : Int)) = ((a + s : Nat) : Int) := by rw [nwrap (by omega) (by omega)]; omega
 rw [e1, e2, if_pos (by omega), if_pos (by omega), Option.bind_some, if_pos (by omega), if_pos (by omega), Option.bind_some, if_pos (by simp; omega), Option.bind_some, if_pos (by simp; omega), Option.bind_some, if_pos (by omega), if_pos (by omega), Option.bind_some, if_pos (by simp [-List.length_take, -List.length_drop]; rw [List.length_take, List.length_drop]; omega)]
 simp only [List.nil_append, Int.toNat_natCast]
def hadP (q : PK) (l : List Pled) : Int := match midP q l with | [] => 0 | x :: _ => x.f2
def plOf (q : PK) (n : Int) : Pled := ⟨⟨q.1, q.2.1⟩, q.2.2, n⟩
def insP (q : PK) (n : Int) (l : List Pled) : List Pled := loP q l ++ ((if n = 0 then [] else [plOf q n]) ++ hiP q l)
theorem Qgk (q : PK) (l : List Pled) (h : Qbu l) : l.take (loP q l).length = loP q l := by
 exact (congrArg (List.take (loP q l).length) (split3 q l h)).trans (List.take_left' rfl)
theorem Qf0 (q : PK) (l : List Pled) (h : Qbu l) : l.drop (loP q l).length = midP q l ++ hiP q l := by
 exact (congrArg (List.drop (loP q l).length) (split3 q l h)).trans (List.drop_left' rfl)
def rwl (p : Pled) : Bool → List Pled → List Pled
 | i, [] => if i = true then [] else [p]
 | i, x :: t => (if i = true ∨ klt (pkey x) (pkey p) = true then [] else [p]) ++ ((if pkey x = pkey p then [] else [x]) ++ rwl p (i || !klt (pkey x) (pkey p)) t)
theorem Qdh (p : Pled) (i : Bool) (x : Pled) (t : List Pled) : rwl p i (x :: t) = (if i = true ∨ klt (pkey x) (pkey p) = true then [] else [p]) ++ ((if pkey x = pkey p then [] else [x]) ++ rwl p (i || !klt (pkey x) (pkey p)) t) := by cases i <;> rfl
theorem QcX (x p : Pled) : ((!(x.f0.f0.toList == p.f0.f0.toList) || (!(x.f0.f1.toList == p.f0.f1.toList))) = true) ↔ ¬ (x.f0.f0 = p.f0.f0 ∧ x.f0.f1 = p.f0.f1) := by
 simp only [Bool.or_eq_true, Bool.not_eq_true', beq_eq_false_iff_ne, ne_eq, tl_iff]
 by_cases h1 : x.f0.f0 = p.f0.f0 <;> by_cases h2 : x.f0.f1 = p.f0.f1 <;> simp [h1, h2]
theorem Qb7 (x p : Pled) : pkey x = pkey p ↔ (x.f0.f0 = p.f0.f0 ∧ x.f0.f1 = p.f0.f1) ∧ x.f1 = p.f1 := by
 unfold pkey
 simp only [Prod.mk.injEq, and_assoc]
theorem QeR (p : Pled) (l : List Pled) (hl : l.length ≤ 1073741824) : ∀ n i k : Nat, i + n = l.length → 2 * n + 1 ≤ k → ∀ (b : Bool) (out : List Pled), out.length ≤ 2 * i → Qan.l0 k l out b (i : Int) p.f0.f0 p.f0.f1 p.f1 p.f2 = some (out ++ rwl p b (l.drop i)) := by
 intro n
 induction n with
 | zero =>
  intro i k hi hk b out ho
  obtain ⟨k, rfl⟩ : ∃ m, k = m + 1 := ⟨k - 1, by omega⟩
  rw [Qan.l0, if_neg (by omega), List.drop_eq_nil_of_le (by omega), rwl]
  cases b with
  | true => simp
  | false => simp; omega
 | succ n ih =>
  intro i k hi hk b out ho
  obtain ⟨k, rfl⟩ : ∃ m, k = m + 2 := ⟨k - 2, by omega⟩
  have hlt : i < l.length := by omega
  have IH := ih (i + 1) k (by omega) (by omega)
  have tail : ∀ (c : Bool), Qan.j1 (k + 1) l out b (i : Int) c p.f0.f0 p.f0.f1 p.f1 p.f2 = some (out ++ ((if c = true then [p] else []) ++ ((if pkey (rd_T46 l (i : Int)) = pkey p then [] else [rd_T46 l (i : Int)]) ++ rwl p (b || c) (l.drop (i + 1))))) := by
   intro c
   rw [Qan.j1, nwrap (by omega) (by omega), show ((i : Int) + 1) = ((i + 1 : Nat) : Int) by omega]
   cases c with
   | true =>
    rw [if_pos rfl, if_pos (by omega), Option.bind_some, if_pos (by omega), if_pos (by omega), Bool.or_true]
    by_cases hk1 : (rd_T46 l (i : Int)).f0.f0 = p.f0.f0 ∧ (rd_T46 l (i : Int)).f0.f1 = p.f0.f1
    ·rw [if_neg (fun z => (QcX _ _).1 z hk1)]
     by_cases hk2 : (rd_T46 l (i : Int)).f1 = p.f1
     ·rw [if_pos ((tl_iff _ _).2 hk2), IH _ _ (by simp; omega), if_pos ((Qb7 _ _).2 ⟨hk1, hk2⟩)]
      simp only [if_true, List.append_assoc, List.nil_append]
     rw [if_neg (fun z => hk2 ((tl_iff _ _).1 z)), if_pos (by simp; omega), IH _ _ (by simp; omega), if_neg (fun z => hk2 ((Qb7 _ _).1 z).2)]
     simp only [if_true, List.append_assoc]
    rw [if_pos ((QcX _ _).2 hk1), if_pos (by simp; omega), IH _ _ (by simp; omega), if_neg (fun z => hk1 ((Qb7 _ _).1 z).1)]
    simp only [if_true, List.append_assoc]
   | false =>
    rw [if_neg (by simp), if_pos (by omega), if_pos (by omega), Bool.or_false]
    by_cases hk1 : (rd_T46 l (i : Int)).f0.f0 = p.f0.f0 ∧ (rd_T46 l (i : Int)).f0.f1 = p.f0.f1
    ·rw [if_neg (fun z => (QcX _ _).1 z hk1)]
     by_cases hk2 : (rd_T46 l (i : Int)).f1 = p.f1
     ·rw [if_pos ((tl_iff _ _).2 hk2), IH _ _ (by omega), if_pos ((Qb7 _ _).2 ⟨hk1, hk2⟩)]
      simp only [Bool.false_eq_true, if_false, List.nil_append]
     rw [if_neg (fun z => hk2 ((tl_iff _ _).1 z)), if_pos (by omega), IH _ _ (by simp; omega), if_neg (fun z => hk2 ((Qb7 _ _).1 z).2)]
     simp only [Bool.false_eq_true, if_false, List.nil_append, List.append_assoc]
    rw [if_pos ((QcX _ _).2 hk1), if_pos (by omega), IH _ _ (by simp; omega), if_neg (fun z => hk1 ((Qb7 _ _).1 z).1)]
    simp only [Bool.false_eq_true, if_false, List.nil_append, List.append_assoc]
  rw [Qan.l0, if_pos (by omega), Qb8 l i hlt, Qdh]
  cases b with
  | true => rw [if_pos rfl, tail false]; simp
  | false =>
   rw [if_neg (by simp), if_pos (by omega), QdX, Option.bind_some, tail]
   cases klt (pkey (rd_T46 l (i : Int))) (pkey p) <;> simp
theorem Qdi (p : Pled) : ∀ l : List Pled, Qbu l → rwl p true l = loP (pkey p) l ++ hiP (pkey p) l
 | [], _ => rfl
 | x :: t, h => by
  have ht : Qbu t := (List.pairwise_cons.1 h).2
  have hp : ∀ y ∈ t, klt (pkey x) (pkey y) = true := (List.pairwise_cons.1 h).1
  rw [Qdh, Bool.true_or, Qdi p t ht]
  unfold loP hiP
  cases h1 : klt (pkey x) (pkey p) with
  | true => simp [List.filter_cons, h1, Qcr _ _ h1, klt_ne h1]
  | false =>
   by_cases h2 : pkey x = pkey p
   ·simp [List.filter_cons, h2, QbX]
   have h3 := Qdz _ _ h1 h2
   have hq : ∀ y ∈ t, klt (pkey p) (pkey y) = true := fun y hy => Qb6 _ _ _ h3 (hp y hy)
   have := lo_nil _ t hq
   unfold loP at this
   simp [List.filter_cons, h1, h2, h3, this]
theorem QdS (p : Pled) : ∀ l : List Pled, Qbu l → rwl p false l = loP (pkey p) l ++ ([p] ++ hiP (pkey p) l)
 | [], _ => rfl
 | x :: t, h => by
  have ht : Qbu t := (List.pairwise_cons.1 h).2
  have hp : ∀ y ∈ t, klt (pkey x) (pkey y) = true := (List.pairwise_cons.1 h).1
  rw [Qdh, Bool.false_or]
  cases h1 : klt (pkey x) (pkey p) with
  | true =>
   rw [Bool.not_true, QdS p t ht]
   unfold loP hiP
   simp [List.filter_cons, h1, Qcr _ _ h1, klt_ne h1]
  | false =>
   rw [Bool.not_false, Qdi p t ht]
   unfold loP hiP
   by_cases h2 : pkey x = pkey p
   ·have hq : ∀ y ∈ t, klt (pkey p) (pkey y) = true := by rw [← h2]; exact hp
    have := lo_nil _ t hq
    unfold loP at this
    simp [List.filter_cons, h2, QbX, this]
   have h3 := Qdz _ _ h1 h2
   have hq : ∀ y ∈ t, klt (pkey p) (pkey y) = true := fun y hy => Qb6 _ _ _ h3 (hp y hy)
   have := lo_nil _ t hq
   unfold loP at this
   simp [List.filter_cons, h1, h2, h3, this]
theorem Qff (q : PK) (n : Int) (l : List Pled) (h : Qbu l) (hl : l.length ≤ 1073741824) (k : Nat) (hk : 2 * l.length + 1 ≤ k) : Qan.f k l q.1 q.2.1 q.2.2 n = some (insP q n l) := by
 unfold Qan.f
 have := QeR (plOf q n) l hl l.length 0 k (by omega) hk (n == 0) [] (by simp)
 rw [show (0 : Int) = ((0 : Nat) : Int) from rfl]
 refine Eq.trans this ?_
 rw [List.nil_append, List.drop_zero]
 unfold insP
 by_cases hn : n = 0
 ·subst hn
  rw [show ((0 : Int) == 0) = true from rfl, Qdi _ l h]
  simp [plOf, pkey]
 rw [show (n == 0) = false from beq_eq_false_iff_ne.2 hn, QdS _ l h, if_neg hn]
 simp [plOf, pkey]
theorem qcond (x : Pled) (a b : ByteArray) : ((x.f0.f0.toList == a.toList && (x.f0.f1.toList == b.toList)) = true) ↔ (x.f0.f0 = a ∧ x.f0.f1 = b) := by
 simp only [Bool.and_eq_true, beq_iff_eq, tl_iff]
theorem QfE (q : PK) (x : Pled) (t : List Pled) : midP q (x :: t) = if pkey x = q then x :: midP q t else midP q t := by
 unfold midP
 by_cases h : pkey x = q <;> simp [List.filter_cons, h]
theorem Qd2 (q : PK) (x : Pled) (t : List Pled) : hadP q (x :: t) = if pkey x = q then x.f2 else hadP q t := by
 unfold hadP
 rw [QfE]
 by_cases h : pkey x = q <;> simp [h]
theorem QfK (q : PK) (l : List Pled) (hl : l.length ≤ 1073741824) : ∀ n i k : Nat, i + n = l.length → n + 1 ≤ k → Qa6.l0 k q.2.2 l (l.length : Int) (i : Int) q.1 q.2.1 = some (hadP q (l.drop i)) := by
 intro n
 induction n with
 | zero =>
  intro i k hi hk
  obtain ⟨k, rfl⟩ : ∃ m, k = m + 1 := ⟨k - 1, by omega⟩
  rw [Qa6.l0, if_neg (by omega), List.drop_eq_nil_of_le (by omega)]
  rfl
 | succ n ih =>
  intro i k hi hk
  obtain ⟨k, rfl⟩ : ∃ m, k = m + 1 := ⟨k - 1, by omega⟩
  have hlt : i < l.length := by omega
  rw [Qa6.l0, if_pos (by omega), if_pos (by omega), if_pos (by omega), nwrap (by omega) (by omega), show ((i : Int) + 1) = ((i + 1 : Nat) : Int) by omega, ih (i + 1) k (by omega) (by omega), Qb8 l i hlt, Qd2]
  simp only [qcond, tl_iff]
  have hke : pkey (rd_T46 l (i : Int)) = q ↔ ((rd_T46 l (i : Int)).f0.f0 = q.1 ∧ (rd_T46 l (i : Int)).f0.f1 = q.2.1) ∧ (rd_T46 l (i : Int)).f1 = q.2.2 := Qb7 _ (plOf q 0)
  by_cases h1 : (rd_T46 l (i : Int)).f0.f0 = q.1 ∧ (rd_T46 l (i : Int)).f0.f1 = q.2.1
  ·by_cases h2 : (rd_T46 l (i : Int)).f1 = q.2.2
   ·rw [if_pos h1, if_pos h2, if_pos (hke.2 ⟨h1, h2⟩)]
   rw [if_pos h1, if_neg h2, if_neg (fun z => h2 (hke.1 z).2)]
  rw [if_neg h1, if_neg (fun z => h1 (hke.1 z).1)]
theorem Qgi (q : PK) (l : List Pled) (hl : l.length ≤ 1073741824) (k : Nat) (hk : l.length + 1 ≤ k) : Qa6.f k l q.1 q.2.1 q.2.2 = some (hadP q l) := by
 unfold Qa6.f
 rw [show (0 : Int) = ((0 : Nat) : Int) from rfl, QfK q l hl l.length 0 k (by omega) hk, List.drop_zero]
theorem Qfi (q : PK) (l : List Pled) (hl : l.length ≤ 1073741824) : ∀ n i k : Nat, i + n = l.length → n + 1 ≤ k → QaE.l0 k l q.2.2 (i : Int) q.1 q.2.1 = some (hadP q (l.drop i)) := by
 intro n
 induction n with
 | zero =>
  intro i k hi hk
  obtain ⟨k, rfl⟩ : ∃ m, k = m + 1 := ⟨k - 1, by omega⟩
  rw [QaE.l0, if_neg (by omega), List.drop_eq_nil_of_le (by omega)]
  rfl
 | succ n ih =>
  intro i k hi hk
  obtain ⟨k, rfl⟩ : ∃ m, k = m + 1 := ⟨k - 1, by omega⟩
  have hlt : i < l.length := by omega
  rw [QaE.l0, if_pos (by omega), if_pos (by omega), nwrap (by omega) (by omega), show ((i : Int) + 1) = ((i + 1 : Nat) : Int) by omega, ih (i + 1) k (by omega) (by omega), Qb8 l i hlt, Qd2]
  simp only [qcond, tl_iff]
  have hke : pkey (rd_T46 l (i : Int)) = q ↔ ((rd_T46 l (i : Int)).f0.f0 = q.1 ∧ (rd_T46 l (i : Int)).f0.f1 = q.2.1) ∧ (rd_T46 l (i : Int)).f1 = q.2.2 := Qb7 _ (plOf q 0)
  by_cases h1 : (rd_T46 l (i : Int)).f0.f0 = q.1 ∧ (rd_T46 l (i : Int)).f0.f1 = q.2.1
  ·by_cases h2 : (rd_T46 l (i : Int)).f1 = q.2.2
   ·rw [if_pos h1, if_pos h2, if_pos (hke.2 ⟨h1, h2⟩)]
   rw [if_pos h1, if_neg h2, if_neg (fun z => h2 (hke.1 z).2)]
  rw [if_neg h1, if_neg (fun z => h1 (hke.1 z).1)]
theorem Qd7 (q : PK) (l : List Pled) (hl : l.length ≤ 1073741824) (k : Nat) (hk : l.length + 1 ≤ k) : QaE.f k l q.1 q.2.1 q.2.2 = some (hadP q l) := by
 unfold QaE.f
 rw [show (0 : Int) = ((0 : Nat) : Int) from rfl, Qfi q l hl l.length 0 k (by omega) hk, List.drop_zero]
end Go.Proofs.Ytfcaaefdmabkhaa.Pr
