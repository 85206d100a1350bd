/- Pledges: their order, what Check answers, where a pledge stands, what a list with a pledge is. -/
import Derived.Test.YtfcaaefdmabkhaaQ1A6LmBytes
import Derived.Test.YtfcaaefdmabkhaaQ1A6LmName
import Derived.Test.YtfcaaefdmabkhaaQ1A6P0
import Derived.Test.YtfcaaefdmabkhaaQ1A6P2
import Derived.Test.YtfcaaefdmabkhaaQ1A6P3
import Derived.Test.YtfcaaefdmabkhaaQ1A6P7
import Derived.Test.YtfcaaefdmabkhaaQ1A6P1
namespace Go.Proofs.Ytfcaaefdmabkhaa.Pr
open Go.RowKit Go.Proofs.Ytfcaaefdmabkhaa.Pr Go.Proofs.YtfcaaefdmabkhaaW.PrintWords Go.Proofs.YtfcaaefdmabkhaaW.PrintLast Go.Proofs.YtfcaaefdmabkhaaW.PrintMore
set_option linter.unusedVariables false
set_option linter.unusedSimpArgs false
abbrev Pled := S46
abbrev PK := ByteArray × ByteArray × ByteArray
def pkey (p : Pled) : PK := (p.f0.f0, p.f0.f1, p.f1)
def klt (a b : PK) : Bool :=
 if a.1 = b.1 then if a.2.1 = b.2.1 then Op.bytesLess a.2.2.toList b.2.2.toList else Op.bytesLess a.2.1.toList b.2.1.toList else Op.bytesLess a.1.toList b.1.toList
theorem Qea {a b : ByteArray} (h : Op.bytesLess a.toList b.toList = true) : a ≠ b := fun e => by rw [e, Qb9] at h; cases h
theorem Qcb (a : PK) : klt a a = false := by simp [klt, Qb9]
theorem Qct (a b c : PK) (h1 : klt a b = true) (h2 : klt b c = true) : klt a c = true := by
 obtain ⟨a1, a2, a3⟩ := a
 obtain ⟨b1, b2, b3⟩ := b
 obtain ⟨c1, c2, c3⟩ := c
 unfold klt at *
 simp only at *
 by_cases e1 : a1 = b1
 ·subst e1
  rw [if_pos rfl] at h1
  by_cases e2 : a1 = c1
  ·subst e2
   rw [if_pos rfl] at h2 ⊢
   by_cases f1 : a2 = b2
   ·subst f1
    rw [if_pos rfl] at h1
    by_cases f2 : a2 = c2
    ·subst f2
     rw [if_pos rfl] at h2 ⊢
     exact QcH _ _ _ h1 h2
    rw [if_neg f2] at h2 ⊢
    exact h2
   rw [if_neg f1] at h1
   by_cases f2 : b2 = c2
   ·subst f2
    rw [if_neg f1]
    exact h1
   rw [if_neg f2] at h2
   have h3 := QcH _ _ _ h1 h2
   rw [if_neg (Qea h3)]
   exact h3
  rw [if_neg e2] at h2 ⊢
  exact h2
 rw [if_neg e1] at h1
 by_cases e2 : b1 = c1
 ·subst e2
  rw [if_neg e1]
  exact h1
 rw [if_neg e2] at h2
 have h3 := QcH _ _ _ h1 h2
 rw [if_neg (Qea h3)]
 exact h3
theorem Qgc (a b : PK) (h : klt a b = false) (n : a ≠ b) : klt b a = true := by
 obtain ⟨a1, a2, a3⟩ := a
 obtain ⟨b1, b2, b3⟩ := b
 unfold klt at *
 simp only at *
 have tl : ∀ x y : ByteArray, x ≠ y → x.toList ≠ y.toList := fun x y n e => n (QdS e)
 by_cases e1 : a1 = b1
 ·subst e1
  rw [if_pos rfl] at h ⊢
  by_cases f1 : a2 = b2
  ·subst f1
   rw [if_pos rfl] at h ⊢
   exact bl_tri _ _ h (tl _ _ (fun e => n (by rw [e])))
  rw [if_neg f1] at h
  rw [if_neg (fun e => f1 e.symm)]
  exact bl_tri _ _ h (tl _ _ f1)
 rw [if_neg e1] at h
 rw [if_neg (fun e => e1 e.symm)]
 exact bl_tri _ _ h (tl _ _ e1)
theorem Qdj (a b : PK) (h : klt a b = true) : klt b a = false := by
 cases h2 : klt b a with
 | false => rfl
 | true => have := Qct _ _ _ h h2; rw [Qcb] at this; cases this
theorem klt_ne {a b : PK} (h : klt a b = true) : a ≠ b := fun e => by rw [e, Qcb] at h; cases h
def cmpK (a b : PK) : Int := if a = b then 0 else if klt a b = true then -1 else 1
theorem QcB (a b : Pled) : Qbh.f a.f0.f0 a.f0.f1 a.f1 a.f2 b.f0.f0 b.f0.f1 b.f1 b.f2 = some (cmpK (pkey a) (pkey b)) := by
 unfold Qbh.f Qba.f Qbn.f cmpK klt pkey
 simp only [tl_iff, Prod.mk.injEq]
 by_cases e1 : a.f0.f0 = b.f0.f0
 ·by_cases e2 : a.f0.f1 = b.f0.f1
  ·by_cases e3 : a.f1 = b.f1
   ·simp [e1, e2, e3, Qb9]
   cases h : Op.bytesLess a.f1.toList b.f1.toList <;> simp [e1, e2, e3, Qb9, h]
  cases h : Op.bytesLess a.f0.f1.toList b.f0.f1.toList <;> simp [e1, e2, Qb9, h]
 cases h : Op.bytesLess a.f0.f0.toList b.f0.f0.toList <;> simp [e1, Qb9, h]
theorem QcE (l : List Pled) (i : Nat) (h : i < l.length) : l.drop i = rd_T46 l (i : Int) :: l.drop (i + 1) := by
 rw [List.drop_eq_getElem_cons h]
 unfold rd_T46
 rw [Int.toNat_natCast, List.getD_eq_getElem?_getD, List.getElem?_eq_getElem h]
 rfl
theorem pl_rd (l : List Pled) (i : Nat) (h : i < l.length) : rd_T46 l (i : Int) = l[i] := by
 unfold rd_T46
 rw [Int.toNat_natCast, List.getD_eq_getElem?_getD, List.getElem?_eq_getElem h]
 rfl
def okName (p : Pled) : Bool := nameOk p.f0.f0 && (nameOk p.f0.f1 && nameOk p.f1)
def okQty (n : Int) : Bool := decide (1 ≤ n) && decide (n ≤ 1152921504606846976)
theorem QdJ (n : Int) : Qbk.f n = some (okQty n) := by
 unfold Qbk.f okQty
 split
 ·rename_i h; simp [show 1 ≤ n from h]
 rename_i h; simp [show ¬ 1 ≤ n from h]
def Qb4 (q : Option PK) (s : PK) : Bool := match q with | some r => !klt r s | none => false
def chkLP : Option PK → List Pled → Int
 | _, [] => 0
 | q, p :: t => if okName p = true then if Qb4 q (pkey p) = true then 12 else if okQty p.f2 = true then chkLP (some (pkey p)) t else 18 else 10
theorem Qdm (q : Option PK) (p : Pled) (t : List Pled) : chkLP q (p :: t) = if okName p = true then if Qb4 q (pkey p) = true then 12 else if okQty p.f2 = true then chkLP (some (pkey p)) t else 18 else 10 := by
 cases q <;> rfl
def chkP (l : List Pled) : Int := if (l.length : Int) > 1024 then 8 else chkLP none l
def prevK (l : List Pled) : Nat → Option PK
 | 0 => none
 | i + 1 => some (pkey (rd_T46 l (i : Int)))
theorem QeM (l : List ByteArray) (hl : l.length ≤ 1000) : ∀ n i k : Nat, i + n = l.length → n + 20 ≤ k → QaM.l0 k l (l.length : Int) (i : Int) = some ((l.drop i).all nameOk) := by
 intro n
 induction n with
 | zero =>
  intro i k hi hk
  obtain ⟨k, rfl⟩ : ∃ m, k = m + 1 := ⟨k - 1, by omega⟩
  rw [QaM.l0, if_neg (by omega), List.drop_eq_nil_of_le (by omega)]
  rfl
 | succ n ih =>
  intro i k hi hk
  obtain ⟨k, rfl⟩ : ∃ m, k = m + 1 := ⟨k - 1, by omega⟩
  have hlt : i < l.length := by omega
  have e : rdOf ByteArray.empty l (i : Int) = l[i] := by
   unfold rdOf
   rw [Int.toNat_natCast, List.getD_eq_getElem?_getD, List.getElem?_eq_getElem hlt]
   rfl
  rw [QaM.l0, if_pos (by omega), if_pos (by omega), if_pos (by omega), QdL _ k (by omega), Option.bind_some, nwrap (by omega) (by omega), show ((i : Int) + 1) = ((i + 1 : Nat) : Int) by omega, ih (i + 1) k (by omega) (by omega), List.drop_eq_getElem_cons hlt, List.all_cons, e]
  cases nameOk l[i] <;> simp
theorem Qd2 (l : List ByteArray) (hl : l.length ≤ 1000) (k : Nat) (hk : l.length + 20 ≤ k) : QaM.f k l = some (l.all nameOk) := by
 unfold QaM.f
 rw [show (0 : Int) = ((0 : Nat) : Int) from rfl, QeM l hl l.length 0 k (by omega) hk, List.drop_zero]
theorem Qeu (a b : PK) : (cmpK a b ≥ 0) ↔ klt a b = false := by
 unfold cmpK
 by_cases e : a = b
 ·rw [if_pos e, e, Qcb]; simp
 rw [if_neg e]
 cases h : klt a b <;> simp
theorem Qev (a b : PK) : (cmpK a b < 0) ↔ klt a b = true := by
 unfold cmpK
 by_cases e : a = b
 ·rw [if_pos e, e, Qcb]; simp
 rw [if_neg e]
 cases h : klt a b <;> simp
theorem Qf0 (a b : PK) : (cmpK a b = 0) ↔ a = b := by
 unfold cmpK
 by_cases e : a = b
 ·simp [e]
 rw [if_neg e]
 split <;> simp [e]
theorem Qfh (l : List Pled) (hl : l.length ≤ 1024) : ∀ n i k : Nat, i + n = l.length → 2 * n + 30 ≤ k → Qav.l0 k l l (l.length : Int) (i : Int) = some (chkLP (prevK l i) (l.drop i)) := by
 intro n
 induction n with
 | zero =>
  intro i k hi hk
  obtain ⟨k, rfl⟩ : ∃ m, k = m + 1 := ⟨k - 1, by omega⟩
  rw [Qav.l0, if_neg (by omega), List.drop_eq_nil_of_le (by omega), chkLP]
 | succ n ih =>
  intro i k hi hk
  obtain ⟨k, rfl⟩ : ∃ m, k = m + 2 := ⟨k - 2, by omega⟩
  have hlt : i < l.length := by omega
  have IH := ih (i + 1) k (by omega) (by omega)
  have tail : ∀ b : Bool, Qav.j1 (k + 1) l l (l.length : Int) (i : Int) b (rd_T46 l i).f0.f0 (rd_T46 l i).f0.f1 (rd_T46 l i).f1 (rd_T46 l i).f2 = some (if b = true then 12 else if okQty (rd_T46 l i).f2 = true then chkLP (prevK l (i + 1)) (l.drop (i + 1)) else 18) := by
   intro b
   rw [Qav.j1, QdJ, Option.bind_some, nwrap (by omega) (by omega), show ((i : Int) + 1) = ((i + 1 : Nat) : Int) by omega, IH]
   cases b <;> cases okQty (rd_T46 l i).f2 <;> simp
  rw [Qav.l0, if_pos (by omega), if_pos (by omega), if_pos (by omega), QcE l i hlt, Qdm, Qd2 _ (by simp) _ (by simp; omega), Option.bind_some]
  have e0 : [(rd_T46 l i).f0.f0, (rd_T46 l i).f0.f1, (rd_T46 l i).f1].all nameOk = okName (rd_T46 l i) := by simp [okName]
  rw [e0]
  cases hn : okName (rd_T46 l i) with
  | false => simp
  | true =>
   simp only [if_true]
   cases i with
   | zero =>
    rw [if_neg (by omega)]
    exact tail false
   | succ j =>
    have e : wrap64 (((j + 1 : Nat) : Int) - 1) = (j : Int) := by rw [nwrap (by omega) (by omega)]; omega
    rw [if_pos (by omega), e, if_pos (by omega), if_pos (by omega), QcB, Option.bind_some, tail]
    have : decide (cmpK (pkey (rd_T46 l (j : Int))) (pkey (rd_T46 l ((j + 1 : Nat) : Int))) ≥ 0) = Qb4 (prevK l (j + 1)) (pkey (rd_T46 l ((j + 1 : Nat) : Int))) := by
     unfold prevK Qb4
     cases h : klt (pkey (rd_T46 l (j : Int))) (pkey (rd_T46 l ((j + 1 : Nat) : Int))) with
     | false => simp only [decide_eq_true_eq, h, Bool.not_false, Qeu, decide_true]
     | true => simp only [h, Bool.not_true, Qeu]; decide
    rw [this]
    rfl
theorem Qcd (l : List Pled) (k : Nat) (hk : 2078 ≤ k) : Qav.f k l = some (chkP l) := by
 unfold Qav.f chkP
 split
 ·rfl
 exact Qfh l (by omega) l.length 0 k (by omega) (by omega)
def Qbz (l : List Pled) : Prop := l.Pairwise (fun a b => klt (pkey a) (pkey b) = true)
def loP (q : PK) (l : List Pled) : List Pled := l.filter (fun p => klt (pkey p) q)
def midP (q : PK) (l : List Pled) : List Pled := l.filter (fun p => decide (pkey p = q))
def hiP (q : PK) (l : List Pled) : List Pled := l.filter (fun p => klt q (pkey p))
theorem lo_nil (q : PK) (l : List Pled) (h : ∀ p ∈ l, klt q (pkey p) = true) : loP q l = [] := by
 refine List.filter_eq_nil_iff.2 fun p hp => ?_
 rw [Qdj _ _ (h p hp)]; simp
theorem QdK (q : PK) (l : List Pled) (h : ∀ p ∈ l, klt q (pkey p) = true) : midP q l = [] := by
 refine List.filter_eq_nil_iff.2 fun p hp => ?_
 have := klt_ne (h p hp)
 exact fun z => this (of_decide_eq_true z).symm
theorem hi_all (q : PK) (l : List Pled) (h : ∀ p ∈ l, klt q (pkey p) = true) : hiP q l = l := List.filter_eq_self.2 h
theorem split3 (q : PK) : ∀ l : List Pled, Qbz l → l = loP q l ++ (midP q l ++ hiP q l)
 | [], _ => rfl
 | p :: t, h => by
  have ht : Qbz t := (List.pairwise_cons.1 h).2
  have hp : ∀ x ∈ t, klt (pkey p) (pkey x) = true := (List.pairwise_cons.1 h).1
  have ih := split3 q t ht
  cases h1 : klt (pkey p) q with
  | true =>
   have e1 : loP q (p :: t) = p :: loP q t := by simp [loP, List.filter_cons, h1]
   have e2 : midP q (p :: t) = midP q t := by unfold midP; rw [List.filter_cons_of_neg]; simp [klt_ne h1]
   have e3 : hiP q (p :: t) = hiP q t := by unfold hiP; rw [List.filter_cons_of_neg]; rw [Qdj _ _ h1]; simp
   rw [e1, e2, e3, List.cons_append, ← ih]
  | false =>
   have e1 : loP q (p :: t) = loP q t := by unfold loP; rw [List.filter_cons_of_neg]; rw [h1]; simp
   by_cases h2 : pkey p = q
   ·have hq : ∀ x ∈ t, klt q (pkey x) = true := by rw [← h2]; exact hp
    have e2 : midP q (p :: t) = p :: midP q t := by unfold midP; rw [List.filter_cons_of_pos]; simp [h2]
    have e3 : hiP q (p :: t) = hiP q t := by unfold hiP; rw [List.filter_cons_of_neg]; rw [h2, Qcb]; simp
    rw [e1, e2, e3, lo_nil q t hq, QdK q t hq, hi_all q t hq]; rfl
   have h3 := Qgc _ _ h1 h2
   have hq : ∀ x ∈ p :: t, klt q (pkey x) = true := by
    intro x hx
    rcases List.mem_cons.1 hx with rfl | hx
    ·exact h3
    exact Qct _ _ _ h3 (hp x hx)
   rw [lo_nil q _ hq, QdK q _ hq, hi_all q _ hq]; rfl
theorem Qcu (q : PK) : ∀ l : List Pled, Qbz l → midP q l = [] ∨ ∃ x, midP q l = [x] ∧ pkey x = q
 | [], _ => Or.inl rfl
 | p :: t, h => by
  have ht : Qbz t := (List.pairwise_cons.1 h).2
  have hp : ∀ x ∈ t, klt (pkey p) (pkey x) = true := (List.pairwise_cons.1 h).1
  by_cases h2 : pkey p = q
  ·have hq : ∀ x ∈ t, klt q (pkey x) = true := by rw [← h2]; exact hp
   have e2 : midP q (p :: t) = p :: midP q t := by unfold midP; rw [List.filter_cons_of_pos]; simp [h2]
   exact Or.inr ⟨p, by rw [e2, QdK q t hq], h2⟩
  have e2 : midP q (p :: t) = midP q t := by unfold midP; rw [List.filter_cons_of_neg]; simp [h2]
  rw [e2]
  exact Qcu q t ht
theorem lo_lt {q : PK} {l : List Pled} {x : Pled} (h : x ∈ loP q l) : klt (pkey x) q = true := (List.mem_filter.1 h).2
theorem hi_gt {q : PK} {l : List Pled} {x : Pled} (h : x ∈ hiP q l) : klt q (pkey x) = true := (List.mem_filter.1 h).2
theorem mid_is {q : PK} {l : List Pled} {x : Pled} (h : x ∈ midP q l) : pkey x = q := of_decide_eq_true (List.mem_filter.1 h).2
theorem lt_at (q : PK) (l : List Pled) (h : Qbz l) (j : Nat) (hj : j < l.length) : klt (pkey l[j]) q = decide (j < (loP q l).length) := by
 have e := split3 q l h
 by_cases hlt : j < (loP q l).length
 ·have : l[j] = (loP q l)[j] := by
   have : l[j]? = (loP q l)[j]? := by
    conv => lhs; rw [e]
    rw [List.getElem?_append_left hlt]
   rw [List.getElem?_eq_getElem hj, List.getElem?_eq_getElem hlt] at this
   exact Option.some.inj this
  rw [this, lo_lt (List.getElem_mem hlt)]
  simp [hlt]
 have hm : l[j] ∈ midP q l ++ hiP q l := by
  have : l[j]? = (midP q l ++ hiP q l)[j - (loP q l).length]? := by
   conv => lhs; rw [e]
   rw [List.getElem?_append_right (by omega)]
  rw [List.getElem?_eq_getElem hj] at this
  exact List.mem_of_getElem? this.symm
 have hf : klt (pkey l[j]) q = false := by
  rcases List.mem_append.1 hm with h | h
  ·rw [mid_is h, Qcb]
  exact Qdj _ _ (hi_gt h)
 rw [hf]
 simp [hlt]
theorem QeO (q : PK) (n : Int) (l : List Pled) (h : Qbz l) (hl : l.length ≤ 1073741824) : ∀ d a b k : Nat, b - a = d → a ≤ (loP q l).length → (loP q l).length ≤ b → b ≤ l.length → d + 1 ≤ k →
  Qar.l0 k l (a : Int) (b : Int) q.1 q.2.1 q.2.2 n = some (((loP q l).length : Int), decide (midP q l ≠ [])) := by
 intro d
 induction d using Nat.strongRecOn with
 | ind d ih =>
  intro a b k hd ha hb hbl hk
  obtain ⟨k, rfl⟩ : ∃ m, k = m + 1 := ⟨k - 1, by omega⟩
  rw [Qar.l0]
  by_cases hab : a < b
  ·have hm : wrap64 (Int.tdiv (wrap64 ((a : Int) + (b : Int))) 2) = (((a + b) / 2 : Nat) : Int) := by
    rw [nwrap (x := (a : Int) + (b : Int)) (by omega) (by omega), Int.tdiv_eq_ediv_of_nonneg (by omega), nwrap (by omega) (by omega)]
    omega
   have hm1 : wrap64 ((((a + b) / 2 : Nat) : Int) + 1) = (((a + b) / 2 + 1 : Nat) : Int) := by
    rw [nwrap (by omega) (by omega)]; omega
   have hmid : (a + b) / 2 < l.length := by omega
   have hc := QcB (rd_T46 l (((a + b) / 2 : Nat) : Int)) ⟨⟨q.1, q.2.1⟩, q.2.2, n⟩
   have hlt := lt_at q l h _ hmid
   rw [← pl_rd l _ hmid] at hlt
   rw [if_pos (by omega), hm, if_pos (by omega), if_pos (by omega), hc, Option.bind_some, hm1]
   by_cases hx : (a + b) / 2 < (loP q l).length
   ·rw [if_pos ((Qev _ _).2 (by rw [show pkey (⟨⟨q.1, q.2.1⟩, q.2.2, n⟩ : Pled) = q from rfl, hlt]; simp [hx])), ih (b - ((a + b) / 2 + 1)) (by omega) _ _ k rfl (by omega) hb hbl (by omega)]
   rw [if_neg (fun z => by have := (Qev _ _).1 z; rw [show pkey (⟨⟨q.1, q.2.1⟩, q.2.2, n⟩ : Pled) = q from rfl, hlt] at this; simp [hx] at this), ih ((a + b) / 2 - a) (by omega) _ _ k rfl ha (by omega) (by omega) (by omega)]
  have ea : a = (loP q l).length := by omega
  rw [if_neg (by omega)]
  have e := split3 q l h
  have el : l.length = (loP q l).length + ((midP q l).length + (hiP q l).length) := by
   conv => lhs; rw [e]
   rw [List.length_append, List.length_append]
  by_cases hal : a < l.length
  ·have hc := QcB (rd_T46 l (a : Int)) ⟨⟨q.1, q.2.1⟩, q.2.2, n⟩
   rw [if_pos (by omega), if_pos (by omega), hc, Option.bind_some, ← ea]
   congr 2
   have hh : l[a]? = (midP q l ++ hiP q l)[0]? := by
    conv => lhs; rw [e]
    rw [List.getElem?_append_right (by omega), ea, Nat.sub_self]
   rw [List.getElem?_eq_getElem hal] at hh
   rw [pl_rd l a hal, show pkey (⟨⟨q.1, q.2.1⟩, q.2.2, n⟩ : Pled) = q from rfl]
   rcases Qcu q l h with hm | ⟨x, hm, hx⟩
   ·rw [hm, List.nil_append] at hh
    have hg := hi_gt (List.mem_of_getElem? hh.symm)
    have hne : ¬ cmpK (pkey l[a]) q = 0 := fun z => klt_ne hg ((Qf0 _ _).1 z).symm
    simp [hm, hne]
   rw [hm, List.singleton_append, List.getElem?_cons_zero] at hh
   have : pkey l[a] = q := by rw [Option.some.inj hh]; exact hx
   simp [hm, this, cmpK]
  rw [if_neg (by omega), ← ea]
  have hm : midP q l = [] := by
   have : (midP q l).length = 0 := by omega
   exact List.length_eq_zero_iff.1 this
  simp [hm]
theorem Qd3 (q : PK) (n : Int) (l : List Pled) (h : Qbz l) (hl : l.length ≤ 1073741824) (k : Nat) (hk : l.length + 1 ≤ k) :
  Qar.f k l q.1 q.2.1 q.2.2 n = some (((loP q l).length : Int), decide (midP q l ≠ [])) := by
 unfold Qar.f
 have e := split3 q l h
 have el : l.length = (loP q l).length + ((midP q l).length + (hiP q l).length) := by
  conv => lhs; rw [e]
  rw [List.length_append, List.length_append]
 exact QeO q n l h hl l.length 0 l.length k (by omega) (by omega) (by omega) (by omega) hk
theorem QcA (l p : List Pled) (a s : Nat) (hl : l.length ≤ 1073741824) (hp : p.length ≤ 1000) (h1 : a + s ≤ l.length) :
  QaE.f l (a : Int) (s : Int) p = some (l.take a ++ p ++ l.drop (a + s)) := by
 unfold QaE.f
 have e1 : wrap64 (wrap64 ((l.length : Int) + (p.length : Int)) - (s : Int)) = (l.length : Int) + (p.length : Int) - (s : Int) := by
  rw [nwrap (x := (l.length : Int) + (p.length : Int)) (by omega) (by omega), nwrap (by omega) (by omega)]
 have e2 : wrap64 ((a : Int) + (s : Int)) = ((a + s : Nat) : Int) := by rw [nwrap (by omega) (by omega)]; omega
 rw [e1, e2, if_pos (by omega), if_pos (by omega), Option.bind_some, if_pos (by omega), if_pos (by omega), Option.bind_some, if_pos (by simp; omega), Option.bind_some, if_pos (by simp; omega), Option.bind_some, if_pos (by omega), if_pos (by omega), Option.bind_some, if_pos (by simp [-List.length_take, -List.length_drop]; rw [List.length_take, List.length_drop]; omega)]
 simp only [List.nil_append, Int.toNat_natCast]
def hadP (q : PK) (l : List Pled) : Int := match midP q l with | [] => 0 | x :: _ => x.f2
def plOf (q : PK) (n : Int) : Pled := ⟨⟨q.1, q.2.1⟩, q.2.2, n⟩
def insP (q : PK) (n : Int) (l : List Pled) : List Pled := loP q l ++ ((if n = 0 then [] else [plOf q n]) ++ hiP q l)
theorem QdN (q : PK) (l : List Pled) (h : Qbz l) : l.take (loP q l).length = loP q l := by
 exact (congrArg (List.take (loP q l).length) (split3 q l h)).trans (List.take_left' rfl)
theorem QdB (q : PK) (l : List Pled) (h : Qbz l) : l.drop (loP q l).length = midP q l ++ hiP q l := by
 exact (congrArg (List.drop (loP q l).length) (split3 q l h)).trans (List.drop_left' rfl)
theorem QfJ (q : PK) (n : Int) (l : List Pled) (h : Qbz l) (hl : l.length ≤ 1073741824) (hn : 1 ≤ n ∧ n ≤ 1152921504606846976) (hq : ∀ p ∈ l, okQty p.f2 = true) (k : Nat) (hk : l.length + 1 ≤ k) :
  QaZ.f k l q.1 q.2.1 q.2.2 n = some (if hadP q l + n ≤ 1152921504606846976 then (insP q (hadP q l + n) l, 0) else ([], 18)) := by
 unfold QaZ.f
 rw [Qd3 q n l h hl k hk, Option.bind_some]
 have e := split3 q l h
 have el : l.length = (loP q l).length + ((midP q l).length + (hiP q l).length) := by
  conv => lhs; rw [e]
  rw [List.length_append, List.length_append]
 rcases Qcu q l h with hm | ⟨x, hm, hx⟩
 ·have h0 : hadP q l = 0 := by unfold hadP; rw [hm]
  have hch := QcA l [plOf q n] (loP q l).length 0 hl (by simp) (by omega)
  rw [Nat.add_zero, QdN q l h, QdB q l h, hm, List.nil_append] at hch
  simp only [hm, ne_eq, not_true_eq_false, decide_false, Bool.false_eq_true, if_false]
  rw [show (0 : Int) = ((0 : Nat) : Int) from rfl, show (⟨(⟨q.1, q.2.1⟩ : S44), q.2.2, n⟩ : Pled) = plOf q n from rfl, hch, Option.bind_some, h0, if_pos (by omega)]
  unfold insP
  rw [if_neg (by omega), Int.zero_add, List.append_assoc]
 have h0 : hadP q l = x.f2 := by unfold hadP; rw [hm]
 have hxl : x ∈ l := (List.mem_filter.1 (show x ∈ midP q l by rw [hm]; simp)).1
 have hxq := hq x hxl
 unfold okQty at hxq
 simp only [Bool.and_eq_true, decide_eq_true_eq] at hxq
 have hlt : (loP q l).length < l.length := by rw [hm] at el; simp at el; omega
 have hrd : rd_T46 l ((loP q l).length : Int) = x := by
  rw [pl_rd l _ hlt]
  have : l[(loP q l).length]? = some x := by
   refine (congrArg (fun z : List Pled => z[(loP q l).length]?) e).trans ?_
   show (loP q l ++ (midP q l ++ hiP q l))[(loP q l).length]? = some x
   rw [List.getElem?_append_right (Nat.le_refl _), Nat.sub_self, hm]
   rfl
  rw [List.getElem?_eq_getElem hlt] at this
  exact Option.some.inj this
 have hch := QcA l [plOf q (n + x.f2)] (loP q l).length 1 hl (by simp) (by omega)
 have hdr : l.drop ((loP q l).length + 1) = hiP q l := by
  rw [← List.drop_drop, QdB q l h, hm]
  rfl
 rw [QdN q l h, hdr] at hch
 have w1 : wrap64 (1152921504606846976 - x.f2) = 1152921504606846976 - x.f2 := IntWalk.wrap64_in _ (by omega)
 have w2 : wrap64 (n + x.f2) = n + x.f2 := IntWalk.wrap64_in _ (by omega)
 simp only [hm, ne_eq, reduceCtorEq, not_false_eq_true, decide_true, if_true]
 rw [if_pos (by omega), if_pos (by omega), hrd, w1, w2, h0]
 by_cases hgt : n > 1152921504606846976 - x.f2
 ·rw [if_pos hgt, if_neg (by omega)]
 rw [if_neg hgt, if_pos (by omega), show (1 : Int) = ((1 : Nat) : Int) from rfl, show (⟨(⟨q.1, q.2.1⟩ : S44), q.2.2, n + x.f2⟩ : Pled) = plOf q (n + x.f2) from rfl, hch, Option.bind_some]
 unfold insP
 rw [if_neg (by omega), Int.add_comm x.f2 n, List.append_assoc]
theorem Qgo (x p : Pled) : pkey x = pkey p ↔ (x.f0.f0 = p.f0.f0 ∧ x.f0.f1 = p.f0.f1) ∧ x.f1 = p.f1 := by
 unfold pkey
 simp only [Prod.mk.injEq, and_assoc]
theorem qcond (x : Pled) (a b : ByteArray) : ((x.f0.f0.toList == a.toList && (x.f0.f1.toList == b.toList)) = true) ↔ (x.f0.f0 = a ∧ x.f0.f1 = b) := by
 simp only [Bool.and_eq_true, beq_iff_eq, tl_iff]
theorem QfF (q : PK) (x : Pled) (t : List Pled) : midP q (x :: t) = if pkey x = q then x :: midP q t else midP q t := by
 unfold midP
 by_cases h : pkey x = q <;> simp [List.filter_cons, h]
theorem Qfv (q : PK) (x : Pled) (t : List Pled) : hadP q (x :: t) = if pkey x = q then x.f2 else hadP q t := by
 unfold hadP
 rw [QfF]
 by_cases h : pkey x = q <;> simp [h]
theorem QfL (q : PK) (l : List Pled) (hl : l.length ≤ 1073741824) : ∀ n i k : Nat, i + n = l.length → n + 1 ≤ k → Qa2.l0 k q.2.2 l (l.length : Int) (i : Int) q.1 q.2.1 = some (hadP q (l.drop i)) := by
 intro n
 induction n with
 | zero =>
  intro i k hi hk
  obtain ⟨k, rfl⟩ : ∃ m, k = m + 1 := ⟨k - 1, by omega⟩
  rw [Qa2.l0, if_neg (by omega), List.drop_eq_nil_of_le (by omega)]
  rfl
 | succ n ih =>
  intro i k hi hk
  obtain ⟨k, rfl⟩ : ∃ m, k = m + 1 := ⟨k - 1, by omega⟩
  have hlt : i < l.length := by omega
  rw [Qa2.l0, if_pos (by omega), if_pos (by omega), if_pos (by omega), nwrap (by omega) (by omega), show ((i : Int) + 1) = ((i + 1 : Nat) : Int) by omega, ih (i + 1) k (by omega) (by omega), QcE l i hlt, Qfv]
  simp only [qcond, tl_iff]
  have hke : pkey (rd_T46 l (i : Int)) = q ↔ ((rd_T46 l (i : Int)).f0.f0 = q.1 ∧ (rd_T46 l (i : Int)).f0.f1 = q.2.1) ∧ (rd_T46 l (i : Int)).f1 = q.2.2 := Qgo _ (plOf q 0)
  by_cases h1 : (rd_T46 l (i : Int)).f0.f0 = q.1 ∧ (rd_T46 l (i : Int)).f0.f1 = q.2.1
  ·by_cases h2 : (rd_T46 l (i : Int)).f1 = q.2.2
   ·rw [if_pos h1, if_pos h2, if_pos (hke.2 ⟨h1, h2⟩)]
   rw [if_pos h1, if_neg h2, if_neg (fun z => h2 (hke.1 z).2)]
  rw [if_neg h1, if_neg (fun z => h1 (hke.1 z).1)]
theorem Qgq (q : PK) (l : List Pled) (hl : l.length ≤ 1073741824) (k : Nat) (hk : l.length + 1 ≤ k) : Qa2.f k l q.1 q.2.1 q.2.2 = some (hadP q l) := by
 unfold Qa2.f
 rw [show (0 : Int) = ((0 : Nat) : Int) from rfl, QfL q l hl l.length 0 k (by omega) hk, List.drop_zero]
end Go.Proofs.Ytfcaaefdmabkhaa.Pr
