/- Credits that may be, products that may be credited: told by the program and by the reference. -/
import Derived.Test.YtgnmhfjfefgbfaaQ5C0LmBytes
import Derived.Test.YtgnmhfjfefgbfaaQ5C0LmName
import Derived.Test.YtgnmhfjfefgbfaaQ5C0P0
import Derived.Test.YtgnmhfjfefgbfaaQ5C0P2
import Derived.Test.YtgnmhfjfefgbfaaQ5C0P3
import Derived.Test.YtgnmhfjfefgbfaaQ5C0P4
namespace Go.Proofs.Ytgnmhfjfefgbfaa.Pr
open Go.RowKit Go.Proofs.Ytgnmhfjfefgbfaa.Pr Go.Proofs.YtgnmhfjfefgbfaaW.PrintWords Go.Proofs.YtgnmhfjfefgbfaaW.PrintLast Go.Proofs.YtgnmhfjfefgbfaaW.PrintMore
set_option linter.unusedVariables false
set_option linter.unusedSimpArgs false
abbrev Crd := S152
def crOk (c : Crd) : Prop := nameOk c.f0 = true ∧ nameOk c.f1 = true ∧ c.f0 ≠ c.f1
def crOk2 (c : Crd) : Prop := (1 ≤ c.f2 ∧ c.f2 ≤ 1000) ∧ (1 ≤ c.f3 ∧ c.f3 ≤ 1000) ∧ 0 ≤ c.f4 ∧ c.f4 ≤ 1000
instance (c : Crd) : Decidable (crOk c) := inferInstanceAs (Decidable (_ ∧ _ ∧ _))
instance (c : Crd) : Decidable (crOk2 c) := inferInstanceAs (Decidable ((_ ∧ _) ∧ (_ ∧ _) ∧ _ ∧ _))
def crBad (c : Crd) : Int := if crOk c then (if crOk2 c then 0 else 2) else 10
theorem QcY {c : Crd} (h : ¬ crOk c) : crBad c = 10 := by unfold crBad; rw [if_neg h]
theorem QcK {c : Crd} (h : crOk c) (g : ¬ crOk2 c) : crBad c = 2 := by unfold crBad; rw [if_pos h, if_neg g]
theorem Qf8 {c : Crd} (h : crOk c) (g : crOk2 c) : crBad c = 0 := by unfold crBad; rw [if_pos h, if_pos g]
def crL : List Crd → Int
 | [] => 0
 | c :: t => if crBad c = 0 then crL t else crBad c
def crS (l : List Crd) : Int := if (l.length : Int) > 1024 then 8 else crL l
theorem QdQ (c : Crd) (t : List Crd) : crL (c :: t) = if crBad c = 0 then crL t else crBad c := rfl
theorem Qeq (l : List Crd) (i : Nat) (h : i < l.length) : l.drop i = Qan l (i : Int) :: l.drop (i + 1) := by
 unfold Qan
 rw [Int.toNat_natCast, List.getD_eq_getElem?_getD, List.getElem?_eq_getElem h, List.drop_eq_getElem_cons h]
 rfl
theorem QeA (a : Int) : Qbf.f a = some (decide (1 ≤ a ∧ a ≤ 1000)) := by
 unfold Qbf.f
 by_cases h : a ≥ 1
 ·rw [if_pos h]; congr 1; rw [decide_eq_decide]; omega
 rw [if_neg h]; congr 1; rw [eq_comm, decide_eq_false_iff_not]; omega
theorem Qe7 (l : List Crd) (hl : l.length ≤ 1024) : ∀ d i k : Nat, i + d = l.length → 2 * d + 22 ≤ k → QaG.l0 k l (l.length : Int) (i : Int) = some (crL (l.drop i)) := by
 intro d
 induction d with
 | zero =>
  intro i k hi hk
  obtain ⟨k, rfl⟩ : ∃ m, k = m + 1 := ⟨k - 1, by omega⟩
  rw [QaG.l0, if_neg (by omega), List.drop_eq_nil_of_le (by omega)]
  rfl
 | succ d ih =>
  intro i k hi hk
  obtain ⟨k, rfl⟩ : ∃ m, k = m + 2 := ⟨k - 2, by omega⟩
  have IH := ih (i + 1) k (by omega) (by omega)
  have w : wrap64 ((i : Int) + 1) = ((i + 1 : Nat) : Int) := by rw [nwrap (by omega) (by omega)]; omega
  rw [QaG.l0, if_pos (by omega), if_pos (by omega), if_pos (by omega), Qeq l i (by omega), QdQ]
  generalize Qan l (i : Int) = c
  rw [QeI _ _ (by omega), Option.bind_some]
  cases hA : nameOk c.f0 with
  | false =>
   have e := QcY (c := c) (fun h => by have e := h.1; rw [hA] at e; cases e)
   rw [if_neg (by decide), QaG.j1, if_pos rfl, e]; rfl
  | true =>
   rw [if_pos rfl, QeI _ _ (by omega), Option.bind_some]
   cases hB : nameOk c.f1 with
   | false =>
    have e := QcY (c := c) (fun h => by have e := h.2.1; rw [hB] at e; cases e)
    rw [if_neg (by decide), QaG.j1, if_pos rfl, e]; rfl
   | true =>
    rw [if_pos rfl, QaG.j1]
    by_cases hq : c.f0 = c.f1
    ·have e := QcY (c := c) (fun h => h.2.2 hq)
     rw [if_pos (by rw [hq]; exact beq_self_eq_true _), e]; rfl
    rw [if_neg (fun h => hq (QeY (eq_of_beq h)))]
    have ok : crOk c := ⟨hA, hB, hq⟩
    rw [QeA, Option.bind_some]
    by_cases g1 : 1 ≤ c.f2 ∧ c.f2 ≤ 1000
    ·rw [decide_eq_true g1, if_pos rfl, QeA, Option.bind_some]
     by_cases g2 : 1 ≤ c.f3 ∧ c.f3 ≤ 1000
     ·rw [decide_eq_true g2, if_pos rfl]
      by_cases g3 : c.f4 < 0
      ·rw [if_pos g3, QcK ok (fun h => by have := h.2.2; omega)]; rfl
      rw [if_neg g3]
      by_cases g4 : c.f4 > 1000
      ·rw [if_pos g4, QcK ok (fun h => by have := h.2.2; omega)]; rfl
      rw [if_neg g4, Qf8 ok ⟨g1, g2, by omega, by omega⟩, if_pos rfl, w]; exact IH
     rw [decide_eq_false g2, if_neg (by decide), QcK ok (fun h => g2 h.2.1)]; rfl
    rw [decide_eq_false g1, if_neg (by decide), QcK ok (fun h => g1 h.1)]; rfl
theorem Qgf (l : List Crd) (k : Nat) (hk : 2100 ≤ k) : QaG.f k l = some (crS l) := by
 unfold QaG.f crS
 by_cases h : (l.length : Int) > 1024
 ·rw [if_pos h, if_pos h]
 rw [if_neg h, if_neg h, show (0 : Int) = ((0 : Nat) : Int) from rfl, Qe7 l (by omega) l.length 0 k (by omega) (by omega), List.drop_zero]
def bigC (l : List Crd) : Prop := ∀ c ∈ l, c.f0.size ≤ 9223372036854775807 ∧ c.f1.size ≤ 9223372036854775807
theorem cr_mem {l : List Crd} {i : Nat} (h : i < l.length) : Qan l (i : Int) ∈ l := by
 unfold Qan
 rw [Int.toNat_natCast, List.getD_eq_getElem?_getD, List.getElem?_eq_getElem h]
 exact List.getElem_mem h
theorem crL_ok : ∀ (l : List Crd), crL l = 0 → ∀ c ∈ l, crOk c ∧ crOk2 c
 | [], _, c, hc => by cases hc
 | x :: t, h, c, hc => by
  rw [QdQ] at h
  have hx : crBad x = 0 := by
   by_cases e : crBad x = 0
   ·exact e
   rw [if_neg e] at h; exact h
  rw [if_pos hx] at h
  rcases List.mem_cons.1 hc with rfl | hc
  ·unfold crBad at hx
   by_cases a : crOk c
   ·rw [if_pos a] at hx
    by_cases b : crOk2 c
    ·exact ⟨a, b⟩
    rw [if_neg b] at hx; cases hx
   rw [if_neg a] at hx; cases hx
  exact crL_ok t h c hc
theorem crS_ok {l : List Crd} (h : crS l = 0) : l.length ≤ 1024 ∧ ∀ c ∈ l, crOk c ∧ crOk2 c := by
 unfold crS at h
 by_cases g : (l.length : Int) > 1024
 ·rw [if_pos g] at h; cases h
 rw [if_neg g] at h; exact ⟨by omega, crL_ok l h⟩
def nmI (l : List ByteArray) (i : Nat) : ByteArray := rdOf ByteArray.empty l (i : Int)
def ltB (a b : ByteArray) : Bool := Op.bytesLess a.toList b.toList
def mayAt (l0 : List ByteArray) (l1 l2 : List Int) (i : Nat) : Bool := ((decide (i = 0) || ltB (nmI l0 (i - 1)) (nmI l0 i)) && decide (-1099511627776 ≤ rd l1 (i : Int) ∧ rd l1 (i : Int) ≤ 1099511627776)) && decide (0 ≤ rd l2 (i : Int) ∧ rd l2 (i : Int) ≤ 1152921504606846976)
def mayN (l0 : List ByteArray) (l1 l2 : List Int) : Nat → Nat → Bool
 | _, 0 => true
 | i, n + 1 => mayAt l0 l1 l2 i && mayN l0 l1 l2 (i + 1) n
def mayS (l0 : List ByteArray) (l1 l2 : List Int) : Bool := decide (l1.length = l0.length ∧ l2.length = l0.length) && mayN l0 l1 l2 0 l0.length
theorem QdC (l0 : List ByteArray) (l1 l2 : List Int) (i n : Nat) : mayN l0 l1 l2 i (n + 1) = (mayAt l0 l1 l2 i && mayN l0 l1 l2 (i + 1) n) := rfl
theorem QeC (a b : ByteArray) : ltB a b = true ↔ Op.bytesLess b.toList a.toList = false ∧ b.toList ≠ a.toList := by
 unfold ltB
 constructor
 ·intro h
  refine ⟨?_, fun e => by rw [e, QcI] at h; cases h⟩
  cases g : Op.bytesLess b.toList a.toList with
  | false => rfl
  | true => have := QcU _ _ _ h g; rw [QcI] at this; cases this
 intro h
 exact bl_tri _ _ h.1 h.2
theorem QfK {α : Type} (l0 : List ByteArray) (i : Nat) (N : α) (hi : i < l0.length) (hl : l0.length ≤ 17592186044416) (M : Option α) (i0 : i ≠ 0) :
  (if 0 ≤ (wrap64 ((i : Int) - 1)) then (if (wrap64 ((i : Int) - 1)) < (l0.length : Int) then (if (Op.bytesLess ((rdOf ByteArray.empty l0 (i : Int)).toList) ((rdOf ByteArray.empty l0 (wrap64 ((i : Int) - 1))).toList)) = true then some N else (if ((rdOf ByteArray.empty l0 (i : Int)).toList) = ((rdOf ByteArray.empty l0 (wrap64 ((i : Int) - 1))).toList) then some N else M)) else none) else none)
   = if (decide (i = 0) || ltB (nmI l0 (i - 1)) (nmI l0 i)) = true then M else some N := by
 have w : wrap64 ((i : Int) - 1) = ((i - 1 : Nat) : Int) := by rw [nwrap (by omega) (by omega)]; omega
 rw [w, if_pos (by omega), if_pos (by omega), decide_eq_false i0, Bool.false_or]
 show (if Op.bytesLess (nmI l0 i).toList (nmI l0 (i - 1)).toList = true then some N else if (nmI l0 i).toList = (nmI l0 (i - 1)).toList then some N else M) = _
 by_cases c : ltB (nmI l0 (i - 1)) (nmI l0 i) = true
 ·rw [if_pos c]
  have := (QeC _ _).1 c
  rw [if_neg (by rw [this.1]; decide), if_neg this.2]
 rw [if_neg c]
 by_cases a : Op.bytesLess (nmI l0 i).toList (nmI l0 (i - 1)).toList = true
 ·rw [if_pos a]
 rw [if_neg a]
 by_cases b : (nmI l0 i).toList = (nmI l0 (i - 1)).toList
 ·rw [if_pos b]
 exact absurd ((QeC _ _).2 ⟨Bool.eq_false_iff.2 a, b⟩) c
theorem Qfc {α : Type} (l0 : List ByteArray) (i : Nat) (N : α) (hi : i < l0.length) (hl : l0.length ≤ 17592186044416) (M : Option α) :
  (if (i : Int) > 0 then (if 0 ≤ (i : Int) then (if (i : Int) < (l0.length : Int) then (if 0 ≤ (wrap64 ((i : Int) - 1)) then (if (wrap64 ((i : Int) - 1)) < (l0.length : Int) then (if (Op.bytesLess ((rdOf ByteArray.empty l0 (i : Int)).toList) ((rdOf ByteArray.empty l0 (wrap64 ((i : Int) - 1))).toList)) = true then some N else (if ((rdOf ByteArray.empty l0 (i : Int)).toList) = ((rdOf ByteArray.empty l0 (wrap64 ((i : Int) - 1))).toList) then some N else M)) else none) else none) else none) else none) else (if 0 ≤ (i : Int) then M else none))
   = if (decide (i = 0) || ltB (nmI l0 (i - 1)) (nmI l0 i)) = true then M else some N := by
 by_cases i0 : i = 0
 ·subst i0
  rw [if_neg (by omega), if_pos (by simp), if_pos (by simp)]
 rw [if_pos (by omega), if_pos (by omega), if_pos (by omega)]
 exact QfK l0 i N hi hl M i0
theorem QfL (l0 : List ByteArray) (l1 l2 : List Int) (h1 : l1.length = l0.length) (h2 : l2.length = l0.length) (hl : l0.length ≤ 17592186044416) : ∀ n i k : Nat, i + n = l0.length → n + 1 ≤ k → QaL.l0 k l0 l1 l2 (l0.length : Int) (i : Int) = some (mayN l0 l1 l2 i n) := by
 intro n
 induction n with
 | zero =>
  intro i k hi hk
  obtain ⟨k, rfl⟩ : ∃ m, k = m + 1 := ⟨k - 1, by omega⟩
  rw [QaL.l0, if_neg (by omega), mayN]
 | succ n ih =>
  intro i k hi hk
  obtain ⟨k, rfl⟩ : ∃ m, k = m + 1 := ⟨k - 1, by omega⟩
  have IH := ih (i + 1) k (by omega) (by omega)
  have w : wrap64 ((i : Int) + 1) = ((i + 1 : Nat) : Int) := by rw [nwrap (by omega) (by omega)]; omega
  have M : ∀ M : Option Bool, M = (if (i : Int) < (l1.length : Int) then (if (rd l1 (i : Int)) < (-1099511627776) then (some false) else (if (rd l1 (i : Int)) > 1099511627776 then (some false) else (if (i : Int) < (l2.length : Int) then (if (rd l2 (i : Int)) < 0 then (some false) else (if (rd l2 (i : Int)) > 1152921504606846976 then (some false) else (QaL.l0 k l0 l1 l2 (l0.length : Int) (wrap64 ((i : Int) + 1))))) else (none)))) else (none)) →
    M = some ((decide (-1099511627776 ≤ rd l1 (i : Int) ∧ rd l1 (i : Int) ≤ 1099511627776) && decide (0 ≤ rd l2 (i : Int) ∧ rd l2 (i : Int) ≤ 1152921504606846976)) && mayN l0 l1 l2 (i + 1) n) := by
   intro M hM
   rw [hM, if_pos (by omega), w, IH]
   by_cases a : rd l1 (i : Int) < -1099511627776
   ·rw [if_pos a, decide_eq_false (by omega)]; rfl
   rw [if_neg a]
   by_cases b : rd l1 (i : Int) > 1099511627776
   ·rw [if_pos b, decide_eq_false (by omega)]; rfl
   rw [if_neg b, if_pos (by omega), decide_eq_true (p := -1099511627776 ≤ rd l1 (i : Int) ∧ rd l1 (i : Int) ≤ 1099511627776) (by omega)]
   by_cases c : rd l2 (i : Int) < 0
   ·rw [if_pos c, decide_eq_false (by omega)]; rfl
   rw [if_neg c]
   by_cases d : rd l2 (i : Int) > 1152921504606846976
   ·rw [if_pos d, decide_eq_false (by omega)]; rfl
   rw [if_neg d, decide_eq_true (by omega)]; rfl
  rw [QaL.l0, if_pos (by omega), Qfc l0 i false (by omega) hl, M _ rfl, QdC]
  unfold mayAt
  cases (decide (i = 0) || ltB (nmI l0 (i - 1)) (nmI l0 i)) <;> simp
theorem Qgg (l0 : List ByteArray) (l1 l2 : List Int) (hl : l0.length ≤ 17592186044416) (k : Nat) (hk : l0.length + 3 ≤ k) : QaL.f k l0 l1 l2 = some (mayS l0 l1 l2) := by
 obtain ⟨k, rfl⟩ : ∃ m, k = m + 1 := ⟨k - 1, by omega⟩
 unfold QaL.f mayS
 by_cases h1 : l1.length = l0.length
 ·rw [if_pos (by omega), QaL.j0]
  by_cases h2 : l2.length = l0.length
  ·rw [decide_eq_true (show l1.length = l0.length ∧ l2.length = l0.length from ⟨h1, h2⟩), if_neg (by rw [h2]; simp), show (0 : Int) = ((0 : Nat) : Int) from rfl, QfL l0 l1 l2 h1 h2 hl l0.length 0 k (by omega) (by omega)]
   simp
  rw [decide_eq_false (fun h => h2 h.2), if_pos (by rw [bne_iff_ne]; omega)]; rfl
 rw [if_neg (by omega), QaL.j0, if_pos rfl, decide_eq_false (fun h => h1 h.1)]; rfl
theorem QeD (l0 : List ByteArray) (l1 l2 : List Int) : ∀ n i, mayN l0 l1 l2 i n = true → ∀ j, i ≤ j → j < i + n → mayAt l0 l1 l2 j = true
 | 0, i, _, j, h1, h2 => by omega
 | n + 1, i, h, j, h1, h2 => by
  rw [QdC, Bool.and_eq_true] at h
  by_cases e : j = i
  ·rw [e]; exact h.1
  exact QeD l0 l1 l2 n (i + 1) h.2 j (by omega) (by omega)
structure MayOk (l0 : List ByteArray) (l1 l2 : List Int) : Prop where
 h1 : l1.length = l0.length
 h2 : l2.length = l0.length
 inc : ∀ i, 0 < i → i < l0.length → ltB (nmI l0 (i - 1)) (nmI l0 i) = true
 ds : ∀ i : Nat, i < l0.length → -1099511627776 ≤ rd l1 (i : Int) ∧ rd l1 (i : Int) ≤ 1099511627776
 rs : ∀ i : Nat, i < l0.length → 0 ≤ rd l2 (i : Int) ∧ rd l2 (i : Int) ≤ 1152921504606846976
theorem QeE {l0 : List ByteArray} {l1 l2 : List Int} (h : mayS l0 l1 l2 = true) : MayOk l0 l1 l2 := by
 unfold mayS at h
 rw [Bool.and_eq_true, decide_eq_true_iff] at h
 have at_ : ∀ i, i < l0.length → mayAt l0 l1 l2 i = true := fun i hi => QeD l0 l1 l2 _ 0 h.2 i (by omega) (by omega)
 refine ⟨h.1.1, h.1.2, fun i h0 hi => ?_, fun i hi => ?_, fun i hi => ?_⟩
 ·have := at_ i hi
  unfold mayAt at this
  rw [decide_eq_false (by omega)] at this
  simp only [Bool.and_eq_true, Bool.false_or] at this
  exact this.1.1
 ·have := at_ i hi
  unfold mayAt at this
  simp only [Bool.and_eq_true, decide_eq_true_iff] at this
  exact this.1.2
 have := at_ i hi
 unfold mayAt at this
 simp only [Bool.and_eq_true, decide_eq_true_iff] at this
 exact this.2
theorem Qfa {a b c : ByteArray} (h : ltB a b = true) (g : ltB b c = true) : ltB a c = true := QcU _ _ _ h g
theorem may_lt {l0 : List ByteArray} {l1 l2 : List Int} (h : MayOk l0 l1 l2) : ∀ d i : Nat, i + d + 1 < l0.length → ltB (nmI l0 i) (nmI l0 (i + d + 1)) = true
 | 0, i, hi => h.inc (i + 1) (by omega) hi
 | d + 1, i, hi => Qfa (may_lt h d i (by omega)) (h.inc (i + (d + 1) + 1) (by omega) hi)
theorem QeG {l0 : List ByteArray} {l1 l2 : List Int} (h : MayOk l0 l1 l2) {i j : Nat} (hi : i < l0.length) (hj : j < l0.length) (e : nmI l0 i = nmI l0 j) : i = j := by
 have ne : ∀ a b : Nat, a < b → b < l0.length → nmI l0 a ≠ nmI l0 b := by
  intro a b hab hb e
  have := may_lt h (b - a - 1) a (by omega)
  rw [show a + (b - a - 1) + 1 = b by omega, e] at this
  unfold ltB at this
  rw [QcI] at this
  cases this
 by_cases a : i < j
 ·exact absurd e (ne i j a hj)
 by_cases b : j < i
 ·exact absurd e.symm (ne j i b hi)
 omega
end Go.Proofs.Ytgnmhfjfefgbfaa.Pr
