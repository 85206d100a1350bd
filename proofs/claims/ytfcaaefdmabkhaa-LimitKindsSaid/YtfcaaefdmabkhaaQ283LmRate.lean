/- Rates: where a name stands, what Check and Convert answer, by the program and by the reference. -/
import Derived.Test.YtfcaaefdmabkhaaQ283LmName
import Derived.Test.YtfcaaefdmabkhaaQ283P0
import Derived.Test.YtfcaaefdmabkhaaQ283P3
import Derived.Test.YtfcaaefdmabkhaaQ283P2
namespace Go.Proofs.Ytfcaaefdmabkhaa.Pr
open Go.RowKit Go.Proofs.Ytfcaaefdmabkhaa.Pr Go.Proofs.YtfcaaefdmabkhaaW.PrintWords Go.Proofs.YtfcaaefdmabkhaaW.PrintLast Go.Proofs.YtfcaaefdmabkhaaW.PrintMore
set_option linter.unusedVariables false
set_option linter.unusedSimpArgs false
abbrev Rt := S98
def fidxB (p : Rt → Bool) : Nat → List Rt → Int
 | _, [] => -1
 | i, x :: t => if p x = true then (i : Int) else fidxB p (i + 1) t
theorem Qcl (p : Rt → Bool) (i : Nat) (x : Rt) (t : List Rt) : fidxB p i (x :: t) = if p x = true then (i : Int) else fidxB p (i + 1) t := rfl
theorem Qdk (p : Rt → Bool) : ∀ (l : List Rt) (i : Nat), decide (fidxB p i l ≥ 0) = l.any p
 | [], i => by simp [fidxB]
 | x :: t, i => by
  have ih := Qdk p t (i + 1)
  rw [Qcl, List.any_cons]
  cases p x <;> simp [ih]
theorem Qcj (l : List Rt) (i : Nat) (h : i < l.length) : l.drop i = rd_T98 l (i : Int) :: l.drop (i + 1) := by
 rw [List.drop_eq_getElem_cons h]
 unfold rd_T98
 rw [Int.toNat_natCast, List.getD_eq_getElem?_getD, List.getElem?_eq_getElem h]
 rfl
theorem rt_mem (l : List Rt) (i : Nat) (h : i < l.length) : rd_T98 l (i : Int) ∈ l := by
 have := Qcj l i h
 exact List.mem_of_mem_drop (this ▸ List.mem_cons_self)
def isN (s : ByteArray) (r : Rt) : Bool := decide (r.f0.toList = s.toList)
def badN (r : Rt) : Bool := !nameOk r.f0
def badM (r : Rt) : Bool := decide (r.f1 < 1) || decide (r.f1 > 1000000000000)
theorem QeV (s : ByteArray) (l : List Rt) (hl : l.length ≤ 4611686018427387904) : ∀ n i k : Nat, i + n = l.length → n + 1 ≤ k → Qbj.l0 k l s (l.length : Int) (i : Int) = some (fidxB (isN s) i (l.drop i)) := by
 intro n
 induction n with
 | zero =>
  intro i k hi hk
  obtain ⟨k, rfl⟩ : ∃ m, k = m + 1 := ⟨k - 1, by omega⟩
  rw [Qbj.l0, if_neg (by omega), List.drop_eq_nil_of_le (by omega), fidxB]
 | succ n ih =>
  intro i k hi hk
  obtain ⟨k, rfl⟩ : ∃ m, k = m + 1 := ⟨k - 1, by omega⟩
  rw [Qbj.l0, if_pos (by omega), if_pos (by omega), if_pos (by omega), IntWalk.wrap64_in ((i : Int) + 1) (by omega), show ((i : Int) + 1) = ((i + 1 : Nat) : Int) by omega, ih (i + 1) k (by omega) (by omega), Qcj l i (by omega), Qcl]
  unfold Qb9.f isN
  simp only [Option.bind_some]
  split <;> rfl
theorem QeT (l : List Rt) (hl : l.length ≤ 4611686018427387904) : ∀ n i k : Nat, i + n = l.length → n + 21 ≤ k → Qar.l0 k l (l.length : Int) (i : Int) = some (fidxB badN i (l.drop i)) := by
 intro n
 induction n with
 | zero =>
  intro i k hi hk
  obtain ⟨k, rfl⟩ : ∃ m, k = m + 1 := ⟨k - 1, by omega⟩
  rw [Qar.l0, if_neg (by omega), List.drop_eq_nil_of_le (by omega), fidxB]
 | succ n ih =>
  intro i k hi hk
  obtain ⟨k, rfl⟩ : ∃ m, k = m + 1 := ⟨k - 1, by omega⟩
  rw [Qar.l0, if_pos (by omega), if_pos (by omega), if_pos (by omega), IntWalk.wrap64_in ((i : Int) + 1) (by omega), show ((i : Int) + 1) = ((i + 1 : Nat) : Int) by omega, ih (i + 1) k (by omega) (by omega), Qcj l i (by omega), Qcl]
  unfold QbG.f badN
  rw [QdD _ k (by omega), Option.bind_some, Option.bind_some]
  split <;> rfl
theorem QeU (l : List Rt) (hl : l.length ≤ 4611686018427387904) : ∀ n i k : Nat, i + n = l.length → n + 1 ≤ k → Qas.l0 k l (l.length : Int) (i : Int) = some (fidxB badM i (l.drop i)) := by
 intro n
 induction n with
 | zero =>
  intro i k hi hk
  obtain ⟨k, rfl⟩ : ∃ m, k = m + 1 := ⟨k - 1, by omega⟩
  rw [Qas.l0, if_neg (by omega), List.drop_eq_nil_of_le (by omega), fidxB]
 | succ n ih =>
  intro i k hi hk
  obtain ⟨k, rfl⟩ : ∃ m, k = m + 1 := ⟨k - 1, by omega⟩
  rw [Qas.l0, if_pos (by omega), if_pos (by omega), if_pos (by omega), IntWalk.wrap64_in ((i : Int) + 1) (by omega), show ((i : Int) + 1) = ((i + 1 : Nat) : Int) by omega, ih (i + 1) k (by omega) (by omega), Qcj l i (by omega), Qcl]
  unfold Qcc.f badM
  by_cases h : (rd_T98 l (i : Int)).f1 < 1
  ·simp [h]
  simp only [h, if_false, Option.bind_some, decide_false, Bool.false_or]
  split <;> rfl
def findS (s : ByteArray) (l : List Rt) : Int × Bool := (mx (fidxB (isN s) 0 l) 0, decide (fidxB (isN s) 0 l ≥ 0))
theorem QfT (s : ByteArray) (l : List Rt) (hl : l.length ≤ 4611686018427387904) (k : Nat) (hk : l.length + 1 ≤ k) : QbM.f k l s = some (findS s l) := by
 unfold QbM.f Qbj.f
 rw [show (0 : Int) = ((0 : Nat) : Int) from rfl, QeV s l hl l.length 0 k (by omega) hk, List.drop_zero, Option.bind_some]
 rfl
theorem QfU (l : List Rt) (hl : l.length ≤ 4611686018427387904) (k : Nat) (hk : l.length + 21 ≤ k) : QaD.f k l = some (l.any badN) := by
 unfold QaD.f Qar.f
 rw [show (0 : Int) = ((0 : Nat) : Int) from rfl, QeT l hl l.length 0 k (by omega) hk, List.drop_zero, Option.bind_some]
 exact congrArg some (Qdk badN l 0)
theorem QfV (l : List Rt) (hl : l.length ≤ 4611686018427387904) (k : Nat) (hk : l.length + 1 ≤ k) : QaF.f k l = some (l.any badM) := by
 unfold QaF.f Qas.f
 rw [show (0 : Int) = ((0 : Nat) : Int) from rfl, QeU l hl l.length 0 k (by omega) hk, List.drop_zero, Option.bind_some]
 exact congrArg some (Qdk badM l 0)
theorem QeI (s : ByteArray) (l : List Rt) (hl : l.length ≤ 4611686018427387904) : ∀ n i k : Nat, i + n = l.length → n + 1 ≤ k → QaO.l0 k l s (i : Int) = some (mx (fidxB (isN s) i (l.drop i)) 0, decide (fidxB (isN s) i (l.drop i) ≥ 0)) := by
 intro n
 induction n with
 | zero =>
  intro i k hi hk
  obtain ⟨k, rfl⟩ : ∃ m, k = m + 1 := ⟨k - 1, by omega⟩
  rw [QaO.l0, if_neg (by omega), List.drop_eq_nil_of_le (by omega), fidxB]
  rfl
 | succ n ih =>
  intro i k hi hk
  obtain ⟨k, rfl⟩ : ∃ m, k = m + 1 := ⟨k - 1, by omega⟩
  rw [QaO.l0, if_pos (by omega), if_pos (by omega), IntWalk.wrap64_in ((i : Int) + 1) (by omega), show ((i : Int) + 1) = ((i + 1 : Nat) : Int) by omega, ih (i + 1) k (by omega) (by omega), Qcj l i (by omega), Qcl]
  by_cases h : (rd_T98 l (i : Int)).f0.toList = s.toList
  ·have h1 : isN s (rd_T98 l (i : Int)) = true := by unfold isN; simp [h]
   rw [if_pos h, if_pos h1]
   unfold mx
   rw [if_neg (by omega)]
   simp
  have h1 : ¬ isN s (rd_T98 l (i : Int)) = true := by unfold isN; simp [h]
  rw [if_neg h, if_neg h1]
theorem QfH (s : ByteArray) (l : List Rt) (hl : l.length ≤ 4611686018427387904) (k : Nat) (hk : l.length + 1 ≤ k) : QaO.f k l s = some (findS s l) := by
 unfold QaO.f
 rw [show (0 : Int) = ((0 : Nat) : Int) from rfl, QeI s l hl l.length 0 k (by omega) hk, List.drop_zero]
 rfl
def rateS (l : List Rt) : Int := if (rd_T98 l 0).f1 = 1000000 then (if l.any badM = true then 25 else 0) else 25
def tailS (l : List Rt) : Nat → Nat → Int
 | _, 0 => rateS l
 | i, n + 1 => if (findS (rd_T98 l (i : Int)).f0 l).1 = (i : Int) then tailS l (i + 1) n else 12
theorem QcQ (l : List Rt) (i n : Nat) : tailS l i (n + 1) = if (findS (rd_T98 l (i : Int)).f0 l).1 = (i : Int) then tailS l (i + 1) n else 12 := rfl
def chkR (l : List Rt) : Int := if l.length = 0 ∨ 8 < l.length then 8 else if l.any badN = true then 10 else tailS l 0 l.length
theorem QeL (l : List Rt) (h0 : 0 < l.length) (hl : l.length ≤ 8) : ∀ n i k : Nat, i + n = l.length → n + 20 ≤ k → Qa8.l0 k l l (l.length : Int) (i : Int) = some (tailS l i n) := by
 intro n
 induction n with
 | zero =>
  intro i k hi hk
  obtain ⟨k, rfl⟩ : ∃ m, k = m + 1 := ⟨k - 1, by omega⟩
  rw [Qa8.l0, if_neg (by omega), if_pos (by omega), QfV l (by omega) k (by omega), Option.bind_some, tailS]
  unfold rateS
  (repeat' split) <;> rfl
 | succ n ih =>
  intro i k hi hk
  obtain ⟨k, rfl⟩ : ∃ m, k = m + 1 := ⟨k - 1, by omega⟩
  rw [Qa8.l0, if_pos (by omega), if_pos (by omega), if_pos (by omega), QfT _ l (by omega) k (by omega), Option.bind_some, IntWalk.wrap64_in ((i : Int) + 1) (by omega), show ((i : Int) + 1) = ((i + 1 : Nat) : Int) by omega, ih (i + 1) k (by omega) (by omega), QcQ]
  split <;> rfl
theorem QeG (l : List Rt) (k : Nat) (hk : 60 ≤ k) : Qa8.f k l = some (chkR l) := by
 obtain ⟨k, rfl⟩ : ∃ m, k = m + 1 := ⟨k - 1, by omega⟩
 unfold Qa8.f chkR
 by_cases h0 : l.length = 0
 ·rw [if_pos (by omega), Qa8.j0, if_pos rfl, if_pos (Or.inl h0)]
 rw [if_neg (by omega), Qa8.j0]
 by_cases h1 : 8 < l.length
 ·rw [if_pos (by simp; omega), if_pos (Or.inr h1)]
 rw [if_neg (by simp; omega), if_neg (show ¬ (l.length = 0 ∨ 8 < l.length) by omega), QfU l (by omega) k (by omega), Option.bind_some, show (0 : Int) = ((0 : Nat) : Int) from rfl, QeL l (by omega) (by omega) l.length 0 k (by omega) (by omega)]
 split <;> rfl
def szR : List Rt → Nat
 | [] => 0
 | r :: t => r.f0.size + szR t
theorem Qes : ∀ {l : List Rt} {r : Rt}, r ∈ l → r.f0.size ≤ szR l
 | q :: t, r, h => by
  rcases List.mem_cons.1 h with rfl | h
  ·unfold szR; omega
  have := Qes h
  unfold szR; omega
theorem Qgd (l : List Rt) (hl : l.length ≤ 8) : ∀ n i k : Nat, 1 ≤ i → i + n = l.length → n + 1 ≤ k → Qat.l2 k l (i : Int) = some (if (l.drop i).any badM = true then 25 else 0) := by
 intro n
 induction n with
 | zero =>
  intro i k h1 hi hk
  obtain ⟨k, rfl⟩ : ∃ m, k = m + 1 := ⟨k - 1, by omega⟩
  rw [Qat.l2, if_neg (by omega), List.drop_eq_nil_of_le (by omega)]
  rfl
 | succ n ih =>
  intro i k h1 hi hk
  obtain ⟨k, rfl⟩ : ∃ m, k = m + 1 := ⟨k - 1, by omega⟩
  rw [Qat.l2, if_pos (by omega), if_pos (by omega), if_neg (show ¬ (i : Int) = 0 by omega), IntWalk.wrap64_in ((i : Int) + 1) (by omega), show ((i : Int) + 1) = ((i + 1 : Nat) : Int) by omega, ih (i + 1) k (by omega) (by omega) (by omega), Qcj l i (by omega), List.any_cons]
  unfold badM
  by_cases a1 : (rd_T98 l (i : Int)).f1 < 1
  ·simp [a1]
  by_cases a2 : (rd_T98 l (i : Int)).f1 > 1000000000000
  ·simp [a1, a2]
  simp only [a1, a2, if_false, decide_false, Bool.false_or]
theorem r2_eq (l : List Rt) (h0 : 0 < l.length) (hl : l.length ≤ 8) (k : Nat) (hk : 10 ≤ k) : Qat.l2 k l 0 = some (rateS l) := by
 obtain ⟨k, rfl⟩ : ∃ m, k = m + 1 := ⟨k - 1, by omega⟩
 have hd := Qcj l 0 h0
 rw [List.drop_zero] at hd
 rw [Qat.l2, if_pos (by omega), if_pos (by omega), if_pos rfl, IntWalk.wrap64_in ((0 : Int) + 1) (by omega), show ((0 : Int) + 1) = ((1 : Nat) : Int) by rfl, Qgd l hl (l.length - 1) 1 k (by omega) (by omega) (by omega)]
 unfold rateS
 by_cases a : (rd_T98 l 0).f1 = 1000000
 ·rw [if_neg (by omega), if_neg (by omega), if_pos a, if_pos a]
  conv => rhs; rw [hd]
  rw [List.any_cons]
  have : badM (rd_T98 l ((0 : Nat) : Int)) = false := by
   unfold badM
   rw [show ((0 : Nat) : Int) = 0 from rfl, a]; decide
  rw [this, Bool.false_or]
 rw [if_neg a, if_neg a]
 (repeat' split) <;> rfl
theorem Qgc (l : List Rt) (h0 : 0 < l.length) (hl : l.length ≤ 8) : ∀ n i k : Nat, i + n = l.length → n + 20 ≤ k → Qat.l1 k l (i : Int) = some (tailS l i n) := by
 intro n
 induction n with
 | zero =>
  intro i k hi hk
  obtain ⟨k, rfl⟩ : ∃ m, k = m + 1 := ⟨k - 1, by omega⟩
  rw [Qat.l1, if_neg (by omega), r2_eq l h0 hl k (by omega), tailS]
 | succ n ih =>
  intro i k hi hk
  obtain ⟨k, rfl⟩ : ∃ m, k = m + 1 := ⟨k - 1, by omega⟩
  rw [Qat.l1, if_pos (by omega), if_pos (by omega), QfH _ l (by omega) k (by omega), Option.bind_some, IntWalk.wrap64_in ((i : Int) + 1) (by omega), show ((i : Int) + 1) = ((i + 1 : Nat) : Int) by omega, ih (i + 1) k (by omega) (by omega), QcQ]
  split <;> rfl
theorem Qgb (l : List Rt) (h0 : 0 < l.length) (hl : l.length ≤ 8) (hb : ∀ r ∈ l, r.f0.size ≤ 9223372036854775807) : ∀ n i k : Nat, i + n = l.length → n + 40 + szR l ≤ k → Qat.l0 k l (i : Int) = some (if (l.drop i).any badN = true then 10 else tailS l 0 l.length) := by
 intro n
 induction n with
 | zero =>
  intro i k hi hk
  obtain ⟨k, rfl⟩ : ∃ m, k = m + 1 := ⟨k - 1, by omega⟩
  rw [Qat.l0, if_neg (by omega), List.drop_eq_nil_of_le (by omega), show (0 : Int) = ((0 : Nat) : Int) from rfl, Qgc l h0 hl l.length 0 k (by omega) (by omega)]
  rfl
 | succ n ih =>
  intro i k hi hk
  obtain ⟨k, rfl⟩ : ∃ m, k = m + 1 := ⟨k - 1, by omega⟩
  have hm := rt_mem l i (by omega)
  have hz := Qes hm
  rw [Qat.l0, if_pos (by omega), if_pos (by omega), QcA _ (hb _ hm) k (by omega), Option.bind_some, IntWalk.wrap64_in ((i : Int) + 1) (by omega), show ((i : Int) + 1) = ((i + 1 : Nat) : Int) by omega, ih (i + 1) k (by omega) (by omega), Qcj l i (by omega), List.any_cons]
  unfold badN
  cases nameOk (rd_T98 l (i : Int)).f0 <;> simp
theorem Qei (l : List Rt) (hb : ∀ r ∈ l, r.f0.size ≤ 9223372036854775807) (k : Nat) (hk : 60 + szR l ≤ k) : Qat.f k l = some (chkR l) := by
 obtain ⟨k, rfl⟩ : ∃ m, k = m + 1 := ⟨k - 1, by omega⟩
 unfold Qat.f chkR
 by_cases h0 : l.length = 0
 ·rw [if_pos (by omega), Qat.j0, if_pos rfl, if_pos (Or.inl h0)]
 rw [if_neg (by omega), Qat.j0]
 by_cases h1 : 8 < l.length
 ·rw [if_pos (by simp; omega), if_pos (Or.inr h1)]
 rw [if_neg (by simp; omega), if_neg (show ¬ (l.length = 0 ∨ 8 < l.length) by omega), show (0 : Int) = ((0 : Nat) : Int) from rfl, Qgb l (by omega) (by omega) hb l.length 0 k (by omega) (by omega), List.drop_zero]
end Go.Proofs.Ytfcaaefdmabkhaa.Pr
