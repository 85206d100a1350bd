/- Rates: where a name stands, what Check and Convert answer, by the program and by the reference. -/
import Derived.Test.YtfcaaefdmabkhaaQEB3LmName
import Derived.Test.YtfcaaefdmabkhaaQEB3P0
import Derived.Test.YtfcaaefdmabkhaaQEB3P1
namespace Go.Proofs.Ytfcaaefdmabkhaa.Pr
open Go.RowKit Go.Proofs.Ytfcaaefdmabkhaa.Pr Go.Proofs.YtfcaaefdmabkhaaW.PrintWords Go.Proofs.YtfcaaefdmabkhaaW.PrintLast Go.Proofs.YtfcaaefdmabkhaaW.PrintMore
set_option linter.unusedVariables false
set_option linter.unusedSimpArgs false
abbrev Rt := S98
def fidxB (p : Rt → Bool) : Nat → List Rt → Int
 | _, [] => -1
 | i, x :: t => if p x = true then (i : Int) else fidxB p (i + 1) t
theorem QbV (p : Rt → Bool) (i : Nat) (x : Rt) (t : List Rt) : fidxB p i (x :: t) = if p x = true then (i : Int) else fidxB p (i + 1) t := rfl
theorem Qcz (p : Rt → Bool) : ∀ (l : List Rt) (i : Nat), decide (fidxB p i l ≥ 0) = l.any p
 | [], i => by simp [fidxB]
 | x :: t, i => by
  have ih := Qcz p t (i + 1)
  rw [QbV, List.any_cons]
  cases p x <;> simp [ih]
theorem Qcp (l : List Rt) (i : Nat) (h : i < l.length) : l.drop i = rd_T98 l (i : Int) :: l.drop (i + 1) := by
 rw [List.drop_eq_getElem_cons h]
 unfold rd_T98
 rw [Int.toNat_natCast, List.getD_eq_getElem?_getD, List.getElem?_eq_getElem h]
 rfl
theorem rt_mem (l : List Rt) (i : Nat) (h : i < l.length) : rd_T98 l (i : Int) ∈ l := by
 have := Qcp l i h
 exact List.mem_of_mem_drop (this ▸ List.mem_cons_self)
def isN (s : ByteArray) (r : Rt) : Bool := decide (r.f0.toList = s.toList)
def badN (r : Rt) : Bool := !nameOk r.f0
def badM (r : Rt) : Bool := decide (r.f1 < 1) || decide (r.f1 > 1000000000000)
theorem Qec (s : ByteArray) (l : List Rt) (hl : l.length ≤ 4611686018427387904) : ∀ n i k : Nat, i + n = l.length → n + 1 ≤ k → QaY.l0 k l s (l.length : Int) (i : Int) = some (fidxB (isN s) i (l.drop i)) := by
 intro n
 induction n with
 | zero =>
  intro i k hi hk
  obtain ⟨k, rfl⟩ : ∃ m, k = m + 1 := ⟨k - 1, by omega⟩
  rw [QaY.l0, if_neg (by omega), List.drop_eq_nil_of_le (by omega), fidxB]
 | succ n ih =>
  intro i k hi hk
  obtain ⟨k, rfl⟩ : ∃ m, k = m + 1 := ⟨k - 1, by omega⟩
  rw [QaY.l0, if_pos (by omega), if_pos (by omega), if_pos (by omega), IntWalk.wrap64_in ((i : Int) + 1) (by omega), show ((i : Int) + 1) = ((i + 1 : Nat) : Int) by omega, ih (i + 1) k (by omega) (by omega), Qcp l i (by omega), QbV]
  unfold QbD.f isN
  simp only [Option.bind_some]
  split <;> rfl
theorem Qea (l : List Rt) (hl : l.length ≤ 4611686018427387904) : ∀ n i k : Nat, i + n = l.length → n + 21 ≤ k → Qal.l0 k l (l.length : Int) (i : Int) = some (fidxB badN i (l.drop i)) := by
 intro n
 induction n with
 | zero =>
  intro i k hi hk
  obtain ⟨k, rfl⟩ : ∃ m, k = m + 1 := ⟨k - 1, by omega⟩
  rw [Qal.l0, if_neg (by omega), List.drop_eq_nil_of_le (by omega), fidxB]
 | succ n ih =>
  intro i k hi hk
  obtain ⟨k, rfl⟩ : ∃ m, k = m + 1 := ⟨k - 1, by omega⟩
  rw [Qal.l0, if_pos (by omega), if_pos (by omega), if_pos (by omega), IntWalk.wrap64_in ((i : Int) + 1) (by omega), show ((i : Int) + 1) = ((i + 1 : Nat) : Int) by omega, ih (i + 1) k (by omega) (by omega), Qcp l i (by omega), QbV]
  unfold Qbg.f badN
  rw [QcV _ k (by omega), Option.bind_some, Option.bind_some]
  split <;> rfl
theorem Qeb (l : List Rt) (hl : l.length ≤ 4611686018427387904) : ∀ n i k : Nat, i + n = l.length → n + 1 ≤ k → Qam.l0 k l (l.length : Int) (i : Int) = some (fidxB badM i (l.drop i)) := by
 intro n
 induction n with
 | zero =>
  intro i k hi hk
  obtain ⟨k, rfl⟩ : ∃ m, k = m + 1 := ⟨k - 1, by omega⟩
  rw [Qam.l0, if_neg (by omega), List.drop_eq_nil_of_le (by omega), fidxB]
 | succ n ih =>
  intro i k hi hk
  obtain ⟨k, rfl⟩ : ∃ m, k = m + 1 := ⟨k - 1, by omega⟩
  rw [Qam.l0, if_pos (by omega), if_pos (by omega), if_pos (by omega), IntWalk.wrap64_in ((i : Int) + 1) (by omega), show ((i : Int) + 1) = ((i + 1 : Nat) : Int) by omega, ih (i + 1) k (by omega) (by omega), Qcp l i (by omega), QbV]
  unfold QbG.f badM
  by_cases h : (rd_T98 l (i : Int)).f1 < 1
  ·simp [h]
  simp only [h, if_false, Option.bind_some, decide_false, Bool.false_or]
  split <;> rfl
def findS (s : ByteArray) (l : List Rt) : Int × Bool := (mx (fidxB (isN s) 0 l) 0, decide (fidxB (isN s) 0 l ≥ 0))
theorem Qe7 (s : ByteArray) (l : List Rt) (hl : l.length ≤ 4611686018427387904) (k : Nat) (hk : l.length + 1 ≤ k) : Qbk.f k l s = some (findS s l) := by
 unfold Qbk.f QaY.f
 rw [show (0 : Int) = ((0 : Nat) : Int) from rfl, Qec s l hl l.length 0 k (by omega) hk, List.drop_zero, Option.bind_some]
 rfl
theorem Qe8 (l : List Rt) (hl : l.length ≤ 4611686018427387904) (k : Nat) (hk : l.length + 21 ≤ k) : Qau.f k l = some (l.any badN) := by
 unfold Qau.f Qal.f
 rw [show (0 : Int) = ((0 : Nat) : Int) from rfl, Qea l hl l.length 0 k (by omega) hk, List.drop_zero, Option.bind_some]
 exact congrArg some (Qcz badN l 0)
theorem Qe9 (l : List Rt) (hl : l.length ≤ 4611686018427387904) (k : Nat) (hk : l.length + 1 ≤ k) : Qav.f k l = some (l.any badM) := by
 unfold Qav.f Qam.f
 rw [show (0 : Int) = ((0 : Nat) : Int) from rfl, Qeb l hl l.length 0 k (by omega) hk, List.drop_zero, Option.bind_some]
 exact congrArg some (Qcz badM l 0)
def rateS (l : List Rt) : Int := if (rd_T98 l 0).f1 = 1000000 then (if l.any badM = true then 25 else 0) else 25
def tailS (l : List Rt) : Nat → Nat → Int
 | _, 0 => rateS l
 | i, n + 1 => if (findS (rd_T98 l (i : Int)).f0 l).1 = (i : Int) then tailS l (i + 1) n else 12
theorem QcL (l : List Rt) (i n : Nat) : tailS l i (n + 1) = if (findS (rd_T98 l (i : Int)).f0 l).1 = (i : Int) then tailS l (i + 1) n else 12 := rfl
def chkR (l : List Rt) : Int := if l.length = 0 ∨ 8 < l.length then 8 else if l.any badN = true then 10 else tailS l 0 l.length
theorem Qd0 (l : List Rt) (h0 : 0 < l.length) (hl : l.length ≤ 8) : ∀ n i k : Nat, i + n = l.length → n + 20 ≤ k → QaJ.l0 k l l (l.length : Int) (i : Int) = some (tailS l i n) := by
 intro n
 induction n with
 | zero =>
  intro i k hi hk
  obtain ⟨k, rfl⟩ : ∃ m, k = m + 1 := ⟨k - 1, by omega⟩
  rw [QaJ.l0, if_neg (by omega), if_pos (by omega), Qe9 l (by omega) k (by omega), Option.bind_some, tailS]
  unfold rateS
  (repeat' split) <;> rfl
 | succ n ih =>
  intro i k hi hk
  obtain ⟨k, rfl⟩ : ∃ m, k = m + 1 := ⟨k - 1, by omega⟩
  rw [QaJ.l0, if_pos (by omega), if_pos (by omega), if_pos (by omega), Qe7 _ l (by omega) k (by omega), Option.bind_some, IntWalk.wrap64_in ((i : Int) + 1) (by omega), show ((i : Int) + 1) = ((i + 1 : Nat) : Int) by omega, ih (i + 1) k (by omega) (by omega), QcL]
  split <;> rfl
theorem QdY (l : List Rt) (k : Nat) (hk : 60 ≤ k) : QaJ.f k l = some (chkR l) := by
 obtain ⟨k, rfl⟩ : ∃ m, k = m + 1 := ⟨k - 1, by omega⟩
 unfold QaJ.f chkR
 by_cases h0 : l.length = 0
 ·rw [if_pos (by omega), QaJ.j0, if_pos rfl, if_pos (Or.inl h0)]
 rw [if_neg (by omega), QaJ.j0]
 by_cases h1 : 8 < l.length
 ·rw [if_pos (by simp; omega), if_pos (Or.inr h1)]
 rw [if_neg (by simp; omega), if_neg (show ¬ (l.length = 0 ∨ 8 < l.length) by omega), Qe8 l (by omega) k (by omega), Option.bind_some, show (0 : Int) = ((0 : Nat) : Int) from rfl, Qd0 l (by omega) (by omega) l.length 0 k (by omega) (by omega)]
 split <;> rfl
end Go.Proofs.Ytfcaaefdmabkhaa.Pr
