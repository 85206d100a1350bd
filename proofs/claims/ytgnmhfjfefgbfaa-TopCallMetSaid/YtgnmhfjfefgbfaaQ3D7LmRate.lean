/- Rates: where a name stands, what Check and Convert answer, by the program and by the reference. -/
import Derived.Test.YtgnmhfjfefgbfaaQ3D7LmName
import Derived.Test.YtgnmhfjfefgbfaaQ3D7P0
import Derived.Test.YtgnmhfjfefgbfaaQ3D7P4
namespace Go.Proofs.Ytgnmhfjfefgbfaa.Pr
open Go.RowKit Go.Proofs.Ytgnmhfjfefgbfaa.Pr Go.Proofs.YtgnmhfjfefgbfaaW.PrintWords Go.Proofs.YtgnmhfjfefgbfaaW.PrintLast Go.Proofs.YtgnmhfjfefgbfaaW.PrintMore
set_option linter.unusedVariables false
set_option linter.unusedSimpArgs false
abbrev Rt := S279
def fidxB (p : Rt → Bool) : Nat → List Rt → Int
 | _, [] => -1
 | i, x :: t => if p x = true then (i : Int) else fidxB p (i + 1) t
theorem Qcs (p : Rt → Bool) (i : Nat) (x : Rt) (t : List Rt) : fidxB p i (x :: t) = if p x = true then (i : Int) else fidxB p (i + 1) t := rfl
theorem Qdt (p : Rt → Bool) : ∀ (l : List Rt) (i : Nat), decide (fidxB p i l ≥ 0) = l.any p
 | [], i => by simp [fidxB]
 | x :: t, i => by
  have ih := Qdt p t (i + 1)
  rw [Qcs, List.any_cons]
  cases p x <;> simp [ih]
theorem Qdg (l : List Rt) (i : Nat) (h : i < l.length) : l.drop i = Qa0 l (i : Int) :: l.drop (i + 1) := by
 rw [List.drop_eq_getElem_cons h]
 unfold Qa0
 rw [Int.toNat_natCast, List.getD_eq_getElem?_getD, List.getElem?_eq_getElem h]
 rfl
theorem rt_mem (l : List Rt) (i : Nat) (h : i < l.length) : Qa0 l (i : Int) ∈ l := by
 have := Qdg l i h
 exact List.mem_of_mem_drop (this ▸ List.mem_cons_self)
def isN (s : ByteArray) (r : Rt) : Bool := decide (r.f0.toList = s.toList)
def badN (r : Rt) : Bool := !nameOk r.f0
def badM (r : Rt) : Bool := decide (r.f1 < 1) || decide (r.f1 > 1000000000000)
theorem Qfa (s : ByteArray) (l : List Rt) (hl : l.length ≤ 4611686018427387904) : ∀ n i k : Nat, i + n = l.length → n + 1 ≤ k → Qbe.l0 k l s (l.length : Int) (i : Int) = some (fidxB (isN s) i (l.drop i)) := by
 intro n
 induction n with
 | zero =>
  intro i k hi hk
  obtain ⟨k, rfl⟩ : ∃ m, k = m + 1 := ⟨k - 1, by omega⟩
  rw [Qbe.l0, if_neg (by omega), List.drop_eq_nil_of_le (by omega), fidxB]
 | succ n ih =>
  intro i k hi hk
  obtain ⟨k, rfl⟩ : ∃ m, k = m + 1 := ⟨k - 1, by omega⟩
  rw [Qbe.l0, if_pos (by omega), if_pos (by omega), if_pos (by omega), IntWalk.wrap64_in ((i : Int) + 1) (by omega), show ((i : Int) + 1) = ((i + 1 : Nat) : Int) by omega, ih (i + 1) k (by omega) (by omega), Qdg l i (by omega), Qcs]
  unfold Qb4.f isN
  simp only [Option.bind_some]
  split <;> rfl
theorem Qe8 (l : List Rt) (hl : l.length ≤ 4611686018427387904) : ∀ n i k : Nat, i + n = l.length → n + 21 ≤ k → Qat.l0 k l (l.length : Int) (i : Int) = some (fidxB badN i (l.drop i)) := by
 intro n
 induction n with
 | zero =>
  intro i k hi hk
  obtain ⟨k, rfl⟩ : ∃ m, k = m + 1 := ⟨k - 1, by omega⟩
  rw [Qat.l0, if_neg (by omega), List.drop_eq_nil_of_le (by omega), fidxB]
 | succ n ih =>
  intro i k hi hk
  obtain ⟨k, rfl⟩ : ∃ m, k = m + 1 := ⟨k - 1, by omega⟩
  rw [Qat.l0, if_pos (by omega), if_pos (by omega), if_pos (by omega), IntWalk.wrap64_in ((i : Int) + 1) (by omega), show ((i : Int) + 1) = ((i + 1 : Nat) : Int) by omega, ih (i + 1) k (by omega) (by omega), Qdg l i (by omega), Qcs]
  unfold QbB.f badN
  rw [QcL _ k (by omega), Option.bind_some, Option.bind_some]
  split <;> rfl
theorem Qe9 (l : List Rt) (hl : l.length ≤ 4611686018427387904) : ∀ n i k : Nat, i + n = l.length → n + 1 ≤ k → Qau.l0 k l (l.length : Int) (i : Int) = some (fidxB badM i (l.drop i)) := by
 intro n
 induction n with
 | zero =>
  intro i k hi hk
  obtain ⟨k, rfl⟩ : ∃ m, k = m + 1 := ⟨k - 1, by omega⟩
  rw [Qau.l0, if_neg (by omega), List.drop_eq_nil_of_le (by omega), fidxB]
 | succ n ih =>
  intro i k hi hk
  obtain ⟨k, rfl⟩ : ∃ m, k = m + 1 := ⟨k - 1, by omega⟩
  rw [Qau.l0, if_pos (by omega), if_pos (by omega), if_pos (by omega), IntWalk.wrap64_in ((i : Int) + 1) (by omega), show ((i : Int) + 1) = ((i + 1 : Nat) : Int) by omega, ih (i + 1) k (by omega) (by omega), Qdg l i (by omega), Qcs]
  unfold Qb7.f badM
  by_cases h : (Qa0 l (i : Int)).f1 < 1
  ·simp [h]
  simp only [h, if_false, Option.bind_some, decide_false, Bool.false_or]
  split <;> rfl
def findS (s : ByteArray) (l : List Rt) : Int × Bool := (mx (fidxB (isN s) 0 l) 0, decide (fidxB (isN s) 0 l ≥ 0))
theorem Qga (s : ByteArray) (l : List Rt) (hl : l.length ≤ 4611686018427387904) (k : Nat) (hk : l.length + 1 ≤ k) : QbF.f k l s = some (findS s l) := by
 unfold QbF.f Qbe.f
 rw [show (0 : Int) = ((0 : Nat) : Int) from rfl, Qfa s l hl l.length 0 k (by omega) hk, List.drop_zero, Option.bind_some]
 rfl
theorem Qgb (l : List Rt) (hl : l.length ≤ 4611686018427387904) (k : Nat) (hk : l.length + 21 ≤ k) : Qaz.f k l = some (l.any badN) := by
 unfold Qaz.f Qat.f
 rw [show (0 : Int) = ((0 : Nat) : Int) from rfl, Qe8 l hl l.length 0 k (by omega) hk, List.drop_zero, Option.bind_some]
 exact congrArg some (Qdt badN l 0)
theorem Qgc (l : List Rt) (hl : l.length ≤ 4611686018427387904) (k : Nat) (hk : l.length + 1 ≤ k) : QaC.f k l = some (l.any badM) := by
 unfold QaC.f Qau.f
 rw [show (0 : Int) = ((0 : Nat) : Int) from rfl, Qe9 l hl l.length 0 k (by omega) hk, List.drop_zero, Option.bind_some]
 exact congrArg some (Qdt badM l 0)
def rateS (l : List Rt) : Int := if (Qa0 l 0).f1 = 1000000 then (if l.any badM = true then 25 else 0) else 25
def tailS (l : List Rt) : Nat → Nat → Int
 | _, 0 => rateS l
 | i, n + 1 => if (findS (Qa0 l (i : Int)).f0 l).1 = (i : Int) then tailS l (i + 1) n else 12
theorem QdF (l : List Rt) (i n : Nat) : tailS l i (n + 1) = if (findS (Qa0 l (i : Int)).f0 l).1 = (i : Int) then tailS l (i + 1) n else 12 := rfl
def chkR (l : List Rt) : Int := if l.length = 0 ∨ 8 < l.length then 8 else if l.any badN = true then 10 else tailS l 0 l.length
theorem QeU (l : List Rt) (h0 : 0 < l.length) (hl : l.length ≤ 8) : ∀ n i k : Nat, i + n = l.length → n + 20 ≤ k → QaY.l0 k l l (l.length : Int) (i : Int) = some (tailS l i n) := by
 intro n
 induction n with
 | zero =>
  intro i k hi hk
  obtain ⟨k, rfl⟩ : ∃ m, k = m + 1 := ⟨k - 1, by omega⟩
  rw [QaY.l0, if_neg (by omega), if_pos (by omega), Qgc l (by omega) k (by omega), Option.bind_some, tailS]
  unfold rateS
  (repeat' split) <;> rfl
 | succ n ih =>
  intro i k hi hk
  obtain ⟨k, rfl⟩ : ∃ m, k = m + 1 := ⟨k - 1, by omega⟩
  rw [QaY.l0, if_pos (by omega), if_pos (by omega), if_pos (by omega), Qga _ l (by omega) k (by omega), Option.bind_some, IntWalk.wrap64_in ((i : Int) + 1) (by omega), show ((i : Int) + 1) = ((i + 1 : Nat) : Int) by omega, ih (i + 1) k (by omega) (by omega), QdF]
  split <;> rfl
theorem QdB (l : List Rt) (k : Nat) (hk : 60 ≤ k) : QaY.f k l = some (chkR l) := by
 obtain ⟨k, rfl⟩ : ∃ m, k = m + 1 := ⟨k - 1, by omega⟩
 unfold QaY.f chkR
 by_cases h0 : l.length = 0
 ·rw [if_pos (by omega), QaY.j0, if_pos rfl, if_pos (Or.inl h0)]
 rw [if_neg (by omega), QaY.j0]
 by_cases h1 : 8 < l.length
 ·rw [if_pos (by simp; omega), if_pos (Or.inr h1)]
 rw [if_neg (by simp; omega), if_neg (show ¬ (l.length = 0 ∨ 8 < l.length) by omega), Qgb l (by omega) k (by omega), Option.bind_some, show (0 : Int) = ((0 : Nat) : Int) from rfl, QeU l (by omega) (by omega) l.length 0 k (by omega) (by omega)]
 split <;> rfl
end Go.Proofs.Ytgnmhfjfefgbfaa.Pr
