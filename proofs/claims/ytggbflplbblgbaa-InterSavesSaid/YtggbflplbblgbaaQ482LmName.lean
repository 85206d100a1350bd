/- Names: what a name is, told by the program and by the reference. -/
import Derived.Test.YtggbflplbblgbaaQ482P1
import Derived.Test.YtggbflplbblgbaaQ482P0
namespace Go.Proofs.Ytggbflplbblgbaa.Pr
open Go.RowKit Go.Proofs.Ytggbflplbblgbaa.Pr Go.Proofs.YtggbflplbblgbaaW.PrintWords Go.Proofs.YtggbflplbblgbaaW.PrintLast Go.Proofs.YtggbflplbblgbaaW.PrintMore
set_option linter.unusedVariables false
set_option linter.unusedSimpArgs false
def signOk (s : ByteArray) (i : Nat) : Bool := (decide (97 ≤ bt s (i : Int)) && decide (bt s (i : Int) ≤ 122)) || (decide (i ≠ 0) && (decide (48 ≤ bt s (i : Int)) && decide (bt s (i : Int) ≤ 57)))
def nmAll (s : ByteArray) : Nat → Nat → Bool
 | _, 0 => true
 | i, n + 1 => signOk s i && nmAll s (i + 1) n
theorem Qb0 (s : ByteArray) (i n : Nat) : nmAll s i (n + 1) = (signOk s i && nmAll s (i + 1) n) := rfl
def nameOk (s : ByteArray) : Bool := (decide (0 < s.size) && decide (s.size ≤ 12)) && nmAll s 0 s.size
theorem QcN (c : Int) : Qa9.f c = some (decide (97 ≤ c) && decide (c ≤ 122)) := by
 unfold Qa9.f
 split
 ·rename_i h; simp [h]
 rename_i h; simp [h]
theorem QdY (c : Int) : Qbh.f c = some (decide (48 ≤ c) && decide (c ≤ 57)) := by
 unfold Qbh.f
 split
 ·rename_i h; simp [h]
 rename_i h; simp [h]
theorem nwrap {x : Int} (h0 : 0 ≤ x) (h1 : x ≤ 1152921504606846976) : wrap64 x = x := IntWalk.wrap64_in x (by omega)
theorem QdQ (s : ByteArray) (hs : s.size ≤ 12) (h0 : (decide (97 ≤ bt s 0) && decide (bt s 0 ≤ 122)) = true) : ∀ n i k : Nat, i + n = s.size → n + 1 ≤ k → Qaq.l0 k s (s.size : Int) (i : Int) = some (nmAll s i n) := by
 intro n
 induction n with
 | zero =>
  intro i k hi hk
  obtain ⟨k, rfl⟩ : ∃ m, k = m + 1 := ⟨k - 1, by omega⟩
  rw [Qaq.l0, if_neg (by omega), nmAll]
 | succ n ih =>
  intro i k hi hk
  obtain ⟨k, rfl⟩ : ∃ m, k = m + 1 := ⟨k - 1, by omega⟩
  rw [Qaq.l0, if_pos (by omega), if_pos (by omega), if_pos (by omega), nwrap (by omega) (by omega), show ((i : Int) + 1) = ((i + 1 : Nat) : Int) by omega, ih (i + 1) k (by omega) (by omega), QcN, QdY, Qb0]
  unfold signOk
  simp only [Option.bind_some]
  cases i with
  | zero =>
   have e : bt s ((0 : Nat) : Int) = bt s 0 := rfl
   rw [e, h0]
   simp
  | succ j => cases (decide (97 ≤ bt s ((j + 1 : Nat) : Int)) && decide (bt s ((j + 1 : Nat) : Int) ≤ 122)) <;> cases (decide (48 ≤ bt s ((j + 1 : Nat) : Int)) && decide (bt s ((j + 1 : Nat) : Int) ≤ 57)) <;> simp
theorem Qc8 (s : ByteArray) : s.toList = ([] : List UInt8) ↔ s.size = 0 := by
 rw [toList_nil_iff_emptyBytes, ← ByteArray.size_eq_zero_iff]
theorem Qdt (s : ByteArray) (k : Nat) (hk : 20 ≤ k) : Qaq.f k s = some (nameOk s) := by
 obtain ⟨k, rfl⟩ : ∃ m, k = m + 1 := ⟨k - 1, by omega⟩
 unfold Qaq.f nameOk
 by_cases h1 : s.size = 0
 ·rw [if_pos ((Qc8 s).2 h1), Qaq.j0, if_pos rfl]
  simp [h1]
 rw [if_neg (fun h => h1 ((Qc8 s).1 h))]
 by_cases h2 : s.size > 12
 ·rw [if_pos (by omega), Qaq.j0, if_pos rfl]
  simp [show ¬ s.size ≤ 12 by omega]
 rw [if_neg (by omega), if_pos (by omega), QcN, Option.bind_some, Qaq.j0]
 cases hc : (decide (97 ≤ bt s 0) && decide (bt s 0 ≤ 122)) with
 | false =>
  obtain ⟨n, hn⟩ : ∃ n, s.size = n + 1 := ⟨s.size - 1, by omega⟩
  simp only [Bool.not_false, if_true]
  rw [hn, Qb0]
  unfold signOk
  rw [show bt s ((0 : Nat) : Int) = bt s 0 from rfl, hc]
  simp
 | true =>
  rw [if_neg (by simp), show (0 : Int) = ((0 : Nat) : Int) from rfl, QdQ s (by omega) hc s.size 0 k (by omega) (by omega)]
  simp [show 0 < s.size by omega, show s.size ≤ 12 by omega]
theorem QdE (s : ByteArray) (hs : s.size ≤ 9223372036854775807) : ∀ n i k : Nat, i + n = s.size → n + 1 ≤ k → Qan.l0 k s (i : Int) = some ((decide (0 < s.size) && decide (s.size ≤ 12)) && nmAll s i n) := by
 intro n
 induction n with
 | zero =>
  intro i k hi hk
  obtain ⟨k, rfl⟩ : ∃ m, k = m + 1 := ⟨k - 1, by omega⟩
  rw [Qan.l0, if_neg (by omega), nmAll]
  by_cases h : s.size = 0
  ·rw [if_neg (by omega)]; simp [h]
  rw [if_pos (by omega)]
  simp only [show 0 < s.size by omega, decide_true, Bool.true_and, Bool.and_true, Option.some.injEq, decide_eq_decide]
  omega
 | succ n ih =>
  intro i k hi hk
  obtain ⟨k, rfl⟩ : ∃ m, k = m + 1 := ⟨k - 1, by omega⟩
  rw [Qan.l0, if_pos (by omega), if_pos (by omega), IntWalk.wrap64_in _ (by omega), show ((i : Int) + 1) = ((i + 1 : Nat) : Int) by omega, ih (i + 1) k (by omega) (by omega), Qb0]
  unfold signOk
  generalize (decide (0 < s.size) && decide (s.size ≤ 12)) = b
  generalize bt s (i : Int) = c
  generalize nmAll s (i + 1) n = r
  by_cases hi0 : i = 0
  ·subst hi0
   by_cases h1 : c ≥ 97
   ·by_cases h2 : c ≤ 122 <;> simp [h1, h2]
   simp [h1]
  have hi1 : ¬ (i : Int) = 0 := by omega
  by_cases h1 : c ≥ 97
  ·by_cases h2 : c ≤ 122
   ·simp [h1, h2]
   have h3 : ¬ c < 48 := by omega
   have h4 : c > 57 := by omega
   have h5 : ¬ c ≤ 57 := by omega
   simp [h2, hi0, h3, h4, h5]
  by_cases h3 : c < 48
  ·have h4 : ¬ 48 ≤ c := by omega
   simp [h1, hi0, h3, h4]
  by_cases h4 : c > 57
  ·have h5 : ¬ c ≤ 57 := by omega
   simp [h1, hi0, h3, h4, h5]
  have h5 : c ≤ 57 := by omega
  have h6 : 48 ≤ c := by omega
  simp [h1, hi0, h3, h4, h5, h6]
theorem Qc7 (s : ByteArray) (hs : s.size ≤ 9223372036854775807) (k : Nat) (hk : s.size + 1 ≤ k) : Qan.f k s = some (nameOk s) := by
 unfold Qan.f nameOk
 rw [show (0 : Int) = ((0 : Nat) : Int) from rfl, QdE s hs s.size 0 k (by omega) hk]
end Go.Proofs.Ytggbflplbblgbaa.Pr
