/- Names: what a name is, told by the program and by the reference. -/
import Derived.Test.YtgnmhfjfefgbfaaQ5C0P2
import Derived.Test.YtgnmhfjfefgbfaaQ5C0P3
import Derived.Test.YtgnmhfjfefgbfaaQ5C0P0
namespace Go.Proofs.Ytgnmhfjfefgbfaa.Pr
open Go.RowKit Go.Proofs.Ytgnmhfjfefgbfaa.Pr Go.Proofs.YtgnmhfjfefgbfaaW.PrintWords Go.Proofs.YtgnmhfjfefgbfaaW.PrintLast Go.Proofs.YtgnmhfjfefgbfaaW.PrintMore
set_option linter.unusedVariables false
set_option linter.unusedSimpArgs false
def signOk (s : ByteArray) (i : Nat) : Bool := (decide (97 ≤ bt s (i : Int)) && decide (bt s (i : Int) ≤ 122)) || (decide (i ≠ 0) && (decide (48 ≤ bt s (i : Int)) && decide (bt s (i : Int) ≤ 57)))
def nmAll (s : ByteArray) : Nat → Nat → Bool
 | _, 0 => true
 | i, n + 1 => signOk s i && nmAll s (i + 1) n
theorem Qdb (s : ByteArray) (i n : Nat) : nmAll s i (n + 1) = (signOk s i && nmAll s (i + 1) n) := rfl
def nameOk (s : ByteArray) : Bool := (decide (0 < s.size) && decide (s.size ≤ 12)) && nmAll s 0 s.size
theorem QdB (c : Int) : Qbs.f c = some (decide (97 ≤ c) && decide (c ≤ 122)) := by
 unfold Qbs.f
 split
 ·rename_i h; simp [h]
 rename_i h; simp [h]
theorem Qfw (c : Int) : QbF.f c = some (decide (48 ≤ c) && decide (c ≤ 57)) := by
 unfold QbF.f
 split
 ·rename_i h; simp [h]
 rename_i h; simp [h]
theorem nwrap {x : Int} (h0 : 0 ≤ x) (h1 : x ≤ 1152921504606846976) : wrap64 x = x := IntWalk.wrap64_in x (by omega)
theorem Qff (s : ByteArray) (hs : s.size ≤ 12) (h0 : (decide (97 ≤ bt s 0) && decide (bt s 0 ≤ 122)) = true) : ∀ n i k : Nat, i + n = s.size → n + 1 ≤ k → QaE.l0 k s (s.size : Int) (i : Int) = some (nmAll s i n) := by
 intro n
 induction n with
 | zero =>
  intro i k hi hk
  obtain ⟨k, rfl⟩ : ∃ m, k = m + 1 := ⟨k - 1, by omega⟩
  rw [QaE.l0, if_neg (by omega), nmAll]
 | succ n ih =>
  intro i k hi hk
  obtain ⟨k, rfl⟩ : ∃ m, k = m + 1 := ⟨k - 1, by omega⟩
  rw [QaE.l0, if_pos (by omega), if_pos (by omega), if_pos (by omega), nwrap (by omega) (by omega), show ((i : Int) + 1) = ((i + 1 : Nat) : Int) by omega, ih (i + 1) k (by omega) (by omega), QdB, Qfw, Qdb]
  unfold signOk
  simp only [Option.bind_some]
  cases i with
  | zero =>
   have e : bt s ((0 : Nat) : Int) = bt s 0 := rfl
   rw [e, h0]
   simp
  | succ j => cases (decide (97 ≤ bt s ((j + 1 : Nat) : Int)) && decide (bt s ((j + 1 : Nat) : Int) ≤ 122)) <;> cases (decide (48 ≤ bt s ((j + 1 : Nat) : Int)) && decide (bt s ((j + 1 : Nat) : Int) ≤ 57)) <;> simp
theorem Qd8 (s : ByteArray) : s.toList = ([] : List UInt8) ↔ s.size = 0 := by
 rw [toList_nil_iff_emptyBytes, ← ByteArray.size_eq_zero_iff]
theorem QeI (s : ByteArray) (k : Nat) (hk : 20 ≤ k) : QaE.f k s = some (nameOk s) := by
 obtain ⟨k, rfl⟩ : ∃ m, k = m + 1 := ⟨k - 1, by omega⟩
 unfold QaE.f nameOk
 by_cases h1 : s.size = 0
 ·rw [if_pos ((Qd8 s).2 h1), QaE.j0, if_pos rfl]
  simp [h1]
 rw [if_neg (fun h => h1 ((Qd8 s).1 h))]
 by_cases h2 : s.size > 12
 ·rw [if_pos (by omega), QaE.j0, if_pos rfl]
  simp [show ¬ s.size ≤ 12 by omega]
 rw [if_neg (by omega), if_pos (by omega), QdB, Option.bind_some, QaE.j0]
 cases hc : (decide (97 ≤ bt s 0) && decide (bt s 0 ≤ 122)) with
 | false =>
  obtain ⟨n, hn⟩ : ∃ n, s.size = n + 1 := ⟨s.size - 1, by omega⟩
  simp only [Bool.not_false, if_true]
  rw [hn, Qdb]
  unfold signOk
  rw [show bt s ((0 : Nat) : Int) = bt s 0 from rfl, hc]
  simp
 | true =>
  rw [if_neg (by simp), show (0 : Int) = ((0 : Nat) : Int) from rfl, Qff s (by omega) hc s.size 0 k (by omega) (by omega)]
  simp [show 0 < s.size by omega, show s.size ≤ 12 by omega]
end Go.Proofs.Ytgnmhfjfefgbfaa.Pr
