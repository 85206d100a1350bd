/- Pledges: an account's own, by the program and by the reference. -/
import Derived.Test.YtgnmhfjfefgbfaaQ3D7LmName
import Derived.Test.YtgnmhfjfefgbfaaQ3D7LmPledge
import Derived.Test.YtgnmhfjfefgbfaaQ3D7P0
import Derived.Test.YtgnmhfjfefgbfaaQ3D7P5
namespace Go.Proofs.Ytgnmhfjfefgbfaa.Pr
open Go.RowKit Go.Proofs.Ytgnmhfjfefgbfaa.Pr Go.Proofs.YtgnmhfjfefgbfaaW.PrintWords Go.Proofs.YtgnmhfjfefgbfaaW.PrintLast Go.Proofs.YtgnmhfjfefgbfaaW.PrintMore
set_option linter.unusedVariables false
set_option linter.unusedSimpArgs false
def ofP (a b : ByteArray) (l : List Pled) : List Pled := l.filter (fun p => decide (p.f0.f0 = a ∧ p.f0.f1 = b))
theorem QfP (a b : ByteArray) (p : Pled) (t : List Pled) : ofP a b (p :: t) = if p.f0.f0 = a ∧ p.f0.f1 = b then p :: ofP a b t else ofP a b t := by
 unfold ofP
 by_cases h : p.f0.f0 = a ∧ p.f0.f1 = b <;> simp [List.filter_cons, h]
theorem Qgr (a b : ByteArray) (l : List Pled) (hl : l.length ≤ 1073741824) : ∀ n i k : Nat, i + n = l.length → n + 1 ≤ k → ∀ out : List Pled, out.length ≤ i → Qa5.l0 k out l (l.length : Int) (i : Int) a b = some (out ++ ofP a b (l.drop i)) := by
 intro n
 induction n with
 | zero =>
  intro i k hi hk out ho
  obtain ⟨k, rfl⟩ : ∃ m, k = m + 1 := ⟨k - 1, by omega⟩
  rw [Qa5.l0, if_neg (by omega), List.drop_eq_nil_of_le (by omega)]
  simp [ofP]
 | succ n ih =>
  intro i k hi hk out ho
  obtain ⟨k, rfl⟩ : ∃ m, k = m + 1 := ⟨k - 1, by omega⟩
  rw [Qa5.l0, if_pos (by omega), if_pos (by omega), if_pos (by omega), nwrap (by omega) (by omega), show ((i : Int) + 1) = ((i + 1 : Nat) : Int) by omega, Qde l i (by omega), QfP]
  simp only [qcond]
  by_cases h : (Qaj l (i : Int)).f0.f0 = a ∧ (Qaj l (i : Int)).f0.f1 = b
  ·rw [if_pos h, if_pos h, if_pos (by omega), ih (i + 1) k (by omega) (by omega) _ (by simp; omega), List.append_assoc]
   rfl
  rw [if_neg h, if_neg h, ih (i + 1) k (by omega) (by omega) _ (by omega)]
theorem of_eq (a b : ByteArray) (l : List Pled) (hl : l.length ≤ 1073741824) (k : Nat) (hk : l.length + 1 ≤ k) : Qa5.f k l a b = some (ofP a b l) := by
 unfold Qa5.f
 rw [show (0 : Int) = ((0 : Nat) : Int) from rfl, Qgr a b l hl l.length 0 k (by omega) hk [] (by simp), List.drop_zero, List.nil_append]
theorem QdN (a b : ByteArray) (l : List Pled) : (ofP a b l).length ≤ l.length := List.length_filter_le _ _
end Go.Proofs.Ytgnmhfjfefgbfaa.Pr
