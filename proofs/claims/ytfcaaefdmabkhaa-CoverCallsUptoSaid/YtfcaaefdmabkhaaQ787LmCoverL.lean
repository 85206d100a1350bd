/- Cover: gaps turned, and who is called. -/
import Derived.Test.YtfcaaefdmabkhaaQ787P0
import Derived.Test.YtfcaaefdmabkhaaQ787LmCover0
import Derived.Test.YtfcaaefdmabkhaaQ787LmCoverA
import Derived.Test.YtfcaaefdmabkhaaQ787LmName
import Derived.Test.YtfcaaefdmabkhaaQ787P3
import Derived.Test.YtfcaaefdmabkhaaQ787P6
namespace Go.Proofs.Ytfcaaefdmabkhaa.Pr
open Go.RowKit Go.Proofs.Ytfcaaefdmabkhaa.Pr Go.Proofs.YtfcaaefdmabkhaaW.PrintWords Go.Proofs.YtfcaaefdmabkhaaW.PrintLast Go.Proofs.YtfcaaefdmabkhaaW.PrintMore
set_option linter.unusedVariables false
set_option linter.unusedSimpArgs false
def toG (g : RGp) : Gp := ⟨⟨g.f0.f0, g.f0.f1⟩, g.f1, g.f2, g.f3⟩
theorem QdJ (l : List RGp) (hl : l.length ≤ 2513169434900) : ∀ d i k : Nat, i + d = l.length → d + 1 ≤ k → ∀ out : List Gp, out.length = i → QaC.l0 k l out (i : Int) = some (out ++ (l.drop i).map toG) := by
 intro d
 induction d with
 | zero =>
  intro i k hi hk out ho
  obtain ⟨k, rfl⟩ : ∃ m, k = m + 1 := ⟨k - 1, by omega⟩
  rw [QaC.l0, if_neg (by omega), List.drop_eq_nil_of_le (by omega)]
  simp
 | succ d ih =>
  intro i k hi hk out ho
  obtain ⟨k, rfl⟩ : ∃ m, k = m + 1 := ⟨k - 1, by omega⟩
  rw [QaC.l0, if_pos (by omega), if_pos (by omega), if_pos (by omega), nwrap (by omega) (by omega), show ((i : Int) + 1) = ((i + 1 : Nat) : Int) by omega, ih (i + 1) k (by omega) (by omega) _ (by simp; omega), Qcn l i (by omega), List.map_cons, List.append_assoc]
  rfl
theorem Qef (l : List RGp) (hl : l.length ≤ 2513169434900) (k : Nat) (hk : l.length + 1 ≤ k) : QaC.f k l = some (l.map toG) := by
 unfold QaC.f
 rw [show (0 : Int) = ((0 : Nat) : Int) from rfl, QdJ l hl l.length 0 k (by omega) hk [] rfl, List.drop_zero, List.nil_append]
def Qb0 (n : Int) (g : Gp) : Bool := decide (g.f3 ≥ n ∧ g.f3 > 0)
theorem Qdv (n : Int) (l : List Gp) (hl : l.length ≤ 2513169434900) : ∀ d i k : Nat, i + d = l.length → d + 1 ≤ k → ∀ out : List Gp, out.length ≤ i → QaG.l0 k n out l (l.length : Int) (i : Int) = some (out ++ (l.drop i).filter (Qb0 n)) := by
 intro d
 induction d with
 | zero =>
  intro i k hi hk out ho
  obtain ⟨k, rfl⟩ : ∃ m, k = m + 1 := ⟨k - 1, by omega⟩
  rw [QaG.l0, if_neg (by omega), List.drop_eq_nil_of_le (by omega)]
  simp
 | succ d ih =>
  intro i k hi hk out ho
  obtain ⟨k, rfl⟩ : ∃ m, k = m + 1 := ⟨k - 1, by omega⟩
  rw [QaG.l0, if_pos (by omega), if_pos (by omega), if_pos (by omega), nwrap (by omega) (by omega), show ((i : Int) + 1) = ((i + 1 : Nat) : Int) by omega, Qeg l i (by omega)]
  generalize rd_T50 l (i : Int) = g
  by_cases h1 : g.f3 ≥ n
  ·rw [if_pos h1]
   by_cases h2 : g.f3 > 0
   ·rw [if_pos h2, if_pos (by omega), ih (i + 1) k (by omega) (by omega) _ (by simp; omega), List.filter_cons, if_pos (by unfold Qb0; exact decide_eq_true ⟨h1, h2⟩), List.append_assoc]
    rfl
   rw [if_neg h2, ih (i + 1) k (by omega) (by omega) _ (by omega), List.filter_cons, if_neg (by unfold Qb0; intro e; exact h2 (of_decide_eq_true e).2)]
  rw [if_neg h1, ih (i + 1) k (by omega) (by omega) _ (by omega), List.filter_cons, if_neg (by unfold Qb0; intro e; exact h1 (of_decide_eq_true e).1)]
theorem QdV (n : Int) (l : List Gp) (hl : l.length ≤ 2513169434900) (k : Nat) (hk : l.length + 1 ≤ k) : QaG.f k l n = some (l.filter (Qb0 n)) := by
 unfold QaG.f
 rw [show (0 : Int) = ((0 : Nat) : Int) from rfl, Qdv n l hl l.length 0 k (by omega) hk [] (Nat.le_refl _), List.drop_zero, List.nil_append]
end Go.Proofs.Ytfcaaefdmabkhaa.Pr
