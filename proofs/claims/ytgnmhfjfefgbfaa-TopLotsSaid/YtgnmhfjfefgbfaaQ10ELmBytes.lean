/- Bytes: the order of texts. -/
import Derived.Test.YtgnmhfjfefgbfaaQ10EP0
namespace Go.Proofs.Ytgnmhfjfefgbfaa.Pr
open Go.RowKit Go.Proofs.Ytgnmhfjfefgbfaa.Pr Go.Proofs.YtgnmhfjfefgbfaaW.PrintWords Go.Proofs.YtgnmhfjfefgbfaaW.PrintLast Go.Proofs.YtgnmhfjfefgbfaaW.PrintMore
set_option linter.unusedVariables false
set_option linter.unusedSimpArgs false
theorem QdR : ∀ l : List UInt8, Op.bytesLess l l = false
 | [] => rfl
 | a :: t => by simp [Op.bytesLess, QdR t]
theorem Qcs : ∀ a b c : List UInt8, Op.bytesLess a b = true → Op.bytesLess b c = true → Op.bytesLess a c = true
 | [], b, c, h1, h2 => by
  cases b with
  | nil => simp [Op.bytesLess] at h1
  | cons x t => cases c with
   | nil => simp [Op.bytesLess] at h2
   | cons y u => rfl
 | a :: s, [], c, h1, h2 => by simp [Op.bytesLess] at h1
 | a :: s, b :: t, [], h1, h2 => by simp [Op.bytesLess] at h2
 | a :: s, b :: t, c :: u, h1, h2 => by
  have ih := Qcs s t u
  simp only [Op.bytesLess, Bool.or_eq_true, decide_eq_true_eq, Bool.and_eq_true, beq_iff_eq] at *
  rcases h1 with h1 | ⟨rfl, h1⟩
  ·rcases h2 with h2 | ⟨rfl, h2⟩
   ·exact Or.inl (UInt8.lt_trans h1 h2)
   exact Or.inl h1
  rcases h2 with h2 | ⟨rfl, h2⟩
  ·exact Or.inl h2
  exact Or.inr ⟨rfl, ih h1 h2⟩
end Go.Proofs.Ytgnmhfjfefgbfaa.Pr
