/- The least number that meets what goes on to be met. -/
import Derived.Test.YtgnmhfjfefgbfaaQ3D7P0
namespace Go.Proofs.Ytgnmhfjfefgbfaa.Pr
open Go.RowKit Go.Proofs.Ytgnmhfjfefgbfaa.Pr Go.Proofs.YtgnmhfjfefgbfaaW.PrintWords Go.Proofs.YtgnmhfjfefgbfaaW.PrintLast Go.Proofs.YtgnmhfjfefgbfaaW.PrintMore
set_option linter.unusedVariables false
set_option linter.unusedSimpArgs false
def QdM (E : Int → Prop) (L : Int) : Prop := 0 ≤ L ∧ E L ∧ ∀ q, 0 ≤ q → q < L → ¬ E q
theorem Qeq (E : Int → Prop) : ∀ n : Nat, E (n : Int) → ∃ L, QdM E L ∧ L ≤ (n : Int) := by
 intro n
 induction n using Nat.strongRecOn with
 | ind n ih =>
  intro h
  by_cases hx : ∃ m : Nat, m < n ∧ E (m : Int)
  ·obtain ⟨m, hm, he⟩ := hx
   obtain ⟨L, hL, hle⟩ := ih m hm he
   exact ⟨L, hL, by omega⟩
  refine ⟨(n : Int), ⟨by omega, h, fun q h0 hq he => hx ?_⟩, Int.le_refl _⟩
  obtain ⟨m, rfl⟩ := Int.eq_ofNat_of_zero_le h0
  exact ⟨m, by omega, he⟩
theorem Qfk (E : Int → Prop) (L : Int) (hm : ∀ a b, 0 ≤ a → a ≤ b → E a → E b) (hL : QdM E L) (q : Int) (hq : 0 ≤ q) : E q ↔ L ≤ q := by
 constructor
 ·intro h
  by_cases hlt : q < L
  ·exact absurd h (hL.2.2 q hq hlt)
  omega
 intro h
 exact hm L q hL.1 h hL.2.1
end Go.Proofs.Ytgnmhfjfefgbfaa.Pr
