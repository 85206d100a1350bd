/- Tier: which spreads are formed, by the program and by the reference. -/
import Derived.Test.YtgnmhfjfefgbfaaQ10EP0
namespace Go.Proofs.Ytgnmhfjfefgbfaa.Pr
open Go.RowKit Go.Proofs.Ytgnmhfjfefgbfaa.Pr Go.Proofs.YtgnmhfjfefgbfaaW.PrintWords Go.Proofs.YtgnmhfjfefgbfaaW.PrintLast Go.Proofs.YtgnmhfjfefgbfaaW.PrintMore
set_option linter.unusedVariables false
set_option linter.unusedSimpArgs false
abbrev Sp := S146
theorem rd_at (l : List Int) (i : Nat) (h : i < l.length) : rd l (i : Int) = l[i] := by
 unfold rd
 rw [Int.toNat_natCast, List.getD_eq_getElem?_getD, List.getElem?_eq_getElem h]
 rfl
theorem Qeb (l : List Int) (a : Nat) (v : Int) (h : a < l.length) : (l.set a v).sum = l.sum - rd l (a : Int) + v := by
 rw [rd_at l a h]
 induction l generalizing a with
 | nil => cases h
 | cons x t ih =>
  cases a with
  | zero => simp; omega
  | succ a =>
   have := ih a (by simpa using h)
   simp only [List.set_cons_succ, List.sum_cons, List.getElem_cons_succ] at this ⊢
   omega
end Go.Proofs.Ytgnmhfjfefgbfaa.Pr
