/- Rates: what Convert, Base, Cross and Total answer. -/
import Derived.Test.YtgnmhfjfefgbfaaQ3D7LmCentsMd
import Derived.Test.YtgnmhfjfefgbfaaQ3D7LmRate
import Derived.Test.YtgnmhfjfefgbfaaQ3D7LmSums
import Derived.Test.YtgnmhfjfefgbfaaQ3D7P0
import Derived.Test.YtgnmhfjfefgbfaaQ3D7P4
import Derived.Test.YtgnmhfjfefgbfaaQ3D7PrxRd
namespace Go.Proofs.Ytgnmhfjfefgbfaa.Pr
open Go.RowKit Go.Proofs.Ytgnmhfjfefgbfaa.Pr Go.Proofs.YtgnmhfjfefgbfaaW.PrintWords Go.Proofs.YtgnmhfjfefgbfaaW.PrintLast Go.Proofs.YtgnmhfjfefgbfaaW.PrintMore
set_option linter.unusedVariables false
set_option linter.unusedSimpArgs false
def mdS (a b c m : Int) : Int × Int := if mdFits a ∧ mdFits b ∧ mdFits c ∧ 1 ≤ m ∧ m ≤ 5 then (if c = 0 then (0, 4) else mdRes a b c m) else (0, 2)
def inR (l : List Rt) (i : Int) : Prop := 0 ≤ i ∧ i < (l.length : Int)
instance (l : List Rt) (i : Int) : Decidable (inR l i) := inferInstanceAs (Decidable (_ ∧ _))
def convS (l : List Rt) (n a b m : Int) : Int × Int := if chkR l = 0 then (if inR l a ∧ inR l b then mdS n (Qa0 l a).f1 (Qa0 l b).f1 m else (0, 25)) else (0, chkR l)
theorem Qf8 (l : List Rt) (n a b m : Int) (k : Nat) (hk : 60 ≤ k) : Qbm.f k l n a b m = some (convS l n a b m) := by
 unfold Qbm.f convS
 rw [QdB l k hk, Option.bind_some]
 by_cases h : chkR l = 0
 ·rw [if_pos h, if_pos h]
  unfold inR
  by_cases h1 : a < 0
  ·rw [if_pos h1, if_neg (by omega)]
  by_cases h2 : a ≥ (l.length : Int)
  ·rw [if_neg h1, if_pos h2, if_neg (by omega)]
  by_cases h3 : b < 0
  ·rw [if_neg h1, if_neg h2, if_pos h3, if_neg (by omega)]
  by_cases h4 : b ≥ (l.length : Int)
  ·rw [if_neg h1, if_neg h2, if_neg h3, if_pos h4, if_neg (by omega)]
  rw [if_neg h1, if_neg h2, if_neg h3, if_neg h4, if_pos (by omega), if_pos (by omega), if_pos (by omega), if_pos (by omega), if_pos (by omega), md_eq, Option.bind_some]
  rfl
 rw [if_neg h, if_neg h]
theorem Qf2 (l : List Rt) (n a m : Int) (k : Nat) (hk : 60 ≤ k) : QbJ.f k l n a m = some (convS l n a 0 m) := by
 unfold QbJ.f
 rw [Qf8 l _ _ _ _ k hk]
 rfl
theorem Qdp (l : List Rt) (h : chkR l = 0) : 1 ≤ l.length ∧ l.length ≤ 8 := by
 unfold chkR at h
 by_cases c : l.length = 0 ∨ 8 < l.length
 ·rw [if_pos c] at h; cases h
 omega
end Go.Proofs.Ytgnmhfjfefgbfaa.Pr
