/- What All answers. -/
import Derived.Test.YtgnmhfjfefgbfaaQ3D7LmAsset
import Derived.Test.YtgnmhfjfefgbfaaQ3D7LmCover0
import Derived.Test.YtgnmhfjfefgbfaaQ3D7LmLimit
import Derived.Test.YtgnmhfjfefgbfaaQ3D7LmName
import Derived.Test.YtgnmhfjfefgbfaaQ3D7LmPledge
import Derived.Test.YtgnmhfjfefgbfaaQ3D7LmRate
import Derived.Test.YtgnmhfjfefgbfaaQ3D7P0
import Derived.Test.YtgnmhfjfefgbfaaQ3D7P8
namespace Go.Proofs.Ytgnmhfjfefgbfaa.Pr
open Go.RowKit Go.Proofs.Ytgnmhfjfefgbfaa.Pr Go.Proofs.YtgnmhfjfefgbfaaW.PrintWords Go.Proofs.YtgnmhfjfefgbfaaW.PrintLast Go.Proofs.YtgnmhfjfefgbfaaW.PrintMore
set_option linter.unusedVariables false
set_option linter.unusedSimpArgs false
abbrev Nd := S101
abbrev Gp := S108
theorem Qgq (l : List Nd) (i : Nat) (h : i < l.length) : l.drop i = Qao l (i : Int) :: l.drop (i + 1) := by
 rw [List.drop_eq_getElem_cons h]
 unfold Qao
 rw [Int.toNat_natCast, List.getD_eq_getElem?_getD, List.getElem?_eq_getElem h]
 rfl
def covN (l : List Pled) (L : List As) (R : List Rt) (p : Nd) : Int × Int := covS l p.f0.f0 p.f0.f1 p.f7 L R
def gapN (l : List Pled) (L : List As) (R : List Rt) (p : Nd) : Gp := ⟨⟨p.f0.f0, p.f0.f1⟩, p.f7, (covN l L R p).1, (lackS p.f7 (covN l L R p).1).1⟩
def allL (l : List Pled) (L : List As) (R : List Rt) : List Gp → List Nd → List Gp × Int
 | out, [] => (out, 0)
 | out, p :: t => if moneyN p.f7 then (if (covN l L R p).2 = 0 then (if (lackS p.f7 (covN l L R p).1).2 = 0 then allL l L R (out ++ [gapN l L R p]) t else ([], (lackS p.f7 (covN l L R p).1).2)) else ([], (covN l L R p).2)) else ([], 2)
theorem QeX (l : List Pled) (L : List As) (R : List Rt) (out : List Gp) (p : Nd) (t : List Nd) : allL l L R out (p :: t) = if moneyN p.f7 then (if (covN l L R p).2 = 0 then (if (lackS p.f7 (covN l L R p).1).2 = 0 then allL l L R (out ++ [gapN l L R p]) t else ([], (lackS p.f7 (covN l L R p).1).2)) else ([], (covN l L R p).2)) else ([], 2) := rfl
theorem Qe0 (l : List Pled) (L : List As) (R : List Rt) (x : List Nd) (hx : x.length ≤ 1024) : ∀ d i k : Nat, i + d = x.length → d + 7001 ≤ k → ∀ out : List Gp, out.length = i →
  Qbf.l0 k out x (x.length : Int) (i : Int) l L R = some (allL l L R out (x.drop i)) := by
 intro d
 induction d with
 | zero =>
  intro i k hi hk out ho
  obtain ⟨k, rfl⟩ : ∃ m, k = m + 1 := ⟨k - 1, by omega⟩
  rw [Qbf.l0, if_neg (by omega), List.drop_eq_nil_of_le (by omega)]
  rfl
 | succ d ih =>
  intro i k hi hk out ho
  obtain ⟨k, rfl⟩ : ∃ m, k = m + 1 := ⟨k - 1, by omega⟩
  rw [Qbf.l0, if_pos (by omega), if_pos (by omega), if_pos (by omega), Qc1, Option.bind_some, nwrap (x := (i : Int) + 1) (by omega) (by omega), show ((i : Int) + 1) = ((i + 1 : Nat) : Int) by omega, Qgq x i (by omega), QeX]
  generalize Qao x (i : Int) = p
  by_cases h1 : moneyN p.f7
  ·rw [if_pos (show decide (0 ≤ p.f7 ∧ p.f7 ≤ 1152921504606846976) = true from decide_eq_true h1), if_pos h1, QfB l _ _ _ L R k (by omega), Option.bind_some]
   show (if (covN l L R p).2 = 0 then _ else _) = _
   by_cases h2 : (covN l L R p).2 = 0
   ·rw [if_pos h2, if_pos h2, Qgg, Option.bind_some]
    show (if (lackS p.f7 (covN l L R p).1).2 = 0 then _ else _) = _
    by_cases h3 : (lackS p.f7 (covN l L R p).1).2 = 0
    ·rw [if_pos h3, if_pos h3, if_pos (by omega)]
     exact ih (i + 1) k (by omega) (by omega) _ (by simp; omega)
    rw [if_neg h3, if_neg h3]
    rfl
   rw [if_neg h2, if_neg h2]
   rfl
  rw [if_neg (show ¬ decide (0 ≤ p.f7 ∧ p.f7 ≤ 1152921504606846976) = true from fun e => h1 (of_decide_eq_true e)), if_neg h1]
def allS (l : List Pled) (L : List As) (R : List Rt) (x : List Nd) : List Gp × Int := if (x.length : Int) > 1024 then ([], 8) else allL l L R [] x
theorem Qf4 (l : List Pled) (L : List As) (R : List Rt) (x : List Nd) (k : Nat) (hk : 9000 ≤ k) : Qbf.f k x l L R = some (allS l L R x) := by
 unfold Qbf.f allS
 by_cases h : (x.length : Int) > 1024
 ·rw [if_pos h, if_pos h]
 rw [if_neg h, if_neg h, show (0 : Int) = ((0 : Nat) : Int) from rfl, Qe0 l L R x (by omega) x.length 0 k (by omega) (by omega) [] rfl, List.drop_zero]
end Go.Proofs.Ytgnmhfjfefgbfaa.Pr
