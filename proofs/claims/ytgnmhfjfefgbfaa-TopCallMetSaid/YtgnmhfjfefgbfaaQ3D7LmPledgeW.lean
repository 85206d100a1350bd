/- Pledges: an account's own, and what they are worth, by the program and by the reference. -/
import Derived.Test.YtgnmhfjfefgbfaaQ3D7LmAsset
import Derived.Test.YtgnmhfjfefgbfaaQ3D7LmAssetAll
import Derived.Test.YtgnmhfjfefgbfaaQ3D7LmName
import Derived.Test.YtgnmhfjfefgbfaaQ3D7LmPledge
import Derived.Test.YtgnmhfjfefgbfaaQ3D7LmPledgeOf
import Derived.Test.YtgnmhfjfefgbfaaQ3D7LmRate
import Derived.Test.YtgnmhfjfefgbfaaQ3D7LmSums
import Derived.Test.YtgnmhfjfefgbfaaQ3D7P0
import Derived.Test.YtgnmhfjfefgbfaaQ3D7P6
namespace Go.Proofs.Ytgnmhfjfefgbfaa.Pr
open Go.RowKit Go.Proofs.Ytgnmhfjfefgbfaa.Pr Go.Proofs.YtgnmhfjfefgbfaaW.PrintWords Go.Proofs.YtgnmhfjfefgbfaaW.PrintLast Go.Proofs.YtgnmhfjfefgbfaaW.PrintMore
set_option linter.unusedVariables false
set_option linter.unusedSimpArgs false
def worOf (R : List Rt) (a : FR) (q : Int) : Int × Int := worS (chkA a.1 a.2.1 a.2.2.1 a.2.2.2.1 a.2.2.2.2.1 a.2.2.2.2.2.1) a.2.2.1 a.2.2.2.1 a.2.2.2.2.1 q R
def wL (L : List As) (R : List Rt) : List Int → List Pled → Int × Int
 | acc, [] => sumS acc
 | acc, p :: t => if (findA L p.f1 0 L.length).2.2.2.2.2.2 = true then (if (worOf R (findA L p.f1 0 L.length) p.f2).2 = 0 then wL L R (acc ++ [(worOf R (findA L p.f1 0 L.length) p.f2).1]) t else (0, (worOf R (findA L p.f1 0 L.length) p.f2).2)) else (0, 11)
theorem QdP (L : List As) (R : List Rt) (acc : List Int) (p : Pled) (t : List Pled) : wL L R acc (p :: t) = if (findA L p.f1 0 L.length).2.2.2.2.2.2 = true then (if (worOf R (findA L p.f1 0 L.length) p.f2).2 = 0 then wL L R (acc ++ [(worOf R (findA L p.f1 0 L.length) p.f2).1]) t else (0, (worOf R (findA L p.f1 0 L.length) p.f2).2)) else (0, 11) := rfl
theorem Qgv (L : List As) (R : List Rt) (l : List Pled) (hL : L.length ≤ 2000) (hl : l.length ≤ 2000) : ∀ n i k : Nat, i + n = l.length → n + 4200 ≤ k → ∀ acc : List Int, acc.length ≤ i → QaS.l0 k L R acc l (l.length : Int) (i : Int) = some (wL L R acc (l.drop i)) := by
 intro n
 induction n with
 | zero =>
  intro i k hi hk acc ha
  obtain ⟨k, rfl⟩ : ∃ m, k = m + 1 := ⟨k - 1, by omega⟩
  rw [QaS.l0, if_neg (by omega), List.drop_eq_nil_of_le (by omega), sum_eq acc (by omega) k (by omega), wL]
  rfl
 | succ n ih =>
  intro i k hi hk acc ha
  obtain ⟨k, rfl⟩ : ∃ m, k = m + 1 := ⟨k - 1, by omega⟩
  rw [QaS.l0, if_pos (by omega), if_pos (by omega), if_pos (by omega), QcN L _ (by omega) k (by omega), Option.bind_some, nwrap (x := (i : Int) + 1) (by omega) (by omega), show ((i : Int) + 1) = ((i + 1 : Nat) : Int) by omega, Qde l i (by omega), QdP]
  by_cases h : (findA L (Qaj l (i : Int)).f1 0 L.length).2.2.2.2.2.2 = true
  ·rw [if_pos h, if_pos h, QcA _ _ _ _ _ _ _ R k (by omega), Option.bind_some]
   show (if (worOf R (findA L (Qaj l (i : Int)).f1 0 L.length) (Qaj l (i : Int)).f2).2 = 0 then _ else _) = _
   by_cases h2 : (worOf R (findA L (Qaj l (i : Int)).f1 0 L.length) (Qaj l (i : Int)).f2).2 = 0
   ·rw [if_pos h2, if_pos h2, if_pos (by omega)]
    exact ih (i + 1) k (by omega) (by omega) _ (by simp; omega)
   rw [if_neg h2, if_neg h2]
   rfl
  rw [if_neg h, if_neg h]
def pwS (l : List Pled) (a b : ByteArray) (L : List As) (R : List Rt) : Int × Int := if chkP l = 0 then (if chkAll L = 0 then wL L R [] (ofP a b l) else (0, chkAll L)) else (0, chkP l)
theorem Qft (l : List Pled) (a b : ByteArray) (L : List As) (R : List Rt) (hL : L.length ≤ 2000) (hl : l.length ≤ 2000) (k : Nat) (hk : 7000 ≤ k) : QaS.f k l a b L R = some (pwS l a b L R) := by
 unfold QaS.f pwS
 have hln := QdN a b l
 rw [Qc3 l k (by omega), Option.bind_some]
 by_cases h : chkP l = 0
 ·rw [if_pos h, if_pos h, Qdi L k (by omega), Option.bind_some]
  by_cases h2 : chkAll L = 0
  ·rw [if_pos h2, if_pos h2, of_eq a b l (by omega) k (by omega), Option.bind_some, show (0 : Int) = ((0 : Nat) : Int) from rfl, Qgv L R (ofP a b l) hL (by omega) (ofP a b l).length 0 k (by omega) (by omega) [] (by simp), List.drop_zero]
  rw [if_neg h2, if_neg h2]
 rw [if_neg h, if_neg h]
end Go.Proofs.Ytgnmhfjfefgbfaa.Pr
