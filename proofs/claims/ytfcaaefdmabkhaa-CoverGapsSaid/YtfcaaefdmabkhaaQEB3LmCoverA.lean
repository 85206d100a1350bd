/- Cover: the gaps of a list of needs, by the program and by the reference. -/
import Derived.Test.YtfcaaefdmabkhaaQEB3LmAsset
import Derived.Test.YtfcaaefdmabkhaaQEB3LmAssetAll
import Derived.Test.YtfcaaefdmabkhaaQEB3LmCover0
import Derived.Test.YtfcaaefdmabkhaaQEB3LmLimit
import Derived.Test.YtfcaaefdmabkhaaQEB3LmName
import Derived.Test.YtfcaaefdmabkhaaQEB3LmPledge
import Derived.Test.YtfcaaefdmabkhaaQEB3LmRate
import Derived.Test.YtfcaaefdmabkhaaQEB3P0
import Derived.Test.YtfcaaefdmabkhaaQEB3P5
namespace Go.Proofs.Ytfcaaefdmabkhaa.Pr
open Go.RowKit Go.Proofs.Ytfcaaefdmabkhaa.Pr Go.Proofs.YtfcaaefdmabkhaaW.PrintWords Go.Proofs.YtfcaaefdmabkhaaW.PrintLast Go.Proofs.YtfcaaefdmabkhaaW.PrintMore
set_option linter.unusedVariables false
set_option linter.unusedSimpArgs false
abbrev Nd := S48
abbrev Gp := S50
theorem QcW (l : List Nd) (i : Nat) (h : i < l.length) : l.drop i = rd_T48 l (i : Int) :: l.drop (i + 1) := by
 rw [List.drop_eq_getElem_cons h]
 unfold rd_T48
 rw [Int.toNat_natCast, List.getD_eq_getElem?_getD, List.getElem?_eq_getElem h]
 rfl
theorem gp_rd (l : List Gp) (i : Nat) (h : i < l.length) : rd_T50 l (i : Int) = l[i] := by
 unfold rd_T50
 rw [Int.toNat_natCast, List.getD_eq_getElem?_getD, List.getElem?_eq_getElem h]
 rfl
def covN (l : List Pled) (L : List As) (R : List Rt) (p : Nd) : Int × Int := covS l p.f0.f0 p.f0.f1 p.f7 L R
def gapN (l : List Pled) (L : List As) (R : List Rt) (p : Nd) : Gp := ⟨⟨p.f0.f0, p.f0.f1⟩, p.f7, (covN l L R p).1, (lackS p.f7 (covN l L R p).1).1⟩
def allL (l : List Pled) (L : List As) (R : List Rt) : List Gp → List Nd → List Gp × Int
 | out, [] => (out, 0)
 | out, p :: t => if moneyN p.f7 then (if (covN l L R p).2 = 0 then (if (lackS p.f7 (covN l L R p).1).2 = 0 then allL l L R (out ++ [gapN l L R p]) t else ([], (lackS p.f7 (covN l L R p).1).2)) else ([], (covN l L R p).2)) else ([], 2)
theorem Qb0 (l : List Pled) (L : List As) (R : List Rt) (out : List Gp) (p : Nd) (t : List Nd) : allL l L R out (p :: t) = if moneyN p.f7 then (if (covN l L R p).2 = 0 then (if (lackS p.f7 (covN l L R p).1).2 = 0 then allL l L R (out ++ [gapN l L R p]) t else ([], (lackS p.f7 (covN l L R p).1).2)) else ([], (covN l L R p).2)) else ([], 2) := rfl
theorem Qd4 (l : List Pled) (L : List As) (R : List Rt) (x : List Nd) (hx : x.length ≤ 1024) : ∀ d i k : Nat, i + d = x.length → d + 7001 ≤ k → ∀ out : List Gp, out.length = i →
  QaG.l0 k out x (x.length : Int) (i : Int) l L R = some (allL l L R out (x.drop i)) := by
 intro d
 induction d with
 | zero =>
  intro i k hi hk out ho
  obtain ⟨k, rfl⟩ : ∃ m, k = m + 1 := ⟨k - 1, by omega⟩
  rw [QaG.l0, if_neg (by omega), List.drop_eq_nil_of_le (by omega)]
  rfl
 | succ d ih =>
  intro i k hi hk out ho
  obtain ⟨k, rfl⟩ : ∃ m, k = m + 1 := ⟨k - 1, by omega⟩
  rw [QaG.l0, if_pos (by omega), if_pos (by omega), if_pos (by omega), Qcf, Option.bind_some, nwrap (x := (i : Int) + 1) (by omega) (by omega), show ((i : Int) + 1) = ((i + 1 : Nat) : Int) by omega, QcW x i (by omega), Qb0]
  generalize rd_T48 x (i : Int) = p
  by_cases h1 : moneyN p.f7
  ·rw [if_pos (show decide (0 ≤ p.f7 ∧ p.f7 ≤ 1152921504606846976) = true from decide_eq_true h1), if_pos h1, Qew l _ _ _ L R k (by omega), Option.bind_some]
   show (if (covN l L R p).2 = 0 then _ else _) = _
   by_cases h2 : (covN l L R p).2 = 0
   ·rw [if_pos h2, if_pos h2, Qfb, Option.bind_some]
    show (if (lackS p.f7 (covN l L R p).1).2 = 0 then _ else _) = _
    by_cases h3 : (lackS p.f7 (covN l L R p).1).2 = 0
    ·rw [if_pos h3, if_pos h3, if_pos (by omega)]
     exact ih (i + 1) k (by omega) (by omega) _ (by simp; omega)
    rw [if_neg h3, if_neg h3]
    rfl
   rw [if_neg h2, if_neg h2]
   rfl
  rw [if_neg (show ¬ decide (0 ≤ p.f7 ∧ p.f7 ≤ 1152921504606846976) = true from fun e => h1 (of_decide_eq_true e)), if_neg h1]
def allS (l : List Pled) (L : List As) (R : List Rt) (x : List Nd) : List Gp × Int := if (x.length : Int) > 1024 then ([], 8) else allL l L R [] x
theorem Qe2 (l : List Pled) (L : List As) (R : List Rt) (x : List Nd) (k : Nat) (hk : 9000 ≤ k) : QaG.f k x l L R = some (allS l L R x) := by
 unfold QaG.f allS
 by_cases h : (x.length : Int) > 1024
 ·rw [if_pos h, if_pos h]
 rw [if_neg h, if_neg h, show (0 : Int) = ((0 : Nat) : Int) from rfl, Qd4 l L R x (by omega) x.length 0 k (by omega) (by omega) [] rfl, List.drop_zero]
theorem Qdh (l : List Pled) (L : List As) (R : List Rt) : ∀ (x : List Nd) (out : List Gp), (allL l L R out x).1.length ≤ out.length + x.length
 | [], out => by unfold allL; simp
 | p :: t, out => by
  rw [Qb0]
  have := Qdh l L R t (out ++ [gapN l L R p])
  rw [List.length_append, List.length_singleton] at this
  rw [List.length_cons]
  (repeat' split) <;> first | omega | (show (0 : Nat) ≤ _; omega)
theorem Qer (l : List Pled) (L : List As) (R : List Rt) (x : List Nd) : (allS l L R x).1.length ≤ 1024 := by
 unfold allS
 by_cases h : (x.length : Int) > 1024
 ·rw [if_pos h]; exact Nat.zero_le _
 rw [if_neg h]
 have := Qdh l L R x []
 rw [List.length_nil] at this
 omega
end Go.Proofs.Ytfcaaefdmabkhaa.Pr
