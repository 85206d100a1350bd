/- Cover: the gaps of a list of needs, by the program and by the reference. -/
import Derived.Test.YtfcaaefdmabkhaaQCF9LmAsset
import Derived.Test.YtfcaaefdmabkhaaQCF9LmAssetAll
import Derived.Test.YtfcaaefdmabkhaaQCF9LmCover0
import Derived.Test.YtfcaaefdmabkhaaQCF9LmLimit
import Derived.Test.YtfcaaefdmabkhaaQCF9LmName
import Derived.Test.YtfcaaefdmabkhaaQCF9LmPledge
import Derived.Test.YtfcaaefdmabkhaaQCF9LmRate
import Derived.Test.YtfcaaefdmabkhaaQCF9P0
import Derived.Test.YtfcaaefdmabkhaaQCF9P5
import Derived.Test.YtfcaaefdmabkhaaQCF9P8
import Derived.Test.YtfcaaefdmabkhaaQCF9P2
namespace Go.Proofs.Ytfcaaefdmabkhaa.Pr
open Go.RowKit Go.Proofs.Ytfcaaefdmabkhaa.Pr Go.Proofs.YtfcaaefdmabkhaaW.PrintWords Go.Proofs.YtfcaaefdmabkhaaW.PrintLast Go.Proofs.YtfcaaefdmabkhaaW.PrintMore
set_option linter.unusedVariables false
set_option linter.unusedSimpArgs false
abbrev Nd := S48
abbrev Gp := S50
abbrev RGp := S100
theorem Qez (l : List Nd) (i : Nat) (h : i < l.length) : l.drop i = rd_T48 l (i : Int) :: l.drop (i + 1) := by
 rw [List.drop_eq_getElem_cons h]
 unfold rd_T48
 rw [Int.toNat_natCast, List.getD_eq_getElem?_getD, List.getElem?_eq_getElem h]
 rfl
theorem gp_rd (l : List Gp) (i : Nat) (h : i < l.length) : rd_T50 l (i : Int) = l[i] := by
 unfold rd_T50
 rw [Int.toNat_natCast, List.getD_eq_getElem?_getD, List.getElem?_eq_getElem h]
 rfl
theorem rgp_rd (l : List RGp) (i : Nat) (h : i < l.length) : Qbq l (i : Int) = l[i] := by
 unfold Qbq
 rw [Int.toNat_natCast, List.getD_eq_getElem?_getD, List.getElem?_eq_getElem h]
 rfl
def toR (g : Gp) : RGp := ⟨⟨g.f0.f0, g.f0.f1⟩, g.f1, g.f2, g.f3⟩
def covN (l : List Pled) (L : List As) (R : List Rt) (p : Nd) : Int × Int := covS l p.f0.f0 p.f0.f1 p.f7 L R
def gapN (l : List Pled) (L : List As) (R : List Rt) (p : Nd) : Gp := ⟨⟨p.f0.f0, p.f0.f1⟩, p.f7, (covN l L R p).1, (lackS p.f7 (covN l L R p).1).1⟩
def allL (l : List Pled) (L : List As) (R : List Rt) : List Gp → List Nd → List Gp × Int
 | out, [] => (out, 0)
 | out, p :: t => if moneyN p.f7 then (if (covN l L R p).2 = 0 then (if (lackS p.f7 (covN l L R p).1).2 = 0 then allL l L R (out ++ [gapN l L R p]) t else ([], (lackS p.f7 (covN l L R p).1).2)) else ([], (covN l L R p).2)) else ([], 2)
theorem QcY (l : List Pled) (L : List As) (R : List Rt) (out : List Gp) (p : Nd) (t : List Nd) : allL l L R out (p :: t) = if moneyN p.f7 then (if (covN l L R p).2 = 0 then (if (lackS p.f7 (covN l L R p).1).2 = 0 then allL l L R (out ++ [gapN l L R p]) t else ([], (lackS p.f7 (covN l L R p).1).2)) else ([], (covN l L R p).2)) else ([], 2) := rfl
theorem Qe1 (l : List Pled) (L : List As) (R : List Rt) (x : List Nd) (hx : x.length ≤ 1024) : ∀ d i k : Nat, i + d = x.length → d + 7001 ≤ k → ∀ out : List Gp, out.length = i →
  Qa7.l0 k out x (x.length : Int) (i : Int) l L R = some (allL l L R out (x.drop i)) := by
 intro d
 induction d with
 | zero =>
  intro i k hi hk out ho
  obtain ⟨k, rfl⟩ : ∃ m, k = m + 1 := ⟨k - 1, by omega⟩
  rw [Qa7.l0, if_neg (by omega), List.drop_eq_nil_of_le (by omega)]
  rfl
 | succ d ih =>
  intro i k hi hk out ho
  obtain ⟨k, rfl⟩ : ∃ m, k = m + 1 := ⟨k - 1, by omega⟩
  rw [Qa7.l0, if_pos (by omega), if_pos (by omega), if_pos (by omega), Qc0, Option.bind_some, nwrap (x := (i : Int) + 1) (by omega) (by omega), show ((i : Int) + 1) = ((i + 1 : Nat) : Int) by omega, Qez x i (by omega), QcY]
  generalize rd_T48 x (i : Int) = p
  by_cases h1 : moneyN p.f7
  ·rw [if_pos (show decide (0 ≤ p.f7 ∧ p.f7 ≤ 1152921504606846976) = true from decide_eq_true h1), if_pos h1, Qfz l _ _ _ L R k (by omega), Option.bind_some]
   show (if (covN l L R p).2 = 0 then _ else _) = _
   by_cases h2 : (covN l L R p).2 = 0
   ·rw [if_pos h2, if_pos h2, Qgh, Option.bind_some]
    show (if (lackS p.f7 (covN l L R p).1).2 = 0 then _ else _) = _
    by_cases h3 : (lackS p.f7 (covN l L R p).1).2 = 0
    ·rw [if_pos h3, if_pos h3, if_pos (by omega)]
     exact ih (i + 1) k (by omega) (by omega) _ (by simp; omega)
    ·rw [if_neg h3, if_neg h3]
     rfl
   ·rw [if_neg h2, if_neg h2]
    rfl
  ·rw [if_neg (show ¬ decide (0 ≤ p.f7 ∧ p.f7 ≤ 1152921504606846976) = true from fun e => h1 (of_decide_eq_true e)), if_neg h1]
def mapR (x : List Gp × Int) : List RGp × Int := (x.1.map toR, x.2)
theorem Qel (l : List Pled) (hbl : ∀ p ∈ l, bigOk p) (L : List As) (R : List Rt) (hb : ∀ a ∈ L, a.f0.size ≤ 9223372036854775807) (hr : ∀ r ∈ R, r.f0.size ≤ 9223372036854775807) (x : List Nd) (hx : x.length ≤ 1024) : ∀ d i k : Nat, i + d = x.length → 2 * d + 7010 + szsP l + szA L + szR R ≤ k → ∀ out : List Gp, out.length = i →
  QaE.l0 k x l L R (out.map toR) (i : Int) = some (mapR (allL l L R out (x.drop i))) := by
 intro d
 induction d with
 | zero =>
  intro i k hi hk out ho
  obtain ⟨k, rfl⟩ : ∃ m, k = m + 1 := ⟨k - 1, by omega⟩
  rw [QaE.l0, if_neg (by omega), List.drop_eq_nil_of_le (by omega)]
  rfl
 | succ d ih =>
  intro i k hi hk out ho
  obtain ⟨k, rfl⟩ : ∃ m, k = m + 2 := ⟨k - 2, by omega⟩
  rw [QaE.l0, if_pos (by omega), if_pos (by omega), Qez x i (by omega), QcY]
  by_cases h1 : moneyN (rd_T48 x (i : Int)).f7
  ·have e1 : ¬ (rd_T48 x (i : Int)).f7 < 0 := by have := h1.1; omega
   have e2 : ¬ (rd_T48 x (i : Int)).f7 > 1152921504606846976 := by have := h1.2; omega
   rw [if_neg e1, decide_eq_false e2, QaE.j1, if_neg (by simp), if_pos (by omega), if_pos (by omega), if_pos h1, Qfm l hbl _ _ _ L R hb hr k (by omega), Option.bind_some, nwrap (x := (i : Int) + 1) (by omega) (by omega), show ((i : Int) + 1) = ((i + 1 : Nat) : Int) by omega]
   generalize rd_T48 x (i : Int) = p at *
   show (if (covN l L R p).2 = 0 then _ else _) = _
   by_cases h2 : (covN l L R p).2 = 0
   ·rw [if_pos h2, if_pos h2, QfY, Option.bind_some]
    show (if (lackS p.f7 (covN l L R p).1).2 = 0 then _ else _) = _
    by_cases h3 : (lackS p.f7 (covN l L R p).1).2 = 0
    ·rw [if_pos h3, if_pos h3, if_pos (by simp; omega)]
     have := ih (i + 1) k (by omega) (by omega) (out ++ [gapN l L R p]) (by simp; omega)
     rw [List.map_append] at this
     exact this
    ·rw [if_neg h3, if_neg h3]
     rfl
   ·rw [if_neg h2, if_neg h2]
    rfl
  ·by_cases e1 : (rd_T48 x (i : Int)).f7 < 0
   ·rw [if_pos e1, QaE.j1, if_pos rfl, if_neg h1]
    rfl
   ·have e2 : (rd_T48 x (i : Int)).f7 > 1152921504606846976 := by
     unfold moneyN at h1; omega
    rw [if_neg e1, decide_eq_true e2, QaE.j1, if_pos rfl, if_neg h1]
    rfl
def allS (l : List Pled) (L : List As) (R : List Rt) (x : List Nd) : List Gp × Int := if (x.length : Int) > 1024 then ([], 8) else allL l L R [] x
theorem Qf9 (l : List Pled) (L : List As) (R : List Rt) (x : List Nd) (k : Nat) (hk : 9000 ≤ k) : Qa7.f k x l L R = some (allS l L R x) := by
 unfold Qa7.f allS
 by_cases h : (x.length : Int) > 1024
 ·rw [if_pos h, if_pos h]
 ·rw [if_neg h, if_neg h, show (0 : Int) = ((0 : Nat) : Int) from rfl, Qe1 l L R x (by omega) x.length 0 k (by omega) (by omega) [] rfl, List.drop_zero]
theorem Qfk (l : List Pled) (hbl : ∀ p ∈ l, bigOk p) (L : List As) (R : List Rt) (hb : ∀ a ∈ L, a.f0.size ≤ 9223372036854775807) (hr : ∀ r ∈ R, r.f0.size ≤ 9223372036854775807) (x : List Nd) (k : Nat) (hk : 9100 + szsP l + szA L + szR R ≤ k) : QaE.f k x l L R = some (mapR (allS l L R x)) := by
 unfold QaE.f allS
 by_cases h : (x.length : Int) > 1024
 ·rw [if_pos h, if_pos h]; rfl
 ·rw [if_neg h, if_neg h, show (0 : Int) = ((0 : Nat) : Int) from rfl, show ([] : List RGp) = ([] : List Gp).map toR from rfl, Qel l hbl L R hb hr x (by omega) x.length 0 k (by omega) (by omega) [] rfl, List.drop_zero]
theorem Qer (l : List Gp) (hl : l.length ≤ 1073741824) : ∀ n i k : Nat, i + n = l.length → 2 * n + 2 ≤ k → QaC.l0 k l (l.map toR) (i : Int) = some true := by
 intro n
 induction n with
 | zero =>
  intro i k hi hk
  obtain ⟨k, rfl⟩ : ∃ m, k = m + 2 := ⟨k - 2, by omega⟩
  rw [QaC.l0, if_neg (by omega), QaC.j1, if_neg (by simp), List.length_map, beq_self_eq_true]
 | succ n ih =>
  intro i k hi hk
  obtain ⟨k, rfl⟩ : ∃ m, k = m + 2 := ⟨k - 2, by omega⟩
  rw [QaC.l0, if_pos (by omega), List.length_map, decide_eq_true (show (i : Int) < (l.length : Int) by omega), QaC.j1, if_pos rfl, if_pos (by omega), if_pos (by omega), List.length_map, if_pos (by omega), rgp_rd (l.map toR) i (by simp; omega), List.getElem_map, gp_rd l i (by omega), nwrap (by omega) (by omega), show ((i : Int) + 1) = ((i + 1 : Nat) : Int) by omega]
  rw [if_neg (by simp [toR]), if_pos (show l[i].f1 = (toR l[i]).f1 from rfl), if_pos (show l[i].f2 = (toR l[i]).f2 from rfl), if_pos (show l[i].f3 = (toR l[i]).f3 from rfl), ih (i + 1) k (by omega) (by omega)]
theorem Qes (l : List Gp) (hl : l.length ≤ 1073741824) (k : Nat) (hk : 2 * l.length + 2 ≤ k) : QaC.f k l (l.map toR) = some true := by
 unfold QaC.f
 rw [show (0 : Int) = ((0 : Nat) : Int) from rfl, Qer l hl l.length 0 k (by omega) hk]
theorem Qd2 (l : List Pled) (L : List As) (R : List Rt) : ∀ (x : List Nd) (out : List Gp), (allL l L R out x).1.length ≤ out.length + x.length
 | [], out => by unfold allL; simp
 | p :: t, out => by
  rw [QcY]
  have := Qd2 l L R t (out ++ [gapN l L R p])
  rw [List.length_append, List.length_singleton] at this
  rw [List.length_cons]
  (repeat' split) <;> first | omega | (show (0 : Nat) ≤ _; omega)
theorem Qfv (l : List Pled) (L : List As) (R : List Rt) (x : List Nd) : (allS l L R x).1.length ≤ 1024 := by
 unfold allS
 by_cases h : (x.length : Int) > 1024
 ·rw [if_pos h]; exact Nat.zero_le _
 ·rw [if_neg h]
  have := Qd2 l L R x []
  rw [List.length_nil] at this
  omega
end Go.Proofs.Ytfcaaefdmabkhaa.Pr
