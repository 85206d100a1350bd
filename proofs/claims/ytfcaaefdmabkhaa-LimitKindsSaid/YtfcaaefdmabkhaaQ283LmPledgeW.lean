/- Pledges: an account's own, and what they are worth, by the program and by the reference. -/
import Derived.Test.YtfcaaefdmabkhaaQ283LmAsset
import Derived.Test.YtfcaaefdmabkhaaQ283LmAssetAll
import Derived.Test.YtfcaaefdmabkhaaQ283LmName
import Derived.Test.YtfcaaefdmabkhaaQ283LmPledge
import Derived.Test.YtfcaaefdmabkhaaQ283LmPledgeOf
import Derived.Test.YtfcaaefdmabkhaaQ283LmRate
import Derived.Test.YtfcaaefdmabkhaaQ283LmSums
import Derived.Test.YtfcaaefdmabkhaaQ283P0
import Derived.Test.YtfcaaefdmabkhaaQ283P4
import Derived.Test.YtfcaaefdmabkhaaQ283P3
namespace Go.Proofs.Ytfcaaefdmabkhaa.Pr
open Go.RowKit Go.Proofs.Ytfcaaefdmabkhaa.Pr Go.Proofs.YtfcaaefdmabkhaaW.PrintWords Go.Proofs.YtfcaaefdmabkhaaW.PrintLast Go.Proofs.YtfcaaefdmabkhaaW.PrintMore
set_option linter.unusedVariables false
set_option linter.unusedSimpArgs false
theorem Qdq (L : List As) (s : ByteArray) (hb : ∀ a ∈ L, a.f0.size ≤ 9223372036854775807) : ∀ n i : Nat, i + n = L.length → (findA L s i n).1.size ≤ 9223372036854775807 ∧ (findA L s i n).1.size ≤ szA L := by
 intro n
 induction n with
 | zero =>
  intro i _
  unfold findA
  exact ⟨by show (0 : Nat) ≤ _; omega, by show (0 : Nat) ≤ _; omega⟩
 | succ n ih =>
  intro i hi
  have hm := as_mem L i (by omega)
  rw [QcM]
  split
  ·exact ⟨hb _ hm, QdE hm⟩
  exact ih (i + 1) (by omega)
def worOf (R : List Rt) (a : FR) (q : Int) : Int × Int := worS (chkA a.1 a.2.1 a.2.2.1 a.2.2.2.1 a.2.2.2.2.1 a.2.2.2.2.2.1) a.2.2.1 a.2.2.2.1 a.2.2.2.2.1 q R
def wL (L : List As) (R : List Rt) : List Int → List Pled → Int × Int
 | acc, [] => sumS acc
 | acc, p :: t => if (findA L p.f1 0 L.length).2.2.2.2.2.2 = true then (if (worOf R (findA L p.f1 0 L.length) p.f2).2 = 0 then wL L R (acc ++ [(worOf R (findA L p.f1 0 L.length) p.f2).1]) t else (0, (worOf R (findA L p.f1 0 L.length) p.f2).2)) else (0, 11)
theorem Qc7 (L : List As) (R : List Rt) (acc : List Int) (p : Pled) (t : List Pled) : wL L R acc (p :: t) = if (findA L p.f1 0 L.length).2.2.2.2.2.2 = true then (if (worOf R (findA L p.f1 0 L.length) p.f2).2 = 0 then wL L R (acc ++ [(worOf R (findA L p.f1 0 L.length) p.f2).1]) t else (0, (worOf R (findA L p.f1 0 L.length) p.f2).2)) else (0, 11) := rfl
theorem Qf8 (L : List As) (R : List Rt) (l : List Pled) (hL : L.length ≤ 2000) (hl : l.length ≤ 2000) : ∀ n i k : Nat, i + n = l.length → n + 4200 ≤ k → ∀ acc : List Int, acc.length ≤ i → QaW.l0 k L R acc l (l.length : Int) (i : Int) = some (wL L R acc (l.drop i)) := by
 intro n
 induction n with
 | zero =>
  intro i k hi hk acc ha
  obtain ⟨k, rfl⟩ : ∃ m, k = m + 1 := ⟨k - 1, by omega⟩
  rw [QaW.l0, if_neg (by omega), List.drop_eq_nil_of_le (by omega), sum_eq acc (by omega) k (by omega), wL]
  rfl
 | succ n ih =>
  intro i k hi hk acc ha
  obtain ⟨k, rfl⟩ : ∃ m, k = m + 1 := ⟨k - 1, by omega⟩
  rw [QaW.l0, if_pos (by omega), if_pos (by omega), if_pos (by omega), QdY L _ (by omega) k (by omega), Option.bind_some, nwrap (x := (i : Int) + 1) (by omega) (by omega), show ((i : Int) + 1) = ((i + 1 : Nat) : Int) by omega, Qch l i (by omega), Qc7]
  by_cases h : (findA L (rd_T46 l (i : Int)).f1 0 L.length).2.2.2.2.2.2 = true
  ·rw [if_pos h, if_pos h, Qed _ _ _ _ _ _ _ R k (by omega), Option.bind_some]
   show (if (worOf R (findA L (rd_T46 l (i : Int)).f1 0 L.length) (rd_T46 l (i : Int)).f2).2 = 0 then _ else _) = _
   by_cases h2 : (worOf R (findA L (rd_T46 l (i : Int)).f1 0 L.length) (rd_T46 l (i : Int)).f2).2 = 0
   ·rw [if_pos h2, if_pos h2, if_pos (by omega)]
    exact ih (i + 1) k (by omega) (by omega) _ (by simp; omega)
   rw [if_neg h2, if_neg h2]
   rfl
  rw [if_neg h, if_neg h]
theorem QfJ (L : List As) (R : List Rt) (l : List Pled) (hL : L.length ≤ 2000) (hl : l.length ≤ 2000) (hb : ∀ a ∈ L, a.f0.size ≤ 9223372036854775807) (hr : ∀ r ∈ R, r.f0.size ≤ 9223372036854775807) : ∀ n i k : Nat, i + n = l.length → n + 4200 + szA L + szR R ≤ k → ∀ acc : List Int, acc.length ≤ i → Qay.l0 k L R acc l (i : Int) = some (wL L R acc (l.drop i)) := by
 intro n
 induction n with
 | zero =>
  intro i k hi hk acc ha
  obtain ⟨k, rfl⟩ : ∃ m, k = m + 1 := ⟨k - 1, by omega⟩
  rw [Qay.l0, if_neg (by omega), List.drop_eq_nil_of_le (by omega), Qgg acc (by omega) k (by omega), wL]
  rfl
 | succ n ih =>
  intro i k hi hk acc ha
  obtain ⟨k, rfl⟩ : ∃ m, k = m + 1 := ⟨k - 1, by omega⟩
  rw [Qay.l0, if_pos (by omega), if_pos (by omega), QdR L _ (by omega) k (by omega), Option.bind_some, nwrap (x := (i : Int) + 1) (by omega) (by omega), show ((i : Int) + 1) = ((i + 1 : Nat) : Int) by omega, Qch l i (by omega), Qc7]
  have hn := Qdq L (rd_T46 l (i : Int)).f1 hb L.length 0 (by omega)
  by_cases h : (findA L (rd_T46 l (i : Int)).f1 0 L.length).2.2.2.2.2.2 = true
  ·rw [if_pos h, if_pos h, QdT _ hn.1 _ _ _ _ _ _ R hr k (by omega), Option.bind_some]
   show (if (worOf R (findA L (rd_T46 l (i : Int)).f1 0 L.length) (rd_T46 l (i : Int)).f2).2 = 0 then _ else _) = _
   by_cases h2 : (worOf R (findA L (rd_T46 l (i : Int)).f1 0 L.length) (rd_T46 l (i : Int)).f2).2 = 0
   ·rw [if_pos h2, if_pos h2, if_pos (by omega)]
    exact ih (i + 1) k (by omega) (by omega) _ (by simp; omega)
   rw [if_neg h2, if_neg h2]
   rfl
  rw [if_neg h, if_neg h]
def pwS (l : List Pled) (a b : ByteArray) (L : List As) (R : List Rt) : Int × Int := if chkP l = 0 then (if chkAll L = 0 then wL L R [] (ofP a b l) else (0, chkAll L)) else (0, chkP l)
theorem Qe5 (l : List Pled) (a b : ByteArray) (L : List As) (R : List Rt) (hL : L.length ≤ 2000) (hl : l.length ≤ 2000) (k : Nat) (hk : 7000 ≤ k) : QaW.f k l a b L R = some (pwS l a b L R) := by
 unfold QaW.f pwS
 have hln := Qc4 a b l
 rw [QcY l k (by omega), Option.bind_some]
 by_cases h : chkP l = 0
 ·rw [if_pos h, if_pos h, Qc8 L k (by omega), Option.bind_some]
  by_cases h2 : chkAll L = 0
  ·rw [if_pos h2, if_pos h2, of_eq a b l (by omega) k (by omega), Option.bind_some, show (0 : Int) = ((0 : Nat) : Int) from rfl, Qf8 L R (ofP a b l) hL (by omega) (ofP a b l).length 0 k (by omega) (by omega) [] (by simp), List.drop_zero]
  rw [if_neg h2, if_neg h2]
 rw [if_neg h, if_neg h]
theorem QeK (l : List Pled) (hbl : ∀ p ∈ l, bigOk p) (a b : ByteArray) (L : List As) (R : List Rt) (hL : L.length ≤ 2000) (hl : l.length ≤ 2000) (hb : ∀ a ∈ L, a.f0.size ≤ 9223372036854775807) (hr : ∀ r ∈ R, r.f0.size ≤ 9223372036854775807) (k : Nat) (hk : 7000 + szsP l + szA L + szR R ≤ k) : Qay.f k l a b L R = some (pwS l a b L R) := by
 unfold Qay.f pwS
 have hln := Qc4 a b l
 rw [QcO l hbl k (by omega), Option.bind_some]
 by_cases h : chkP l = 0
 ·rw [if_pos h, if_pos h, QcZ L hb k (by omega), Option.bind_some]
  by_cases h2 : chkAll L = 0
  ·rw [if_pos h2, if_pos h2, rof_eq a b l (by omega) k (by omega), Option.bind_some, show (0 : Int) = ((0 : Nat) : Int) from rfl, QfJ L R (ofP a b l) hL (by omega) hb hr (ofP a b l).length 0 k (by omega) (by omega) [] (by simp), List.drop_zero]
  rw [if_neg h2, if_neg h2]
 rw [if_neg h, if_neg h]
end Go.Proofs.Ytfcaaefdmabkhaa.Pr
