/- cents.Sum and the reference's: the sum of a list that is not too long (2^30), if each number and it fit. -/
import Derived.Test.YtgnmhfjfefgbfaaQ10ELmCentsMd
import Derived.Test.YtgnmhfjfefgbfaaQ10EP0
namespace Go.Proofs.Ytgnmhfjfefgbfaa.Pr
open Go.RowKit Go.Proofs.Ytgnmhfjfefgbfaa.Pr Go.Proofs.YtgnmhfjfefgbfaaW.PrintWords Go.Proofs.YtgnmhfjfefgbfaaW.PrintLast Go.Proofs.YtgnmhfjfefgbfaaW.PrintMore
set_option linter.unusedVariables false
set_option linter.unusedSimpArgs false
theorem Qdg (x : Int) : Go.bits .and .i64 x 4294967295 = x % 4294967296 := by
 have h : (BitVec.ofInt 64 x &&& BitVec.ofInt 64 4294967295).toNat = (x % 18446744073709551616).toNat % 4294967296 := by
  rw [BitVec.toNat_and, BitVec.toNat_ofInt, BitVec.toNat_ofInt]
  have e : ((4294967295 : Int) % ((2 ^ 64 : Nat) : Int)).toNat = 2 ^ 32 - 1 := by decide
  have e2 : ((2 ^ 64 : Nat) : Int) = 18446744073709551616 := by decide
  rw [e, Nat.and_two_pow_sub_one_eq_mod, e2]
 show IntKind.i64.wrap (((BitVec.ofInt 64 x &&& BitVec.ofInt 64 4294967295).toNat : Nat) : Int) = _
 rw [h, IntKind.wrap_i64]
 omega
def sumS (l : List Int) : Int × Int := if ∀ x ∈ l, mdFits x then (if mdFits l.sum then (l.sum, 0) else (0, 3)) else (0, 2)
theorem QfD (l : List Int) (i : Nat) (h : i < l.length) : l.drop i = rd l (i : Int) :: l.drop (i + 1) := by
 unfold rd
 rw [Int.toNat_natCast, List.getD_eq_getElem?_getD, List.getElem?_eq_getElem h, List.drop_eq_getElem_cons h]
 rfl
theorem Qfa (l : List Int) (hl : l.length ≤ 1073741824) :
  ∀ (d i k : Nat) (hi lo : Int), l.length - i = d → i ≤ l.length → d < k → -((i : Int) * 268435456) ≤ hi → hi ≤ (i : Int) * 268435456 → 0 ≤ lo → lo ≤ (i : Int) * 4294967296 →
   QaG.l0 k l hi lo (l.length : Int) (i : Int) =
    some (if ∀ x ∈ l.drop i, mdFits x then (if mdFits (hi * 4294967296 + lo + (l.drop i).sum) then (hi * 4294967296 + lo + (l.drop i).sum, 0) else (0, 3)) else (0, 2)) := by
 intro d
 induction d with
 | zero =>
  intro i k hi lo hd hil hk b1 b2 b3 b4
  obtain ⟨k, rfl⟩ : ∃ m, k = m + 1 := ⟨k - 1, by omega⟩
  obtain rfl : i = l.length := by omega
  simp only [QaG.l0]
  rw [if_neg (by omega), List.drop_length]
  have w1 : wrap64 (hi + lo / 4294967296) = hi + lo / 4294967296 := by unfold wrap64; omega
  rw [w1, Qdg]
  simp only [List.not_mem_nil, false_implies, implies_true, if_true, List.sum_nil, Int.add_zero]
  by_cases c1 : hi + lo / 4294967296 < -268435456
  ·rw [if_pos c1, if_neg (by unfold mdFits; omega)]
  rw [if_neg c1]
  by_cases c2 : hi + lo / 4294967296 > 268435456
  ·rw [if_pos c2, if_neg (by unfold mdFits; omega)]
  rw [if_neg c2]
  have w2 : wrap64 (wrap64 ((hi + lo / 4294967296) * 4294967296) + lo % 4294967296) = hi * 4294967296 + lo := by unfold wrap64; omega
  rw [w2, Qee]
  rfl
 | succ d ih =>
  intro i k hi lo hd hil hk b1 b2 b3 b4
  obtain ⟨k, rfl⟩ : ∃ m, k = m + 1 := ⟨k - 1, by omega⟩
  have hlt : i < l.length := by omega
  simp only [QaG.l0]
  rw [if_pos (by omega), if_pos (by omega), if_pos (by omega), QdX, QfD l i hlt]
  simp only [Option.bind_some, Qdg]
  generalize rd l (i : Int) = x at *
  by_cases hx : mdFits x
  ·have hx' : -1152921504606846976 ≤ x ∧ x ≤ 1152921504606846976 := hx
   have r := ih (i + 1) k (hi + x / 4294967296) (lo + x % 4294967296) (by omega) (by omega) (by omega) (by omega) (by omega) (by omega) (by omega)
   have e : (hi + x / 4294967296) * 4294967296 + (lo + x % 4294967296) + (l.drop (i + 1)).sum = hi * 4294967296 + lo + (x :: l.drop (i + 1)).sum := by
    rw [List.sum_cons]; omega
   have w1 : wrap64 (hi + x / 4294967296) = hi + x / 4294967296 := by unfold mdFits at hx; unfold wrap64; omega
   have w2 : wrap64 (lo + x % 4294967296) = lo + x % 4294967296 := by unfold wrap64; omega
   have w3 : wrap64 ((i : Int) + 1) = ((i + 1 : Nat) : Int) := by unfold wrap64; omega
   rw [decide_eq_true hx, if_pos rfl, w1, w2, w3, r]
   rw [e]
   simp only [List.mem_cons, forall_eq_or_imp, hx, true_and]
  rw [decide_eq_false hx, if_neg (by decide), if_neg (fun h => hx (h x List.mem_cons_self))]
theorem sum_eq (l : List Int) (hl : l.length ≤ 1073741824) (k : Nat) (hk : l.length < k) : QaG.f k l = some (sumS l) := by
 unfold QaG.f sumS
 have h := Qfa l hl l.length 0 k 0 0 rfl (by omega) hk (by omega) (by omega) (by omega) (by omega)
 rw [show ((0 : Nat) : Int) = 0 from rfl] at h
 rw [h]
 simp
end Go.Proofs.Ytgnmhfjfefgbfaa.Pr
