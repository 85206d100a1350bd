/- cents.Sum and the reference's: the sum of a list that is not too long (2^30), if each number and it fit. -/
import Derived.Test.YtggbflplbblgbaaQ6B9LmCentsMd
import Derived.Test.YtggbflplbblgbaaQ6B9P0
import Derived.Test.YtggbflplbblgbaaQ6B9P2
namespace Go.Proofs.Ytggbflplbblgbaa.Pr
open Go.RowKit Go.Proofs.Ytggbflplbblgbaa.Pr Go.Proofs.YtggbflplbblgbaaW.PrintWords Go.Proofs.YtggbflplbblgbaaW.PrintLast Go.Proofs.YtggbflplbblgbaaW.PrintMore
set_option linter.unusedVariables false
set_option linter.unusedSimpArgs false
theorem Qcw (x : Int) : Go.bits .and .i64 x 4294967295 = x % 4294967296 := by
 have h : (BitVec.ofInt 64 x &&& BitVec.ofInt 64 4294967295).toNat = (x % 18446744073709551616).toNat % 4294967296 := by
  rw [BitVec.toNat_and, BitVec.toNat_ofInt, BitVec.toNat_ofInt]
  have e : ((4294967295 : Int) % ((2 ^ 64 : Nat) : Int)).toNat = 2 ^ 32 - 1 := by decide
  have e2 : ((2 ^ 64 : Nat) : Int) = 18446744073709551616 := by decide
  rw [e, Nat.and_two_pow_sub_one_eq_mod, e2]
 show IntKind.i64.wrap (((BitVec.ofInt 64 x &&& BitVec.ofInt 64 4294967295).toNat : Nat) : Int) = _
 rw [h, IntKind.wrap_i64]
 omega
def sumS (l : List Int) : Int × Int := if ∀ x ∈ l, mdFits x then (if mdFits l.sum then (l.sum, 0) else (0, 3)) else (0, 2)
theorem Qc7 (l : List Int) (i : Nat) (h : i < l.length) : l.drop i = rd l (i : Int) :: l.drop (i + 1) := by
 unfold rd
 rw [Int.toNat_natCast, List.getD_eq_getElem?_getD, List.getElem?_eq_getElem h, List.drop_eq_getElem_cons h]
 rfl
theorem QdP (l : List Int) (hl : l.length ≤ 1073741824) :
  ∀ (d i k : Nat) (hi lo : Int), l.length - i = d → i ≤ l.length → d < k → -((i : Int) * 268435456) ≤ hi → hi ≤ (i : Int) * 268435456 → 0 ≤ lo → lo ≤ (i : Int) * 4294967296 →
   Qat.l0 k l hi lo (l.length : Int) (i : Int) =
    some (if ∀ x ∈ l.drop i, mdFits x then (if mdFits (hi * 4294967296 + lo + (l.drop i).sum) then (hi * 4294967296 + lo + (l.drop i).sum, 0) else (0, 3)) else (0, 2)) := by
 intro d
 induction d with
 | zero =>
  intro i k hi lo hd hil hk b1 b2 b3 b4
  obtain ⟨k, rfl⟩ : ∃ m, k = m + 1 := ⟨k - 1, by omega⟩
  obtain rfl : i = l.length := by omega
  simp only [Qat.l0]
  rw [if_neg (by omega), List.drop_length]
  have w1 : wrap64 (hi + lo / 4294967296) = hi + lo / 4294967296 := by unfold wrap64; omega
  rw [w1, Qcw]
  simp only [List.not_mem_nil, false_implies, implies_true, if_true, List.sum_nil, Int.add_zero]
  by_cases c1 : hi + lo / 4294967296 < -268435456
  ·rw [if_pos c1, if_neg (by unfold mdFits; omega)]
  rw [if_neg c1]
  by_cases c2 : hi + lo / 4294967296 > 268435456
  ·rw [if_pos c2, if_neg (by unfold mdFits; omega)]
  rw [if_neg c2]
  have w2 : wrap64 (wrap64 ((hi + lo / 4294967296) * 4294967296) + lo % 4294967296) = hi * 4294967296 + lo := by unfold wrap64; omega
  rw [w2, Qde]
  rfl
 | succ d ih =>
  intro i k hi lo hd hil hk b1 b2 b3 b4
  obtain ⟨k, rfl⟩ : ∃ m, k = m + 1 := ⟨k - 1, by omega⟩
  have hlt : i < l.length := by omega
  simp only [Qat.l0]
  rw [if_pos (by omega), if_pos (by omega), if_pos (by omega), QcZ, Qc7 l i hlt]
  simp only [Option.bind_some, Qcw]
  generalize rd l (i : Int) = x at *
  by_cases hx : mdFits x
  ·have hx' : -1152921504606846976 ≤ x ∧ x ≤ 1152921504606846976 := hx
   have r := ih (i + 1) k (hi + x / 4294967296) (lo + x % 4294967296) (by omega) (by omega) (by omega) (by omega) (by omega) (by omega) (by omega)
   have e : (hi + x / 4294967296) * 4294967296 + (lo + x % 4294967296) + (l.drop (i + 1)).sum = hi * 4294967296 + lo + (x :: l.drop (i + 1)).sum := by
    rw [List.sum_cons]; omega
   have w1 : wrap64 (hi + x / 4294967296) = hi + x / 4294967296 := by unfold mdFits at hx; unfold wrap64; omega
   have w2 : wrap64 (lo + x % 4294967296) = lo + x % 4294967296 := by unfold wrap64; omega
   have w3 : wrap64 ((i : Int) + 1) = ((i + 1 : Nat) : Int) := by unfold wrap64; omega
   rw [decide_eq_true hx, if_pos rfl, w1, w2, w3, r]
   rw [e]
   simp only [List.mem_cons, forall_eq_or_imp, hx, true_and]
  rw [decide_eq_false hx, if_neg (by decide), if_neg (fun h => hx (h x List.mem_cons_self))]
theorem sum_eq (l : List Int) (hl : l.length ≤ 1073741824) (k : Nat) (hk : l.length < k) : Qat.f k l = some (sumS l) := by
 unfold Qat.f sumS
 have h := QdP l hl l.length 0 k 0 0 rfl (by omega) hk (by omega) (by omega) (by omega) (by omega)
 rw [show ((0 : Nat) : Int) = 0 from rfl] at h
 rw [h]
 simp
theorem Qda (x m : Int) (hm : 0 < m) : -m < Int.tmod x m ∧ Int.tmod x m < m := by
 by_cases h : 0 ≤ x
 ·rw [Int.tmod_eq_emod_of_nonneg h]
  have a := Int.emod_nonneg x (b := m) (by omega)
  have b := Int.emod_lt_of_pos x hm
  omega
 obtain ⟨y, rfl⟩ : ∃ y, x = -y := ⟨-x, by omega⟩
 rw [Int.neg_tmod, Int.tmod_eq_emod_of_nonneg (by omega)]
 have a := Int.emod_nonneg y (b := m) (by omega)
 have b := Int.emod_lt_of_pos y hm
 omega
theorem Qdz (l : List Int) (hl : l.length ≤ 1073741824) :
  ∀ (d i k : Nat) (hi lo : Int), l.length - i = d → i ≤ l.length → d < k → -((i : Int) * 1073741824) ≤ hi → hi ≤ (i : Int) * 1073741824 → -((i : Int) * 1073741824) ≤ lo → lo ≤ (i : Int) * 1073741824 →
   Qal.l0 k l hi lo (i : Int) =
    some (if ∀ x ∈ l.drop i, mdFits x then (if mdFits (hi * 1073741824 + lo + (l.drop i).sum) then (hi * 1073741824 + lo + (l.drop i).sum, 0) else (0, 3)) else (0, 2)) := by
 intro d
 induction d with
 | zero =>
  intro i k hi lo hd hil hk b1 b2 b3 b4
  obtain ⟨k, rfl⟩ : ∃ m, k = m + 1 := ⟨k - 1, by omega⟩
  obtain rfl : i = l.length := by omega
  simp only [Qal.l0]
  rw [if_neg (by omega), List.drop_length]
  have t1 := Int.mul_tdiv_add_tmod lo 1073741824
  have t2 := Qda lo 1073741824 (by omega)
  have w0 : wrap64 (Int.tdiv lo 1073741824) = Int.tdiv lo 1073741824 := by unfold wrap64; omega
  have w1 : wrap64 (hi + Int.tdiv lo 1073741824) = hi + Int.tdiv lo 1073741824 := by unfold wrap64; omega
  rw [w0, w1]
  simp only [List.not_mem_nil, false_implies, implies_true, if_true, List.sum_nil, Int.add_zero]
  by_cases c1 : hi + Int.tdiv lo 1073741824 < -1073741825
  ·rw [if_pos c1, if_neg (by unfold mdFits; omega)]
  rw [if_neg c1]
  by_cases c2 : hi + Int.tdiv lo 1073741824 > 1073741825
  ·rw [if_pos c2, if_neg (by unfold mdFits; omega)]
  rw [if_neg c2]
  have w2 : wrap64 (wrap64 ((hi + Int.tdiv lo 1073741824) * 1073741824) + Int.tmod lo 1073741824) = hi * 1073741824 + lo := by unfold wrap64; omega
  rw [w2, QcI]
  simp only [Option.bind_some]
  by_cases h : mdFits (hi * 1073741824 + lo) <;> simp [h]
 | succ d ih =>
  intro i k hi lo hd hil hk b1 b2 b3 b4
  obtain ⟨k, rfl⟩ : ∃ m, k = m + 1 := ⟨k - 1, by omega⟩
  have hlt : i < l.length := by omega
  simp only [Qal.l0]
  rw [if_pos (by omega), if_pos (by omega), QcI, Qc7 l i hlt]
  simp only [Option.bind_some]
  generalize rd l (i : Int) = x at *
  by_cases hx : mdFits x
  ·have t1 := Int.mul_tdiv_add_tmod x 1073741824
   have t2 := Qda x 1073741824 (by omega)
   have t3 : -1073741824 ≤ Int.tdiv x 1073741824 ∧ Int.tdiv x 1073741824 ≤ 1073741824 := by unfold mdFits at hx; omega
   have r := ih (i + 1) k (hi + Int.tdiv x 1073741824) (lo + Int.tmod x 1073741824) (by omega) (by omega) (by omega) (by omega) (by omega) (by omega) (by omega)
   have e : (hi + Int.tdiv x 1073741824) * 1073741824 + (lo + Int.tmod x 1073741824) + (l.drop (i + 1)).sum = hi * 1073741824 + lo + (x :: l.drop (i + 1)).sum := by
    rw [List.sum_cons]; omega
   have w0 : wrap64 (Int.tdiv x 1073741824) = Int.tdiv x 1073741824 := by unfold wrap64; omega
   have w1 : wrap64 (hi + Int.tdiv x 1073741824) = hi + Int.tdiv x 1073741824 := by unfold wrap64; omega
   have w2 : wrap64 (lo + Int.tmod x 1073741824) = lo + Int.tmod x 1073741824 := by unfold wrap64; omega
   have w3 : wrap64 ((i : Int) + 1) = ((i + 1 : Nat) : Int) := by unfold wrap64; omega
   rw [decide_eq_true hx, if_pos rfl, w0, w1, w2, w3, r]
   rw [e]
   simp only [List.mem_cons, forall_eq_or_imp, hx, true_and]
  rw [decide_eq_false hx, if_neg (by decide), if_neg (fun h => hx (h x List.mem_cons_self))]
theorem Qd4 (l : List Int) (hl : l.length ≤ 1073741824) (k : Nat) (hk : l.length < k) : Qal.f k l = some (sumS l) := by
 unfold Qal.f sumS
 have h := Qdz l hl l.length 0 k 0 0 rfl (by omega) hk (by omega) (by omega) (by omega) (by omega)
 rw [show ((0 : Nat) : Int) = 0 from rfl] at h
 rw [h]
 simp
end Go.Proofs.Ytggbflplbblgbaa.Pr
