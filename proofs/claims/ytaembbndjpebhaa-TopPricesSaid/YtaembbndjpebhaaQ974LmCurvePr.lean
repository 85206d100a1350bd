/- The price of a day: the code's answer and the reference's are the plain one. -/
import Derived.Test.YtaembbndjpebhaaQ974LmCurveChk
import Derived.Test.YtaembbndjpebhaaQ974LmCurveNear
import Derived.Test.YtaembbndjpebhaaQ974P0
import Derived.Test.YtaembbndjpebhaaQ974P1
namespace Go.Proofs.Ytaembbndjpebhaa.Pr
open Go.RowKit Go.Proofs.Ytaembbndjpebhaa.Pr Go.Proofs.YtaembbndjpebhaaW.PrintWords Go.Proofs.YtaembbndjpebhaaW.PrintLast Go.Proofs.YtaembbndjpebhaaW.PrintMore
set_option linter.unusedVariables false
set_option linter.unusedSimpArgs false
theorem ci_rd (l : List Int) (i : Nat) (h : i < l.length) : rd l (i : Int) = l[i] := by
 unfold rd
 rw [Int.toNat_natCast, List.getD_eq_getElem?_getD, List.getElem?_eq_getElem h]
 rfl
theorem Qee (lo hi : Nat) (h : hi ≤ 1048576) (h2 : lo ≤ hi) : wrap64 ((IntKind.u64.wrap (wrap64 ((lo : Int) + (hi : Int)))) / 2) = (((lo + hi) / 2 : Nat) : Int) := by
 rw [IntWalk.wrap64_in ((lo : Int) + (hi : Int)) (by omega), IntKind.wrap_u64, IntWalk.wrap64_in _ (by omega)]
 omega
theorem QdP (a b : Int) : Qbq.f a b = some (decide (a < b)) := by
 unfold Qbq.f Qa3.f
 simp
theorem Qed (L R : List Int) (a : Int) (hL : ∀ x ∈ L, x < a) (hR : ∀ x ∈ R, a ≤ x) (hlen : (L ++ R).length ≤ 1000) : ∀ (d lo hi k : Nat), hi - lo ≤ d → lo ≤ L.length → L.length ≤ hi → hi ≤ (L ++ R).length → d < k →
  Qar.l0 k (L ++ R) a ((L ++ R).length : Int) (lo : Int) (hi : Int) = some ((L.length : Int), decide (R.head? = some a)) := by
 have hlo : ∀ i, i < L.length → (h : i < (L ++ R).length) → (L ++ R)[i] < a := fun i hi h => by rw [List.getElem_append_left hi]; exact hL _ (List.getElem_mem _)
 have hhi : ∀ i, L.length ≤ i → (h : i < (L ++ R).length) → a ≤ (L ++ R)[i] := fun i hi h => by rw [List.getElem_append_right hi]; exact hR _ (List.getElem_mem _)
 intro d
 induction d with
 | zero =>
  intro lo hi k h1 h2 h3 h4 hk
  obtain ⟨k, rfl⟩ : ∃ m, k = m + 1 := ⟨k - 1, by omega⟩
  obtain rfl : lo = L.length := by omega
  obtain rfl : hi = L.length := by omega
  rw [Qar.l0, if_neg (by omega)]
  cases R with
  | nil => rw [if_neg (by simp)]; rfl
  | cons b t =>
   have e : rd (L ++ b :: t) (L.length : Int) = b := by
    rw [ci_rd _ _ (by simp), List.getElem_append_right (Nat.le_refl _)]
    simp
   rw [if_pos (by simp; omega), if_pos (by omega), if_pos (by simp; omega), e]
   by_cases c : b = a
   ·rw [if_pos c]; simp [c]
   rw [if_neg c]
   unfold Qa5.f
   simp [c]
 | succ d ih =>
  intro lo hi k h1 h2 h3 h4 hk
  obtain ⟨k, rfl⟩ : ∃ m, k = m + 1 := ⟨k - 1, by omega⟩
  by_cases c : lo < hi
  ·have hm : (lo + hi) / 2 < (L ++ R).length := by omega
   rw [Qar.l0, if_pos (by omega), Qee lo hi (by omega) (by omega), if_pos (by omega), if_pos (by omega), ci_rd _ _ hm, QdP, Option.bind_some]
   by_cases c2 : (L ++ R)[(lo + hi) / 2] < a
   ·have : (lo + hi) / 2 < L.length := by
     refine Nat.lt_of_not_le (fun h => ?_)
     have := hhi _ h hm
     omega
    rw [decide_eq_true c2, if_pos rfl, IntWalk.wrap64_in ((((lo + hi) / 2 : Nat) : Int) + 1) (by omega), show ((((lo + hi) / 2 : Nat) : Int) + 1) = (((lo + hi) / 2 + 1 : Nat) : Int) by omega]
    exact ih _ _ k (by omega) (by omega) h3 h4 (by omega)
   have : L.length ≤ (lo + hi) / 2 := by
    refine Nat.le_of_not_lt (fun h => ?_)
    have := hlo _ h hm
    omega
   rw [decide_eq_false c2, if_neg (by simp)]
   exact ih _ _ k (by omega) h2 (by omega) (by omega) (by omega)
  exact ih lo hi (k + 1) (by omega) h2 h3 h4 (by omega)
theorem bs_eq (L R : List Int) (a : Int) (hL : ∀ x ∈ L, x < a) (hR : ∀ x ∈ R, a ≤ x) (hlen : (L ++ R).length ≤ 1000) (k : Nat) (hk : 1000 < k) : Qar.f k (L ++ R) a = some ((L.length : Int), decide (R.head? = some a)) :=
 Qed L R a hL hR hlen _ 0 _ k (Nat.le_refl _) (Nat.zero_le _) (by simp) (Nat.le_refl _) (by omega)
theorem Qcr {x : Int} (h0 : -1000000000 ≤ x) (h1 : x ≤ 1000000000) : wfI x := ⟨by omega, by omega⟩
theorem mul_bd {x y A B : Int} (hx : -A ≤ x) (hx' : x ≤ A) (hy : -B ≤ y) (hy' : y ≤ B) (hA : 0 ≤ A) (hB : 0 ≤ B) : -(A * B) ≤ x * y ∧ x * y ≤ A * B := by
 have h : (x.natAbs * y.natAbs : Nat) ≤ A.natAbs * B.natAbs := Nat.mul_le_mul (by omega) (by omega)
 have e1 : ((x * y).natAbs : Int) = (x.natAbs * y.natAbs : Nat) := by rw [Int.natAbs_mul]
 have e2 : ((A * B).natAbs : Int) = (A.natAbs * B.natAbs : Nat) := by rw [Int.natAbs_mul]
 have h3 : 0 ≤ A * B := Int.mul_nonneg hA hB
 omega
theorem Qei {a1 b1 s t : Int} (ha : QaV a1) (hb : QaV b1) (hs : 0 ≤ s) (hs' : s ≤ 73048) (ht : 0 ≤ t) (ht' : t ≤ 73048) :
  -10000000000000 ≤ a1 * s + (b1 - a1) * t ∧ a1 * s + (b1 - a1) * t ≤ 10000000000000 ∧ wrap64 (a1 * wrap64 s) = a1 * s ∧ wrap64 (wrap64 (b1 - a1) * wrap64 t) = (b1 - a1) * t ∧ wrap64 (wrap64 (a1 * wrap64 s) + wrap64 (wrap64 (b1 - a1) * wrap64 t)) = a1 * s + (b1 - a1) * t := by
 have m1 := mul_bd (x := a1) (y := s) (A := 16777216) (B := 73048) ha.1 ha.2 (by omega) hs' (by omega) (by omega)
 have m2 := mul_bd (x := b1 - a1) (y := t) (A := 33554432) (B := 73048) (by have := ha.2; have := hb.1; omega) (by have := ha.1; have := hb.2; omega) (by omega) ht' (by omega) (by omega)
 have w0 : wrap64 (b1 - a1) = b1 - a1 := IntWalk.wrap64_in _ (by have := ha.1; have := ha.2; have := hb.1; have := hb.2; omega)
 rw [IntWalk.wrap64_in s (by omega), IntWalk.wrap64_in t (by omega), w0]
 generalize a1 * s = u at *
 generalize (b1 - a1) * t = v at *
 have e1 : wrap64 u = u := IntWalk.wrap64_in _ (by omega)
 have e2 : wrap64 v = v := IntWalk.wrap64_in _ (by omega)
 rw [e1, e2]
 exact ⟨by omega, by omega, rfl, rfl, IntWalk.wrap64_in _ (by omega)⟩
theorem Qep {s k : Int} (hs : 0 < s) (hs' : s ≤ 73048) (hk : 1 ≤ k) (hk' : k ≤ 16777216) : 0 < s * k ∧ s * k ≤ 1225562079232 ∧ wrap64 (wrap64 s * k) = s * k := by
 have m := mul_bd (x := s) (y := k) (A := 73048) (B := 16777216) (by omega) hs' (by omega) hk' (by omega) (by omega)
 have p : 0 < s * k := Int.mul_pos hs (by omega)
 rw [IntWalk.wrap64_in s (by omega)]
 generalize s * k = u at *
 exact ⟨p, by omega, IntWalk.wrap64_in _ (by omega)⟩
theorem Qco (n d : Int) (hd : 0 < d) : 2 * n - d ≤ 2 * (nearS n d * d) ∧ 2 * (nearS n d * d) ≤ 2 * n + d := by
 have h0 := Int.emod_nonneg n (Int.ne_of_gt hd)
 have h1 := Int.emod_lt_of_pos n hd
 have h2 := Int.emod_add_mul_ediv n d
 unfold nearS
 rw [Int.mul_comm d] at h2
 split
 ·rw [Int.add_mul]; omega
 omega
end Go.Proofs.Ytaembbndjpebhaa.Pr
