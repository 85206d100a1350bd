/- TopPast: the sum of the k greatest, averages rounded up. -/
import Derived.Test.YtgnmhfjfefgbfaaQ789LmCentsMd
import Derived.Test.YtgnmhfjfefgbfaaQ789LmPos
import Derived.Test.YtgnmhfjfefgbfaaQ789LmSums
import Derived.Test.YtgnmhfjfefgbfaaQ789LmTier
import Derived.Test.YtgnmhfjfefgbfaaQ789P0
import Derived.Test.YtgnmhfjfefgbfaaQ789P2
import Derived.Test.YtgnmhfjfefgbfaaQ789P3
namespace Go.Proofs.Ytgnmhfjfefgbfaa.Pr
open Go.RowKit Go.Proofs.Ytgnmhfjfefgbfaa.Pr Go.Proofs.YtgnmhfjfefgbfaaW.PrintWords Go.Proofs.YtgnmhfjfefgbfaaW.PrintLast Go.Proofs.YtgnmhfjfefgbfaaW.PrintMore
set_option linter.unusedVariables false
set_option linter.unusedSimpArgs false
def exc (t : Int) (l : List Int) : Int := (l.map fun x => max (x - t) 0).sum
theorem Qbd (t x : Int) (l : List Int) : exc t (x :: l) = max (x - t) 0 + exc t l := by simp [exc]
theorem QcQ (t : Int) : ∀ l, 0 ≤ exc t l
 | [] => Int.le_refl 0
 | x :: l => by rw [Qbd]; have := QcQ t l; omega
theorem Qcz (t : Int) {l l' : List Int} (h : l.Perm l') : exc t l = exc t l' := by
 induction h with
 | nil => rfl
 | cons x _ ih => rw [Qbd, Qbd, ih]
 | swap x y l => simp only [Qbd]; omega
 | trans _ _ h1 h2 => exact h1.trans h2
theorem QbV (t : Int) : ∀ (l : List Int) (k : Nat), k ≤ l.length → (l.take k).sum ≤ k * t + exc t l
 | l, 0, _ => by simpa using QcQ t l
 | [], k + 1, h => by simp at h
 | x :: l, k + 1, h => by
  have ih := QbV t l k (by simpa using h)
  rw [List.take_succ_cons, List.sum_cons, Qbd]
  have : ((k + 1 : Nat) : Int) * t = k * t + t := by push_cast; rw [Int.add_mul, Int.one_mul]
  omega
theorem QcP (t : Int) : ∀ (l : List Int), (∀ x ∈ l, x ≤ t) → exc t l = 0
 | [], _ => rfl
 | x :: l, h => by
  rw [Qbd, QcP t l (fun y hy => h y (List.mem_cons_of_mem _ hy))]
  have := h x (by simp)
  omega
theorem QbU (t : Int) : ∀ (l : List Int) (k : Nat), k ≤ l.length → (∀ x ∈ l.take k, t ≤ x) → (∀ x ∈ l.drop k, x ≤ t) → (l.take k).sum = k * t + exc t l
 | l, 0, _, _, h2 => by simp at h2 ⊢; rw [QcP t l h2]
 | [], k + 1, h, _, _ => by simp at h
 | x :: l, k + 1, h, h1, h2 => by
  have ih := QbU t l k (by simpa using h) (fun y hy => h1 y (by simp [hy])) (fun y hy => h2 y (by simpa using hy))
  rw [List.take_succ_cons, List.sum_cons, Qbd, ih]
  have : ((k + 1 : Nat) : Int) * t = k * t + t := by push_cast; rw [Int.add_mul, Int.one_mul]
  have := h1 x (by simp)
  omega
theorem QcO (s t : Int) : ∀ (n m : List Int), n.length = m.length → exc (s + t) (List.zipWith (· + ·) n m) ≤ exc s n + exc t m
 | [], [], _ => by simp [exc]
 | [], _ :: _, h => by simp at h
 | _ :: _, [], h => by simp at h
 | x :: n, y :: m, h => by
  have ih := QcO s t n m (by simpa using h)
  rw [List.zipWith_cons_cons, Qbd, Qbd, Qbd]
  omega
theorem Qbr (l : List Int) : (srtD l).Perm l := List.mergeSort_perm _ _
theorem Qbq (l : List Int) : (srtD l).length = l.length := (Qbr l).length_eq
theorem QcI (l : List Int) : (srtD l).Pairwise (fun x y => y ≤ x) := by
 have := List.pairwise_mergeSort (le := fun x y : Int => decide (y ≤ x)) (by intro a b c h1 h2; simp at *; omega) (by intro a b; simp; omega) l
 exact this.imp (by intro a b h; simpa using h)
theorem QdA (n m : List Int) (k : Nat) (h : n.length = m.length) (h0 : 0 < k) (hk : k ≤ n.length) :
  ((srtD (List.zipWith (· + ·) n m)).take k).sum ≤ ((srtD n).take k).sum + ((srtD m).take k).sum := by
 have key : ∀ l : List Int, k ≤ l.length → ∃ t, ((srtD l).take k).sum = k * t + exc t l := by
  intro l hl
  have hkl : k - 1 < (srtD l).length := by rw [Qbq]; omega
  refine ⟨(srtD l)[k - 1], ?_⟩
  rw [← Qcz _ (Qbr l)]
  have hs := List.pairwise_iff_getElem.1 (QcI l)
  refine QbU _ _ _ (by rw [Qbq]; exact hl) ?_ ?_
  ·intro x hx
   obtain ⟨i, hi, rfl⟩ := List.mem_iff_getElem.1 hx
   rw [List.getElem_take]
   simp at hi
   by_cases e : i = k - 1
   ·subst e; exact Int.le_refl _
   exact hs i (k - 1) (by omega) hkl (by omega)
  intro x hx
  obtain ⟨i, hi, rfl⟩ := List.mem_iff_getElem.1 hx
  rw [List.getElem_drop]
  simp at hi
  exact hs (k - 1) (k + i) hkl (by omega) (by omega)
 obtain ⟨s, hs⟩ := key n hk
 obtain ⟨t, ht⟩ := key m (by omega)
 have h1 := QbV (s + t) (srtD (List.zipWith (· + ·) n m)) k (by rw [Qbq]; simp; omega)
 rw [Qcz _ (Qbr _), Int.mul_add] at h1
 have h2 := QcO s t n m h
 omega
theorem sf_mod (x k : Int) (hk : 0 < k) : (x.tmod k + k).tmod k = x % k := by
 have h1 : -k < x.tmod k := by
  have := Int.lt_tmod_of_pos x hk
  exact this
 have h2 : 0 ≤ x.tmod k + k := by omega
 rw [Int.tmod_eq_emod_of_nonneg h2, Int.add_emod_right, Int.tmod_eq_emod]
 split
 ·simp
 rw [Int.sub_emod]; simp [Int.natAbs_of_nonneg (Int.le_of_lt hk)]
theorem sf_div (x k : Int) (hk : 0 < k) : (x - x % k).tdiv k = x / k := by
 have e : x - x % k = k * (x / k) := by have := Int.mul_ediv_add_emod x k; omega
 rw [e, Int.mul_tdiv_cancel_left _ (by omega)]
def cdv (k T : Int) : Int := (T + k - 1) / k
theorem cdv_le (k T : Int) (hk : 0 < k) : T ≤ k * cdv k T := by
 have h1 := Int.mul_ediv_add_emod (T + k - 1) k
 have h2 := Int.emod_lt_of_pos (T + k - 1) hk
 unfold cdv
 omega
theorem Qcl (k T A : Int) (hk : 0 < k) (h : T ≤ k * A) : cdv k T ≤ A := by
 unfold cdv
 have : (T + k - 1) / k < A + 1 := by
  apply Int.ediv_lt_of_lt_mul hk
  rw [Int.add_mul, Int.mul_comm A k]; omega
 omega
theorem QdN (k T S U : Int) (hk : 0 < k) (h : U ≤ T + S) : max (cdv k U) 0 ≤ max (cdv k T) 0 + max (cdv k S) 0 := by
 have h1 := cdv_le k T hk
 have h2 := cdv_le k S hk
 have h3 := Qcl k U (cdv k T + cdv k S) hk (by rw [Int.mul_add]; omega)
 omega
def qsum (k : Int) (l : List Int) : Int := (l.map fun x => x / k).sum
def msum (k : Int) (l : List Int) : Int := (l.map fun x => x % k).sum
theorem qm_sum (k : Int) : ∀ l : List Int, l.sum = k * qsum k l + msum k l
 | [] => by simp [qsum, msum]
 | x :: l => by
  have ih := qm_sum k l
  have h1 := Int.mul_ediv_add_emod x k
  simp only [qsum, msum, List.map_cons, List.sum_cons, Int.mul_add] at *
  omega
theorem cdv_qm (k : Int) (hk : 0 < k) (l : List Int) : qsum k l + (msum k l + k - 1) / k = cdv k l.sum := by
 rw [cdv, qm_sum k l, show k * qsum k l + msum k l + k - 1 = (msum k l + k - 1) + k * qsum k l by omega, Int.add_mul_ediv_left _ _ (by omega)]
 omega
theorem Qb8 (k : Int) (hk : 0 < k) : ∀ l : List Int, 0 ≤ msum k l ∧ msum k l ≤ k * l.length
 | [] => by simp [msum]
 | x :: l => by
  have ih := Qb8 k hk l
  have h1 := Int.emod_nonneg x (show k ≠ 0 by omega)
  have h2 := Int.emod_lt_of_pos x hk
  simp only [msum, List.map_cons, List.sum_cons, List.length_cons] at *
  push_cast
  rw [Int.mul_add]
  omega
theorem QbF (B : Int) : ∀ l : List Int, (∀ x ∈ l, -B ≤ x ∧ x ≤ B) → -(l.length * B) ≤ l.sum ∧ l.sum ≤ l.length * B
 | [], _ => by simp
 | x :: l, h => by
  have ih := QbF B l (fun y hy => h y (List.mem_cons_of_mem _ hy))
  obtain ⟨a, b⟩ := h x (by simp)
  simp only [List.sum_cons, List.length_cons]
  push_cast
  rw [Int.add_mul]
  omega
theorem Qdv (w : Int) (hw : 0 < w) (hw2 : w ≤ 512) (l : List Int) (hl : (l.length : Int) ≤ w) (h : ∀ x ∈ l, mdFits x) : (-1152921504606847488 ≤ qsum w l ∧ qsum w l ≤ 1152921504606846976) ∧ 0 ≤ msum w l ∧ msum w l ≤ 262144 := by
 have h1 := QbF 1152921504606846976 l (fun x hx => by have := h x hx; unfold mdFits at this; omega)
 have h2 := Qb8 w hw l
 have h3 := qm_sum w l
 have h4 : w * (l.length : Int) ≤ w * 512 := Int.mul_le_mul_of_nonneg_left (by omega) (by omega)
 refine ⟨⟨?_, ?_⟩, h2.1, by omega⟩
 ·refine Int.le_of_mul_le_mul_left (a := w) ?_ hw
  rw [show w * (-1152921504606847488 : Int) = -(w * 1152921504606847488) by omega]
  omega
 refine Int.le_of_mul_le_mul_left (a := w) ?_ hw
 omega
theorem wrst1 (x : Int) : Qbf.f x = some (!decide (mdFits x)) := by
 unfold Qbf.f; rw [Qce]; rfl
theorem idxW (l : List Int) (hl : l.length ≤ 1073741824) (h : ∀ x ∈ l, mdFits x) : ∀ n i k : Nat, i + n = l.length → n + 1 ≤ k → Qan.l0 k l (l.length : Int) (i : Int) = some (-1) := by
 intro n
 induction n with
 | zero =>
  intro i k hi hk
  obtain ⟨k, rfl⟩ : ∃ m, k = m + 1 := ⟨k - 1, by omega⟩
  rw [Qan.l0, if_neg (by omega)]
 | succ n ih =>
  intro i k hi hk
  obtain ⟨k, rfl⟩ : ∃ m, k = m + 1 := ⟨k - 1, by omega⟩
  have hx : mdFits (rd l (i : Int)) := h _ (by rw [rd_at l i (by omega)]; exact List.getElem_mem _)
  rw [Qan.l0, if_pos (by omega), if_pos (by omega), if_pos (by omega), wrst1, Option.bind_some, decide_eq_true hx, if_neg (by decide), QaS (by omega) (by omega)]
  exact ih (i + 1) k (by omega) (by omega)
theorem contW (l : List Int) (hl : l.length ≤ 1073741824) (h : ∀ x ∈ l, mdFits x) (k : Nat) (hk : l.length + 1 ≤ k) : QaB.f k l = some false := by
 unfold QaB.f Qan.f
 have := idxW l hl h l.length 0 k (by omega) hk
 rw [show ((0 : Nat) : Int) = 0 from rfl] at this
 rw [this]; rfl
theorem QdD (l : List Int) (w : Int) (hl : l.length ≤ 512) (h : ∀ x ∈ l, mdFits x) (k : Nat) (hk : 514 ≤ k) :
  QaW.f k l w = some (if w < 1 ∨ w > (l.length : Int) then ([], 2) else ((srtD l).take w.toNat, 0)) := by
 unfold QaW.f
 rw [if_neg (by omega)]
 by_cases c : w < 1
 ·rw [if_pos c, if_pos (Or.inl c)]
 rw [if_neg c]
 by_cases d : w > (l.length : Int)
 ·rw [if_pos d, if_pos (Or.inr d)]
 rw [if_neg d, contW l (by omega) h k (by omega), Option.bind_some, if_neg (show ¬ (false = true) by decide), if_neg (by omega)]
theorem Qdf (w : Int) (l : List Int) (i : Nat) (h : i < l.length) : qsum w (l.take (i + 1)) = qsum w (l.take i) + rd l (i : Int) / w ∧ msum w (l.take (i + 1)) = msum w (l.take i) + rd l (i : Int) % w := by
 rw [List.take_succ_eq_append_getElem h, rd_at l i h]
 simp only [qsum, msum, List.map_append, List.sum_append, List.map_cons, List.map_nil, List.sum_cons, List.sum_nil, Int.add_zero, and_self]
theorem QdV (w : Int) (hw : 0 < w) (hw2 : w ≤ 512) (l : List Int) (hl : (l.length : Int) ≤ w) (h : ∀ x ∈ l, mdFits x) : ∀ n i k : Nat, i + n = l.length → n + 1 ≤ k → ∀ a b : Int, a = qsum w (l.take i) → b = msum w (l.take i) →
  Qay.l0 k w a b l (l.length : Int) (i : Int) = some (mx (cdv w l.sum) 0, 0) := by
 have bd : ∀ i, i ≤ l.length → (-1152921504606847488 ≤ qsum w (l.take i) ∧ qsum w (l.take i) ≤ 1152921504606846976) ∧ 0 ≤ msum w (l.take i) ∧ msum w (l.take i) ≤ 262144 := by
  intro i hi
  exact Qdv w hw hw2 (l.take i) (by rw [List.length_take]; omega) (fun x hx => h x (List.mem_of_mem_take hx))
 intro n
 induction n with
 | zero =>
  intro i k hi hk a b ha hb
  obtain ⟨k, rfl⟩ : ∃ m, k = m + 1 := ⟨k - 1, by omega⟩
  have B := bd l.length (Nat.le_refl _)
  rw [List.take_length] at B
  obtain rfl : i = l.length := by omega
  rw [List.take_length] at ha hb
  subst ha; subst hb
  have e := cdv_qm w hw l
  have hd : Int.tdiv (msum w l + w - 1) w = (msum w l + w - 1) / w := Int.tdiv_eq_ediv_of_nonneg (by omega)
  have hq : 0 ≤ (msum w l + w - 1) / w ∧ (msum w l + w - 1) / w ≤ 262656 := ⟨Int.ediv_nonneg (by omega) (by omega), Int.le_trans (Int.ediv_le_self _ (by omega)) (by omega)⟩
  rw [Qay.l0, if_neg (by omega), if_neg (by omega), QaS (x := msum w l + w) (by omega) (by omega), QaS (x := msum w l + w - 1) (by omega) (by omega), hd, IntWalk.wrap64_in ((msum w l + w - 1) / w) (by omega), e, IntWalk.wrap64_in (cdv w l.sum) (by omega)]
 | succ n ih =>
  intro i k hi hk a b ha hb
  obtain ⟨k, rfl⟩ : ∃ m, k = m + 1 := ⟨k - 1, by omega⟩
  have hlt : i < l.length := by omega
  have B := bd i (by omega)
  have B' := bd (i + 1) (by omega)
  obtain ⟨e1, e2⟩ := Qdf w l i hlt
  have hx : mdFits (rd l (i : Int)) := h _ (by rw [rd_at l i hlt]; exact List.getElem_mem _)
  have hx' : -1152921504606846976 ≤ rd l (i : Int) ∧ rd l (i : Int) ≤ 1152921504606846976 := hx
  rw [e1, e2] at B'
  have IH := ih (i + 1) k (by omega) (by omega) (a + rd l (i : Int) / w) (b + rd l (i : Int) % w) (by rw [e1, ha]) (by rw [e2, hb])
  rw [Qay.l0, if_pos (by omega), if_pos (by omega), if_pos (by omega), if_neg (by omega)]
  generalize rd l (i : Int) = x at *
  have t1 := QdX x w hw
  have r1 := Int.emod_nonneg x (show w ≠ 0 by omega)
  have r2 := Int.emod_lt_of_pos x hw
  rw [IntWalk.wrap64_in (x.tmod w + w) (by omega), sf_mod x w hw, IntWalk.wrap64_in (x - x % w) (by omega), sf_div x w hw, IntWalk.wrap64_in (x / w) (by omega), IntWalk.wrap64_in (a + x / w) (by omega), IntWalk.wrap64_in (b + x % w) (by omega), QaS (x := (i : Int) + 1) (by omega) (by omega)]
  exact IH
def sfS (l : List Int) (w : Int) : Int × Int := if w < 1 ∨ w > (l.length : Int) then (0, 2) else (mx (cdv w ((srtD l).take w.toNat).sum) 0, 0)
theorem sf_eq (l : List Int) (w : Int) (hl : l.length ≤ 512) (h : ∀ x ∈ l, mdFits x) (k : Nat) (hk : 600 ≤ k) : Qay.f k l w = some (sfS l w) := by
 unfold Qay.f sfS
 rw [QdD l w hl h k (by omega), Option.bind_some]
 by_cases c : w < 1 ∨ w > (l.length : Int)
 ·rw [if_pos c, if_pos c]
  rfl
 rw [if_neg c, if_neg c]
 have hlen : ((srtD l).take w.toNat).length = w.toNat := by rw [List.length_take, Qbq]; omega
 have := QdV w (by omega) (by omega) ((srtD l).take w.toNat) (by rw [hlen]; omega) (fun x hx => h x ((Qbr l).mem_iff.1 (List.mem_of_mem_take hx))) _ 0 k (Nat.zero_add _) (by rw [hlen]; omega) 0 0 (by simp [qsum]) (by simp [msum])
 rw [show ((0 : Nat) : Int) = 0 from rfl] at this
 exact this
theorem sf_add (n m : List Int) (w : Int) (hnm : n.length = m.length) : (sfS n w).2 = (sfS m w).2 ∧ (sfS m w).2 = (sfS (List.zipWith (· + ·) n m) w).2 ∧ (sfS (List.zipWith (· + ·) n m) w).1 ≤ (sfS n w).1 + (sfS m w).1 := by
 have hz : (List.zipWith (· + ·) n m).length = n.length := by simp; omega
 unfold sfS
 rw [hz, ← hnm]
 by_cases c : w < 1 ∨ w > (n.length : Int)
 ·simp only [if_pos c]; decide
 simp only [if_neg c]
 have := QdN w _ _ _ (by omega) (QdA n m w.toNat hnm (by omega) (by omega))
 refine ⟨trivial, trivial, ?_⟩
 unfold mx
 (repeat' split) <;> omega
theorem sf_bd (l : List Int) (w : Int) (hl : l.length ≤ 512) (h : ∀ x ∈ l, mdFits x) : 0 ≤ (sfS l w).1 ∧ (sfS l w).1 ≤ 1152921504606846976 := by
 unfold sfS
 by_cases c : w < 1 ∨ w > (l.length : Int)
 ·simp only [if_pos c]; omega
 simp only [if_neg c]
 have hlen : ((srtD l).take w.toNat).length = w.toNat := by rw [List.length_take, Qbq]; omega
 have h1 := QbF 1152921504606846976 ((srtD l).take w.toNat) (fun x hx => by have := h x ((Qbr l).mem_iff.1 (List.mem_of_mem_take hx)); unfold mdFits at this; omega)
 rw [hlen] at h1
 have h2 := Qcl w ((srtD l).take w.toNat).sum 1152921504606846976 (by omega) (by omega)
 unfold mx
 split <;> omega
end Go.Proofs.Ytgnmhfjfefgbfaa.Pr
