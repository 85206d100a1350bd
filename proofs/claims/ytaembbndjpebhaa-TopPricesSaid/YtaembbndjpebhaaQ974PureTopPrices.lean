/- TopPrices: a mark is a price that may be, a curve of such prices tells such prices, and what lots get from the one to the other fits. -/
import Derived.Test.YtaembbndjpebhaaQ974LmCentsMd
import Derived.Test.YtaembbndjpebhaaQ974LmCurveAt
import Derived.Test.YtaembbndjpebhaaQ974LmCurveChk
import Derived.Test.YtaembbndjpebhaaQ974LmCurveEq
import Derived.Test.YtaembbndjpebhaaQ974LmCurveLaw
import Derived.Test.YtaembbndjpebhaaQ974LmCurveMore
import Derived.Test.YtaembbndjpebhaaQ974LmCurvePr
import Derived.Test.YtaembbndjpebhaaQ974LmCurveRef
import Derived.Test.YtaembbndjpebhaaQ974LmCurveTop
import Derived.Test.YtaembbndjpebhaaQ974LmPriceM
import Derived.Test.YtaembbndjpebhaaQ974LmPriceP
import Derived.Test.YtaembbndjpebhaaQ974P0
import Derived.Test.YtaembbndjpebhaaQ974P4
import Derived.Test.YtaembbndjpebhaaQ974PrxDTopPrices
namespace Go.Proofs.Ytaembbndjpebhaa.Pure
open Go.RowKit Go.Proofs.Ytaembbndjpebhaa.Pr Go.Proofs.YtaembbndjpebhaaW.PrintWords Go.Proofs.YtaembbndjpebhaaW.PrintLast Go.Proofs.YtaembbndjpebhaaW.PrintMore
set_option linter.unusedVariables false
set_option linter.unusedSimpArgs false
theorem mult_between {ti lo hi b : Int} (ht : 1 ≤ ti) (dl : ti ∣ lo) (dh : ti ∣ hi) (db : ti ∣ b) (h1 : 2 * lo - ti ≤ 2 * b) (h2 : 2 * b ≤ 2 * hi + ti) : lo ≤ b ∧ b ≤ hi := by
 obtain ⟨l, rfl⟩ := dl
 obtain ⟨h, rfl⟩ := dh
 obtain ⟨m, rfl⟩ := db
 constructor
 ·refine Int.mul_le_mul_of_nonneg_left ?_ (by omega)
  refine Int.not_lt.1 (fun hlt => ?_)
  have := Int.mul_le_mul_of_nonneg_left (show m + 1 ≤ l by omega) (show 0 ≤ ti by omega)
  rw [Int.mul_add] at this
  omega
 refine Int.mul_le_mul_of_nonneg_left ?_ (by omega)
 refine Int.not_lt.1 (fun hlt => ?_)
 have := Int.mul_le_mul_of_nonneg_left (show h + 1 ≤ m by omega) (show 0 ≤ ti by omega)
 rw [Int.mul_add] at this
 omega
theorem at_mult {l : List Pt} (hG : GoodC l) (day ti : Int) (h : ∀ p ∈ kn l, ti ∣ p.f1) : ti ∣ atS l day ti := by
 unfold atS
 cases hA : leK l day with
 | none =>
  cases hB : geK l day with
  | none => exact ⟨0, by simp⟩
  | some b => exact h b (QcF hB).1
 | some a =>
  cases hB : geK l day with
  | none => exact h a (Qcg hA).1
  | some b =>
   dsimp only
   by_cases c : a.f0 = b.f0
   ·rw [if_pos c]; exact h a (Qcg hA).1
   rw [if_neg c]; exact ⟨_, Int.mul_comm _ _⟩
theorem tp_loop (s : ByteArray) (cu mu ti lo hi : Int) (b : Bool) (hp : pchk s cu mu ti lo hi b = 0) (x : List Pt) (hx : x.length ≤ 9223372036854775807) (day net a : Int) (ha : validP ti lo hi a) (m : Nat) (hm : 4000 ≤ m) : ∀ (d i : Nat), i + d = x.length → (∀ p ∈ kn (x.take i), validP ti lo hi p.f1) →
  contangotop_TopPrices.l0 (d + 1 + m) a (i : Int) s cu mu ti lo hi b x day net = some true := by
 obtain ⟨m1, m2, t1, t2, l1, h1, lh, dl, dh⟩ := Qb4 hp
 intro d
 induction d with
 | zero =>
  intro i hin hv
  rw [List.take_of_length_le (by omega)] at hv
  rw [show 0 + 1 + m = m + 1 by omega, contangotop_TopPrices.l0, if_neg (by omega), At_eq x day ti m (by omega), Option.bind_some]
  unfold AtS
  by_cases c : chkS x = 0
  ·rw [if_pos c, if_neg (by omega : ¬ (ti < 1 ∨ ti > 16777216))]
   by_cases c2 : day < 0 ∨ day > 73048
   ·rw [if_pos c2, if_neg (by decide), goes10 m (by omega)]; rfl
   rw [if_neg c2, if_pos rfl]
   have hG := Qdh c
   have hb := Qdo hG (day := day) t1 t2 (fun p hp => ⟨(hv p hp).1, (hv p hp).2.1⟩)
   have hd := at_mult hG day ti (fun p hp => (hv p hp).2.2)
   obtain ⟨v1, v2⟩ := mult_between t1 dl dh hd hb.1 hb.2
   have hB : validP ti lo hi (atS x day ti) := ⟨v1, v2, hd⟩
   have pa : QaV a := ⟨by have := ha.1; have := l1.1; omega, by have := ha.2.1; have := h1.2; omega⟩
   have pb : QaV (atS x day ti) := ⟨by have := l1.1; omega, by have := h1.2; omega⟩
   generalize atS x day ti = B at *
   have a1 := pa.1; have a2 := pa.2; have b1 := pb.1; have b2 := pb.2
   dsimp only
   rw [Qct _ _ _ _ _ _ _ _ _ _ m (by omega), if_pos hp, if_pos ⟨pa, pb⟩, Option.bind_some, Qdk _ _ _ _ _ _ _ _ _ m (by omega), Option.bind_some, QcR hp hB m (by omega), Option.bind_some, if_pos rfl, if_pos rfl, if_pos rfl, IntWalk.wrap64_in (B - a) (by omega)]
   unfold pvalS
   rw [if_pos hp, if_pos (show -33554432 ≤ B - a ∧ B - a ≤ 33554432 by omega)]
   by_cases n1 : net ≥ -1048576
   ·rw [if_pos n1]
    by_cases n2 : net ≤ 1048576
    ·have q1 := mul_bd (x := B - a) (y := mu) (A := 33554432) (B := 4096) (by omega) (by omega) (by omega) (by omega) (by omega) (by omega)
     have q2 := mul_bd (x := (B - a) * mu) (y := net) (A := 137438953472) (B := 1048576) (by omega) (by omega) (by omega) (by omega) (by omega) (by omega)
     rw [if_pos (show -1048576 ≤ net ∧ net ≤ 1048576 from ⟨n1, n2⟩), IntWalk.wrap64_in ((B - a) * mu) (by omega), IntWalk.wrap64_in ((B - a) * mu * net) (by omega), decide_eq_true n2, if_pos (by rfl), QcE, decide_eq_true (show mdFits _ from ⟨by omega, by omega⟩), Option.bind_some, if_pos rfl, goes10 m (by omega)]
     rfl
    rw [if_neg (show ¬ (-1048576 ≤ net ∧ net ≤ 1048576) from fun h => n2 h.2), decide_eq_false n2, if_pos (by rfl), QcE, decide_eq_true (show mdFits 0 from ⟨by omega, by omega⟩), Option.bind_some, if_pos rfl, goes10 m (by omega)]
    rfl
   rw [if_neg n1, if_neg (show ¬ (-1048576 ≤ net ∧ net ≤ 1048576) from fun h => n1 h.1), if_pos (by rfl), QcE, decide_eq_true (show mdFits 0 from ⟨by omega, by omega⟩), Option.bind_some, if_pos rfl, goes10 m (by omega)]
   rfl
  rw [if_neg c, if_neg c, goes10 m (by omega)]; rfl
 | succ d ih =>
  intro i hin hv
  have hmem := Qen x i (by omega)
  have hkt : kn (x.take (i + 1)) = kn (x.take i) ++ kn [rd_T56 x (i : Int)] := by rw [QdL x i (by omega)]; unfold kn; rw [List.filter_append]
  rw [show d + 1 + 1 + m = (d + 1 + m) + 1 by omega, contangotop_TopPrices.l0, if_pos (by omega), if_pos (by omega), IntWalk.wrap64_in ((i : Int) + 1) (by omega), show ((i : Int) + 1) = ((i + 1 : Nat) : Int) by omega]
  by_cases hk : (rd_T56 x (i : Int)).f2 = true
  ·obtain ⟨r, hr, hvr⟩ := Qcx s cu mu ti lo hi b (rd_T56 x (i : Int)).f1 (d + 1 + m) (by omega)
   rw [if_pos hk, hr, Option.bind_some]
   by_cases c : r = 0
   ·rw [if_pos c]
    refine ih (i + 1) (by omega) (fun p hpm => ?_)
    rw [hkt] at hpm
    rcases List.mem_append.1 hpm with hpm | hpm
    ·exact hv p hpm
    have := (mem_kn hpm).1
    rw [List.mem_singleton] at this
    subst this
    exact hvr c
   rw [if_neg c, goes10 _ (by omega)]; rfl
  rw [if_neg hk]
  refine ih (i + 1) (by omega) (fun p hpm => ?_)
  rw [hkt] at hpm
  rcases List.mem_append.1 hpm with hpm | hpm
  ·exact hv p hpm
  have h1 := mem_kn hpm
  have := h1.1
  rw [List.mem_singleton] at this
  rw [this] at h1
  exact absurd h1.2 hk
theorem TopPrices : contangotop_TopPrices.Pure := by
 intro s cu mu ti lo hi b lt q1 q2 q3 q4 q5 q6 q7 x day net _ _ _ _ _ _ _ _ _ _ _ _ _ _ _ hx _ _ _
 refine ⟨x.length + 1 + 4000, ?_⟩
 obtain ⟨r, hr, v1, v2⟩ := QdF s cu mu ti lo hi b lt q1 q2 q3 q4 q5 q6 q7 (x.length + 1 + 4000) (by omega)
 unfold contangotop_TopPrices.f
 rw [hr, Option.bind_some]
 by_cases h : r.2.2 = 0
 ·obtain ⟨hp, hv⟩ := v1 h
  rw [if_pos h, QcR hp hv _ (by omega), Option.bind_some, if_pos rfl]
  exact tp_loop s cu mu ti lo hi b hp x hx day net r.1 hv 4000 (by omega) x.length 0 (by omega) (fun p hp => by simp [kn] at hp)
 obtain ⟨w1, w2⟩ := v2 h
 rw [if_neg h, if_pos w1, if_pos w2, goes10 _ (by omega)]
 rfl
end Go.Proofs.Ytaembbndjpebhaa.Pure
