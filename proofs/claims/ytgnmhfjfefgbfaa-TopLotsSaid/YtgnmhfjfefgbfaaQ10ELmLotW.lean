/- TopLots: lts together lose and weigh what the portfolio does. -/
import Derived.Test.YtgnmhfjfefgbfaaQ10ELmLotJ
import Derived.Test.YtgnmhfjfefgbfaaQ10ELmLotR
import Derived.Test.YtgnmhfjfefgbfaaQ10ELmLotS
import Derived.Test.YtgnmhfjfefgbfaaQ10ELmPos
import Derived.Test.YtgnmhfjfefgbfaaQ10ELmScan
import Derived.Test.YtgnmhfjfefgbfaaQ10ELmScanR
import Derived.Test.YtgnmhfjfefgbfaaQ10ELmTier
import Derived.Test.YtgnmhfjfefgbfaaQ10EP3
import Derived.Test.YtgnmhfjfefgbfaaQ10EP8
import Derived.Test.YtgnmhfjfefgbfaaQ10EP0
namespace Go.Proofs.Ytgnmhfjfefgbfaa.Pr
open Go.RowKit Go.Proofs.Ytgnmhfjfefgbfaa.Pr Go.Proofs.YtgnmhfjfefgbfaaW.PrintWords Go.Proofs.YtgnmhfjfefgbfaaW.PrintLast Go.Proofs.YtgnmhfjfefgbfaaW.PrintMore
set_option linter.unusedVariables false
set_option linter.unusedSimpArgs false
def mpW (W : Nat) (F : Nat → Int) : List Int := (List.range' 0 W).map F
theorem Qbq (W : Nat) (F : Nat → Int) : (mpW W F).length = W := by simp [mpW]
theorem mpW_rd (W : Nat) (F : Nat → Int) (c : Nat) (h : c < W) : rd (mpW W F) (c : Int) = F c := by
 rw [rd_at _ c (by rw [Qbq]; exact h)]
 simp [mpW]
theorem QfA (W : Nat) (F : Nat → Int) (c : Nat) (v : Int) (h : c < W) : (mpW W F).set c v = mpW W (fun q => if q = c then v else F q) := by
 apply List.ext_getElem
 ·simp [mpW]
 intro i h1 h2
 rw [List.getElem_set]
 simp only [mpW, List.getElem_map, List.getElem_range', Nat.zero_add, Nat.one_mul]
 by_cases e : c = i
 ·subst e; simp
 rw [if_neg e, if_neg (fun q => e q.symm)]
theorem QbA (W : Nat) (F G : Nat → Int) (h : ∀ c, c < W → F c = G c) : mpW W F = mpW W G := by
 unfold mpW
 apply List.map_congr_left
 intro c hc
 exact h c (by have := List.mem_range'_1.1 hc; omega)
theorem wd_l1 (lts : List Lt) (arr : List Arr) (los : List Int) (dl dx : Int) (W : Nat) (hW : W ≤ 1000) (x38 i : Int) (F G : Nat → Int) : ∀ n j k : Nat, j + n = W → n + 1 ≤ k →
  Qai.l1 k lts arr los dl (mpW W (fun q => if q < j then wrap64 (F q + G q) else F q)) dx (mpW W G) x38 i (W : Int) (j : Int) = Qai.l0 (k - n - 1) lts arr los dl (mpW W (fun q => wrap64 (F q + G q))) dx x38 (wrap64 (i + 1)) := by
 intro n
 induction n with
 | zero =>
  intro j k hj hk
  obtain ⟨k, rfl⟩ : ∃ z, k = z + 1 := ⟨k - 1, by omega⟩
  rw [Qai.l1, if_neg (by omega)]
  rw [QbA W (fun q => if q < j then wrap64 (F q + G q) else F q) (fun q => wrap64 (F q + G q)) (fun c hc => if_pos (by omega))]
  rfl
 | succ n ih =>
  intro j k hj hk
  obtain ⟨k, rfl⟩ : ∃ z, k = z + 1 := ⟨k - 1, by omega⟩
  rw [Qai.l1, if_pos (by omega), if_pos (by omega), if_pos (by rw [Qbq]; omega), if_pos (by rw [Qbq]; omega), mpW_rd W _ j (by omega), mpW_rd W _ j (by omega), if_neg (by omega), Int.toNat_natCast, QfA W _ j _ (by omega), IntWalk.wrap64_in ((j : Int) + 1) (by omega)]
  rw [QbA W _ (fun q => if q < j + 1 then wrap64 (F q + G q) else F q) (fun c hc => by
   by_cases e : c = j
   ·subst e; rw [if_pos rfl, if_pos (by omega)]
   rw [if_neg e]
   by_cases e2 : c < j
   ·rw [if_pos e2, if_pos (by omega)]
   rw [if_neg e2, if_neg (by omega)])]
  rw [show k + 1 - (n + 1) - 1 = k - n - 1 by omega]
  exact ih (j + 1) k (by omega) (by omega)
theorem Qd1 (arr : List Arr) (L : List Posn) : losW arr L = mpW (widS arr) (fun c => wgt (fun s => rd (arA arr s).f1 (c : Int)) L) := rfl
theorem wd_l0 (arr : List Arr) (hl : arr.length ≤ 130) (hc : ∀ k, 6000 ≤ k → Qan.f k arr = some 0) (hu : uniS arr 0) (hb : gentA arr) (lts : List Lt) (hlots : lts.length ≤ 1024) (hg : ∀ x ∈ lts, QaY x.f1) (ha : ∀ x ∈ lts, hasA arr x.f1) (los : List Int) (dl : Int)
  (hend1 : mpW (widS arr) (fun c => wrap64 (wgt (fun s => rd (arA arr s).f1 (c : Int)) (allOf lts))) = los) (hend2 : wrap64 (wgt (fun s => (arA arr s).f2) (allOf lts)) = dl) :
  ∀ n i k : Nat, i + n = lts.length → 50 * n + 45000 ≤ k →
  Qai.l0 k lts arr los dl (mpW (widS arr) (fun c => wrap64 (wgt (fun s => rd (arA arr s).f1 (c : Int)) (allOf (lts.take i))))) (wrap64 (wgt (fun s => (arA arr s).f2) (allOf (lts.take i)))) (lts.length : Int) (i : Int) = some true := by
 have w32 : widS arr ≤ 32 := mW_le hu
 intro n
 induction n with
 | zero =>
  intro i k hi hk
  obtain ⟨k, rfl⟩ : ∃ z, k = z + 1 := ⟨k - 1, by omega⟩
  obtain rfl : i = lts.length := by omega
  rw [Qai.l0, if_neg (by omega), List.take_length, hend1, QeF los (by rw [← hend1, Qbq]; omega) k (by omega), Option.bind_some, if_pos rfl, hend2]
  simp
 | succ n ih =>
  intro i k hi hk
  obtain ⟨k, rfl⟩ : ∃ z, k = z + 1 := ⟨k - 1, by omega⟩
  have hlt : i < lts.length := by omega
  have hm : lts[i] ∈ lts := List.getElem_mem _
  obtain ⟨e1, e2⟩ := losL arr lts[i].f1 hl hc hu hb (hg _ hm) (ha _ hm) k (by omega)
  have tk : allOf (lts.take (i + 1)) = allOf (lts.take i) ++ lts[i].f1 := by
   rw [List.take_succ_eq_append_getElem hlt]
   unfold allOf
   rw [List.map_append, List.flatten_append]
   simp
  rw [Qai.l0, if_pos (by omega), if_pos (by omega), if_pos (by omega), lot_rd lts i hlt, e1, Option.bind_some, e2, Option.bind_some, if_pos rfl, if_pos rfl]
  dsimp only
  rw [Qd1, Qbq, Qbq]
  obtain ⟨k, rfl⟩ : ∃ z, k = z + 1 := ⟨k - 1, by omega⟩
  rw [Qai.j2, if_neg (by simp), Qbq, addW, addW2]
  have := wd_l1 lts arr los dl (wrap64 (wgt (fun s => (arA arr s).f2) (allOf (lts.take i)) + wgt (fun s => (arA arr s).f2) lts[i].f1)) (widS arr) (by omega) (lts.length : Int) (i : Int) (fun c => wrap64 (wgt (fun s => rd (arA arr s).f1 (c : Int)) (allOf (lts.take i)))) (fun c => wgt (fun s => rd (arA arr s).f1 (c : Int)) lts[i].f1) (widS arr) 0 k (by omega) (by omega)
  rw [show ((0 : Nat) : Int) = 0 from rfl] at this
  rw [QbA (widS arr) _ (fun q => if q < 0 then wrap64 (wrap64 (wgt (fun s => rd (arA arr s).f1 (q : Int)) (allOf (lts.take i))) + wgt (fun s => rd (arA arr s).f1 (q : Int)) lts[i].f1) else wrap64 (wgt (fun s => rd (arA arr s).f1 (q : Int)) (allOf (lts.take i)))) (fun c _ => (if_neg (by omega)).symm), this, IntWalk.wrap64_in ((i : Int) + 1) (by omega)]
  have := ih (i + 1) (k - widS arr - 1) (by omega) (by omega)
  rw [tk, QcT] at this
  rw [show ((i + 1 : Nat) : Int) = (i : Int) + 1 by omega] at this
  rw [QbA (widS arr) _ (fun c => wrap64 (wgt (fun s => rd (arA arr s).f1 (c : Int)) (allOf (lts.take i) ++ lts[i].f1))) (fun c _ => by rw [addW, QcT])]
  exact this
theorem QfG (arr : List Arr) (L : List Posn) (hL : QaY L) (h : hasA arr L) (hb : gentA arr) (c : Nat) (hc : ∀ a ∈ arr, c < a.f1.length) : wrap64 (wgt (fun s => rd (arA arr s).f1 (c : Int)) L) = wgt (fun s => rd (arA arr s).f1 (c : Int)) L := by
 obtain ⟨e, f⟩ := QcN arr L h hL.2.2 hb c hc
 have S := sum_bd 104857600000 _ f
 have : (colS c L (L.map (fun p => arA arr p.f0))).length = L.length := by unfold colS; rw [List.length_zipWith, List.length_map]; omega
 rw [this] at S
 rw [← e]
 exact IntWalk.wrap64_in _ (by have := hL.1; omega)
theorem QdF (arr : List Arr) (hl : arr.length ≤ 130) (hc : ∀ k, 6000 ≤ k → Qan.f k arr = some 0) (hu : uniS arr 0) (hb : gentA arr) {L : List Posn} (hL : QaY L) (hA : hasA arr L) (okPs : ∀ p ∈ L, okS p.f0) (lts : List Lt) (hlots : lts.length ≤ 1024) (hg : ∀ x ∈ lts, QaY x.f1) (hW : Whole L (allOf lts)) (k : Nat) (hk : 200000 ≤ k) :
  Qai.f k lts L arr (losW arr L) (wrap64 (wgt (fun s => (arA arr s).f2) L)) = some true := by
 have w32 : widS arr ≤ 32 := mW_le hu
 have src : ∀ x ∈ lts, ∀ q ∈ x.f1, ∃ p ∈ L, p.f0 = q.f0 := fun x hx q hq => hW.2 q (List.mem_flatten.2 ⟨x.f1, List.mem_map_of_mem hx, hq⟩)
 have ok : ∀ x ∈ lts, ∀ p ∈ x.f1, okS p.f0 := fun x hx q hq => by
  obtain ⟨p, hp, e⟩ := src x hx q hq
  rw [← e]; exact okPs p hp
 have hA2 : ∀ x ∈ lts, hasA arr x.f1 := fun x hx q hq => by
  obtain ⟨p, hp, e⟩ := src x hx q hq
  have := hA p hp
  have eq : eqA p = eqA q := by funext a; unfold eqA; rw [e]
  rw [eq] at this; exact this
 unfold Qai.f
 rw [Qft hL lts hlots hg ok hW k (by omega), Option.bind_some, if_pos rfl, QeE L (by have := hL.1; omega) k (by omega), Option.bind_some]
 obtain ⟨k, rfl⟩ : ∃ z, k = z + 1 := ⟨k - 1, by omega⟩
 rw [Qai.j0, if_neg (by decide), if_pos (by omega), Qd1, Qbq, if_pos (by omega), Int.toNat_natCast]
 have z0 : List.replicate (widS arr) (0 : Int) = mpW (widS arr) (fun c => wrap64 (wgt (fun s => rd (arA arr s).f1 (c : Int)) (allOf (lts.take 0)))) := by
  apply List.ext_getElem
  ·simp [mpW]
  intro i h1 h2
  simp [mpW, allOf, wgt, zeroW]
 have z1 : (0 : Int) = wrap64 (wgt (fun s => (arA arr s).f2) (allOf (lts.take 0))) := by simp [allOf, wgt, zeroW]
 have := wd_l0 arr hl hc hu hb lts hlots hg hA2 (mpW (widS arr) (fun c => wgt (fun s => rd (arA arr s).f1 (c : Int)) L)) (wrap64 (wgt (fun s => (arA arr s).f2) L)) (QbA _ _ _ (fun c hc' => by
  rw [Qca _ hL hW]
  refine QfG arr L hL hA hb c (fun a ha => ?_)
  have h0 : ¬ arr.length = 0 := fun e => by rw [List.length_eq_zero_iff.1 e] at ha; simp at ha
  have : a.f1.length = widS arr := by rw [widS, if_neg h0]; exact (Qcg hu ha).1
  omega)) (by rw [Qca _ hL hW]) lts.length 0 k (by omega) (by omega)
 rw [← z0, ← z1] at this
 exact this
end Go.Proofs.Ytgnmhfjfefgbfaa.Pr
