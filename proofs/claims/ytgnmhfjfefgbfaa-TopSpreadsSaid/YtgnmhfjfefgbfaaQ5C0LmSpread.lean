/- TopSpreads: the loops. -/
import Derived.Test.YtgnmhfjfefgbfaaQ5C0LmInter
import Derived.Test.YtgnmhfjfefgbfaaQ5C0LmInter2
import Derived.Test.YtgnmhfjfefgbfaaQ5C0LmInter3
import Derived.Test.YtgnmhfjfefgbfaaQ5C0LmPos
import Derived.Test.YtgnmhfjfefgbfaaQ5C0LmScan
import Derived.Test.YtgnmhfjfefgbfaaQ5C0LmScanE
import Derived.Test.YtgnmhfjfefgbfaaQ5C0LmScanP
import Derived.Test.YtgnmhfjfefgbfaaQ5C0LmScanR
import Derived.Test.YtgnmhfjfefgbfaaQ5C0LmTier
import Derived.Test.YtgnmhfjfefgbfaaQ5C0LmTier2
import Derived.Test.YtgnmhfjfefgbfaaQ5C0LmTier3
import Derived.Test.YtgnmhfjfefgbfaaQ5C0LmTier4
import Derived.Test.YtgnmhfjfefgbfaaQ5C0P0
import Derived.Test.YtgnmhfjfefgbfaaQ5C0P2
import Derived.Test.YtgnmhfjfefgbfaaQ5C0P7
namespace Go.Proofs.Ytgnmhfjfefgbfaa.Pr
open Go.RowKit Go.Proofs.Ytgnmhfjfefgbfaa.Pr Go.Proofs.YtgnmhfjfefgbfaaW.PrintWords Go.Proofs.YtgnmhfjfefgbfaaW.PrintLast Go.Proofs.YtgnmhfjfefgbfaaW.PrintMore
set_option linter.unusedVariables false
set_option linter.unusedSimpArgs false
theorem QfW (N : List ByteArray) (ds rs : List Int) (crs : List Crd) : ((saveS N ds rs crs).2.2 = 0 → (saveS N ds rs crs).1.length = N.length) ∧ (saveS N ds rs crs).1.length ≤ N.length ∧ ∀ j : Nat, j < (saveS N ds rs crs).1.length → 0 ≤ rd (saveS N ds rs crs).1 (j : Int) ∧ rd (saveS N ds rs crs).1 (j : Int) ≤ rd rs (j : Int) := by
 unfold saveS
 by_cases c : crS crs = 0
 ·rw [if_pos c]
  by_cases m : mayS N ds rs = true
  ·rw [if_pos m]
   have M := QeE m
   obtain ⟨I, _, _⟩ := QeL (ixI N 0) ds rs N.length (may_pl M) (QeF M) crs _ (QeH M) (crS_ok c).2
   change InvI ds rs N.length (pS N ds rs crs) at I
   exact ⟨fun _ => I.n1, Nat.le_of_eq I.n1, fun j hj => I.s j (by have := I.n1; dsimp only at hj; omega)⟩
  rw [if_neg m]; exact ⟨fun h => absurd h (by decide), by simp, fun j hj => by simp at hj⟩
 rw [if_neg c]; exact ⟨fun h => absurd h c, by simp, fun j hj => by simp at hj⟩
theorem g14 (k : Nat) (hk : 9000 ≤ k) : ((QaA.f k).bind fun t => (some t)) = some true := by rw [goes14 k hk]; rfl
theorem QgC (rs sv : List Int) (h1 : sv.length ≤ 1000) (h2 : sv.length ≤ rs.length) (h : ∀ j : Nat, j < sv.length → 0 ≤ rd sv (j : Int) ∧ rd sv (j : Int) ≤ rd rs (j : Int)) : ∀ n i k : Nat, i + n = sv.length → n + 9001 ≤ k → contangotop_TopSpreads.l1 k rs sv (i : Int) = some true := by
 intro n
 induction n with
 | zero =>
  intro i k hi hk
  obtain ⟨k, rfl⟩ : ∃ q, k = q + 1 := ⟨k - 1, by omega⟩
  rw [contangotop_TopSpreads.l1, if_neg (show ¬ (i : Int) < (sv.length : Int) by omega)]
  exact g14 k (by omega)
 | succ n ih =>
  intro i k hi hk
  obtain ⟨k, rfl⟩ : ∃ q, k = q + 1 := ⟨k - 1, by omega⟩
  obtain ⟨a, b⟩ := h i (by omega)
  rw [contangotop_TopSpreads.l1, if_pos (show (i : Int) < (sv.length : Int) by omega), if_pos (show (0 : Int) ≤ (i : Int) by omega), if_neg (by omega), if_pos (show (i : Int) < (rs.length : Int) by omega), if_neg (by omega), smW1 (by omega)]
  exact ih (i + 1) k (by omega) (by omega)
theorem Qgq (P : List (List Posn)) (j : Nat) (h : j < P.length) : P.take (j + 1) = P.take j ++ [rd_L7 P (j : Int)] := by
 rw [List.take_succ_eq_append_getElem h]
 unfold rd_L7
 rw [Int.toNat_natCast, List.getD_eq_getElem?_getD, List.getElem?_eq_getElem h]
 rfl
def RkInv (arr : List Arr) (L : List Posn) (s : Int) : Prop := ∃ o, ownM arr L = some o ∧ ∀ c : Nat, c < widS arr → (colS c L o).sum ≤ s
theorem QfB {days b : List Int} {sps : List Sp} (h : (formS days b sps).2.2 = 0) : (formS days b sps).2.1.sum = b.sum ∧ (formS days b sps).2.1.length = days.length := by
 obtain ⟨c1, c2, c3, e⟩ := QfA h
 obtain ⟨hl, hs⟩ := spS_ok c1
 obtain ⟨r1, r2, r3, r4, r5⟩ := QdI days sps (fun s x => (hs s x).1.2.2) b (Qeu c2 c3)
 rw [e]
 exact ⟨r3, r1.1⟩
theorem QgB (N : List ByteArray) (P : List (List Posn)) (whole : Int) (arr : List Arr) (sps : List Sp) (crs : List Crd) (ce : Int) (hl : arr.length ≤ 130) (hc : ∀ k, 6000 ≤ k → Qar.f k arr = some ce) (hu : ce = 0 → uniS arr 0)
  (hN : N.length = P.length) (hP : P.length ≤ 128) (sz : ∀ y ∈ N, y.size ≤ 9223372036854775807) (big : bigC crs) (hW : ∀ s : Int, 0 ≤ s → RkInv arr P.flatten s → whole ≤ s) :
  ∀ n j k : Nat, j + n = P.length → 3 * n + 60000 ≤ k → ∀ (ds rs : List Int) (s : Int), ds.length = j → rs.length = j → 0 ≤ s → s ≤ (j : Int) * 18014398509481984 → RkInv arr (P.take j).flatten s →
   contangotop_TopSpreads.l0 k N P whole ds rs s (j : Int) arr sps crs = some true := by
 intro n
 induction n with
 | zero =>
  intro j k hj hk ds rs s h1 h2 h3 h4 h5
  obtain ⟨k, rfl⟩ : ∃ q, k = q + 1 := ⟨k - 1, by omega⟩
  obtain rfl : j = P.length := by omega
  rw [List.take_length] at h5
  have hw := hW s h3 h5
  obtain ⟨f1, f2, f3⟩ := QfW N ds rs crs
  have tail : contangotop_TopSpreads.j4 k rs (saveS N ds rs crs).1 false = some true := by
   obtain ⟨k, rfl⟩ : ∃ q, k = q + 1 := ⟨k - 1, by omega⟩
   rw [contangotop_TopSpreads.j4, if_neg (by decide)]
   exact QgC rs (saveS N ds rs crs).1 (by omega) (by omega) f3 (saveS N ds rs crs).1.length 0 k (by omega) (by omega)
  rw [contangotop_TopSpreads.l0, if_neg (show ¬ (P.length : Int) < (P.length : Int) by omega), Qgw N ds rs crs (by omega) sz big k (by omega), Option.bind_some, if_neg (by omega)]
  by_cases g : (saveS N ds rs crs).2.2 = 0
  ·rw [if_pos g, f1 g, bne_self_eq_false]; exact tail
  rw [if_neg g]; exact tail
 | succ n ih =>
  intro j k hj hk ds rs s h1 h2 h3 h4 h5
  obtain ⟨k, rfl⟩ : ∃ q, k = q + 3 := ⟨k - 3, by omega⟩
  obtain ⟨A, hA⟩ : ∃ A, A = rd_L7 P (j : Int) := ⟨_, rfl⟩
  obtain ⟨R, sc, e, r1, r2, r3⟩ := QeK ce arr A hl hc hu
  obtain ⟨d, b, x1, x2⟩ := exp_ex ce arr A hl hc
  rw [contangotop_TopSpreads.l0, if_pos (show (j : Int) < (P.length : Int) by omega), if_pos (show (0 : Int) ≤ (j : Int) by omega), ← hA, r1 (k + 2) (by omega), Option.bind_some, Qfv ce arr A hl hc (k + 2) (by omega), Option.bind_some, x1 (k + 2) (by omega), Option.bind_some]
  by_cases he : e = 0
  ·obtain ⟨c1, c2, _⟩ := r3 he
   obtain ⟨d1, d2, d3⟩ := x2 c1
   obtain ⟨_, _, o, o1, o2⟩ := fnd_ok c1
   dsimp only
   rw [if_pos he, if_pos c1, if_pos c1, QeO b (by omega) (k + 2) (by omega), Option.bind_some, d3, bne_self_eq_false, contangotop_TopSpreads.j2, if_neg (by decide), Qgd d b sps (by omega) (by omega) (k + 1) (by omega), Option.bind_some]
   have J3 : contangotop_TopSpreads.j3 (k + 1) N P whole ds rs s (j : Int) R (wrap64 (List.zipWith dltS A (fndS ce A arr).1).sum) false arr sps crs = some true := by
    rw [contangotop_TopSpreads.j3, if_neg (by decide), if_pos (by omega), if_pos (by omega)]
    by_cases hR : R > 18014398509481984
    ·rw [if_pos hR]; exact g14 k (by omega)
    have em : mn R 18014398509481984 = R := by unfold mn; split <;> omega
    rw [if_neg hR, em, IntWalk.wrap64_in (s + R) (by omega), smW1 (by omega)]
    refine ih (j + 1) k (by omega) (by omega) _ _ (s + R) (by simp [h1]) (by simp [h2]) (by omega) (by omega) ?_
    obtain ⟨q, q1, q2⟩ := h5
    rw [Qgq P j (by omega), ← hA, List.flatten_append]
    simp only [List.flatten_cons, List.flatten_nil, List.append_nil]
    refine ⟨q ++ o, by rw [QeJ, q1, Option.bind_some, o1]; rfl, fun c hc' => ?_⟩
    rw [Qf7 c _ _ q o (Qct q1).1]
    have a1 := q2 c hc'
    have a2 := c2 c hc'
    rw [o2] at a2
    dsimp only at a2
    omega
   by_cases g : (formS d b sps).2.2 = 0
   ·obtain ⟨s1, s2⟩ := QfB g
    rw [if_pos g, QeO _ (by omega) (k + 1) (by omega), Option.bind_some, s1, d3, bne_self_eq_false]
    exact J3
   rw [if_neg g]; exact J3
  dsimp only
  rw [if_neg he]; exact g14 (k + 2) (by omega)
end Go.Proofs.Ytgnmhfjfefgbfaa.Pr
