/- Units: the least number that is worth so much, by the program and by the reference. -/
import Derived.Test.YtgnmhfjfefgbfaaQ3D7LmAsset
import Derived.Test.YtgnmhfjfefgbfaaQ3D7LmAssetMath
import Derived.Test.YtgnmhfjfefgbfaaQ3D7LmCentsMul
import Derived.Test.YtgnmhfjfefgbfaaQ3D7LmLeast
import Derived.Test.YtgnmhfjfefgbfaaQ3D7LmRate
import Derived.Test.YtgnmhfjfefgbfaaQ3D7LmRate2
import Derived.Test.YtgnmhfjfefgbfaaQ3D7LmRate3
import Derived.Test.YtgnmhfjfefgbfaaQ3D7P0
import Derived.Test.YtgnmhfjfefgbfaaQ3D7P6
namespace Go.Proofs.Ytgnmhfjfefgbfaa.Pr
open Go.RowKit Go.Proofs.Ytgnmhfjfefgbfaa.Pr Go.Proofs.YtgnmhfjfefgbfaaW.PrintWords Go.Proofs.YtgnmhfjfefgbfaaW.PrintLast Go.Proofs.YtgnmhfjfefgbfaaW.PrintMore
set_option linter.unusedVariables false
set_option linter.unusedSimpArgs false
theorem worS_F (cu un hc q : Int) (l : List Rt) (h : chkR l = 0) (hcu : inR l cu) (hun : 1 ≤ un ∧ un ≤ 68719476736) (hh : 0 ≤ hc ∧ hc ≤ 1000) (hq : 0 ≤ q ∧ q ≤ 1152921504606846976) :
  worS 0 cu un hc q l = worthF un (Qa0 l cu).f1 (Qa0 l 0).f1 hc q := by
 have hl := Qdp l h
 have h0 : inR l 0 := ⟨by omega, by omega⟩
 have rc := QbZ l h cu hcu
 have r0 := QbZ l h 0 h0
 have hn : 0 ≤ q * un := Int.mul_nonneg hq.1 (by omega)
 have hv : valS 0 un q = if 1152921504606846976 < q * un then (0, 3) else (q * un, 0) := by
  unfold valS mulS
  rw [if_pos rfl, if_pos hq, if_pos ⟨by unfold mdFits; omega, by unfold mdFits; omega⟩]
  by_cases c : 1152921504606846976 < q * un
  ·rw [if_pos c, if_neg (by unfold mdFits; omega)]
  rw [if_neg c, if_pos (by unfold mdFits; omega)]
 unfold worS worthF
 rw [hv]
 by_cases c : 1152921504606846976 < q * un
 ·rw [if_pos c, if_pos c]; rfl
 rw [if_neg c, if_neg c]
 simp only [if_true]
 rw [Qfz l (q * un) cu 0 3 h hcu h0 (by unfold mdFits; omega) (by omega), Qdu _ _ _ hn (by omega) (by omega)]
 have hx : 0 ≤ q * un * (Qa0 l cu).f1 / (Qa0 l 0).f1 := Int.ediv_nonneg (Int.mul_nonneg hn (by omega)) (by omega)
 generalize q * un * (Qa0 l cu).f1 / (Qa0 l 0).f1 = X at hx ⊢
 by_cases d : 1152921504606846976 < X
 ·rw [if_pos d, if_pos d]; rfl
 rw [if_neg d, if_neg d]
 simp only [if_true]
 have hp := QeB X hc hx hh
 unfold mdS
 rw [if_pos ⟨by unfold mdFits; omega, by unfold mdFits; omega, by unfold mdFits; omega, by omega, by omega⟩, if_neg (by omega), Qdu _ _ _ hx (by omega) (by omega), if_neg (by omega)]
theorem Qel (cu un hc q : Int) (l : List Rt) (hq : ¬ (0 ≤ q ∧ q ≤ 1152921504606846976)) : worS 0 cu un hc q l = (0, 18) := by
 unfold worS valS
 rw [if_pos rfl, if_neg hq]
 rfl
def enS (cu un hc n : Int) (l : List Rt) (q : Int) : Prop := (worS 0 cu un hc q l).2 ≠ 0 ∨ n ≤ (worS 0 cu un hc q l).1
theorem QfE (cu un hc n : Int) (l : List Rt) (h : chkR l = 0) (hcu : inR l cu) (hun : 1 ≤ un ∧ un ≤ 68719476736) (hh : 0 ≤ hc ∧ hc ≤ 1000) (a b : Int) (ha : 0 ≤ a) (hab : a ≤ b) (he : enS cu un hc n l a) : enS cu un hc n l b := by
 have hl := Qdp l h
 have rc := QbZ l h cu hcu
 have r0 := QbZ l h 0 ⟨by omega, by omega⟩
 unfold enS at *
 by_cases hb : b ≤ 1152921504606846976
 ·rw [worS_F cu un hc b l h hcu hun hh ⟨by omega, hb⟩]
  rw [worS_F cu un hc a l h hcu hun hh ⟨ha, by omega⟩] at he
  exact Qep un _ _ hc n a b (by omega) (by omega) (by omega) hh hab he
 rw [Qel cu un hc b l (by omega)]
 left; decide
theorem Qe7 (cu un hc n : Int) (l : List Rt) : ∃ L, QdM (enS cu un hc n l) L ∧ L ≤ 1152921504606846977 := by
 have : enS cu un hc n l ((1152921504606846977 : Nat) : Int) := by
  unfold enS
  rw [Qel cu un hc _ l (by omega)]
  left; decide
 obtain ⟨L, hL, hle⟩ := Qeq (enS cu un hc n l) 1152921504606846977 this
 exact ⟨L, hL, by omega⟩
theorem QeV (s : ByteArray) (kd cu un hc cp n : Int) (l : List Rt) (hA : chkA s kd cu un hc cp = 0) (L : Int) (hE : ∀ q, 0 ≤ q → (enS cu un hc n l q ↔ L ≤ q)) (M : Int) (hM : M = if L ≤ 1152921504606846976 then L else 1152921504606846976) :
  ∀ j : Nat, ∀ k : Nat, j + 80 ≤ k → ∀ lo hi : Int, 0 ≤ lo → lo ≤ M → M ≤ hi → hi ≤ 1152921504606846976 → hi - lo < 2 ^ j → Qa8.l0 k s kd cu un hc cp n l lo hi = some M := by
 intro j
 induction j with
 | zero =>
  intro k hk lo hi h0 h1 h2 h3 h4
  obtain ⟨k, rfl⟩ : ∃ m, k = m + 1 := ⟨k - 1, by omega⟩
  rw [Qa8.l0, if_neg (by omega)]
  congr 1; omega
 | succ j ih =>
  intro k hk lo hi h0 h1 h2 h3 h4
  obtain ⟨k, rfl⟩ : ∃ m, k = m + 1 := ⟨k - 1, by omega⟩
  rw [Qa8.l0]
  by_cases hlt : lo < hi
  ·have hp : (2 : Int) ^ (j + 1) = 2 * 2 ^ j := by rw [Int.pow_succ, Int.mul_comm]
   rw [hp] at h4
   have hm : wrap64 (lo + (wrap64 (Int.tdiv (wrap64 (hi - lo)) 2))) = lo + (hi - lo) / 2 := by
    rw [IntWalk.wrap64_in (hi - lo) (by omega), Int.tdiv_eq_ediv_of_nonneg (by omega), IntWalk.wrap64_in ((hi - lo) / 2) (by omega), IntWalk.wrap64_in _ (by omega)]
   rw [if_pos hlt, hm, QcA s kd cu un hc cp _ l k (by omega), Option.bind_some, hA]
   have hc1 := hE (lo + (hi - lo) / 2) (by omega)
   unfold enS at hc1
   by_cases hc : (worS 0 cu un hc (lo + (hi - lo) / 2) l).2 ≠ 0 ∨ n ≤ (worS 0 cu un hc (lo + (hi - lo) / 2) l).1
   ·rw [if_pos hc]
    have := hc1.1 hc
    exact ih k (by omega) _ _ h0 h1 (by rw [hM]; split <;> omega) (by omega) (by omega)
   rw [if_neg hc, IntWalk.wrap64_in (lo + (hi - lo) / 2 + 1) (by omega)]
   have : ¬ L ≤ lo + (hi - lo) / 2 := fun z => hc (hc1.2 z)
   exact ih k (by omega) _ _ (by omega) (by rw [hM]; split <;> omega) h2 h3 (by omega)
  rw [if_neg hlt]
  congr 1; omega
end Go.Proofs.Ytgnmhfjfefgbfaa.Pr
