/- What pledges are worth when they are moved together. -/
import Derived.Test.YtgnmhfjfefgbfaaQ3D7LmAsset
import Derived.Test.YtgnmhfjfefgbfaaQ3D7LmAssetAll
import Derived.Test.YtgnmhfjfefgbfaaQ3D7LmAssetLow
import Derived.Test.YtgnmhfjfefgbfaaQ3D7LmAssetMath
import Derived.Test.YtgnmhfjfefgbfaaQ3D7LmPledge
import Derived.Test.YtgnmhfjfefgbfaaQ3D7LmPledge2
import Derived.Test.YtgnmhfjfefgbfaaQ3D7P0
import Derived.Test.YtgnmhfjfefgbfaaQ3D7LmBytes
import Derived.Test.YtgnmhfjfefgbfaaQ3D7LmName
import Derived.Test.YtgnmhfjfefgbfaaQ3D7LmPledgeOf
import Derived.Test.YtgnmhfjfefgbfaaQ3D7LmPledgeW
import Derived.Test.YtgnmhfjfefgbfaaQ3D7LmRate
import Derived.Test.YtgnmhfjfefgbfaaQ3D7LmRate2
import Derived.Test.YtgnmhfjfefgbfaaQ3D7LmRate3
import Derived.Test.YtgnmhfjfefgbfaaQ3D7LmSums
namespace Go.Proofs.Ytgnmhfjfefgbfaa.Pr
open Go.RowKit Go.Proofs.Ytgnmhfjfefgbfaa.Pr Go.Proofs.YtgnmhfjfefgbfaaW.PrintWords Go.Proofs.YtgnmhfjfefgbfaaW.PrintLast Go.Proofs.YtgnmhfjfefgbfaaW.PrintMore
set_option linter.unusedVariables false
set_option linter.unusedSimpArgs false
theorem Qgy {cu un hc q : Int} {l : List Rt} (h : (worS 0 cu un hc q l).2 = 0) : chkR l = 0 ∧ inR l cu ∧ (0 ≤ q ∧ q ≤ 1152921504606846976) := by
 unfold worS at h
 by_cases h1 : (valS 0 un q).2 = 0
 ·rw [if_pos h1] at h
  by_cases h2 : (convS l (valS 0 un q).1 cu 0 3).2 = 0
  ·obtain ⟨c1, c2, _⟩ := QfA l _ _ _ _ h2
   exact ⟨c1, c2, (Qdv h1).2.1⟩
  rw [if_neg h2] at h; exact absurd h h2
 rw [if_neg h1] at h; exact absurd h h1
theorem wor_bd {cu un hc q : Int} {l : List Rt} (hun : 1 ≤ un ∧ un ≤ 68719476736) (hh : 0 ≤ hc ∧ hc ≤ 1000) (h : (worS 0 cu un hc q l).2 = 0) : 0 ≤ (worS 0 cu un hc q l).1 ∧ (worS 0 cu un hc q l).1 ≤ 1152921504606846976 := by
 obtain ⟨c1, c2, c3⟩ := Qgy h
 have hl := Qdp l c1
 have rc := QbZ l c1 cu c2
 have r0 := QbZ l c1 0 ⟨by omega, by omega⟩
 rw [worS_F cu un hc q l c1 c2 hun hh c3] at h ⊢
 unfold worthF at *
 by_cases a1 : 1152921504606846976 < q * un
 ·rw [if_pos a1] at h; cases h
 rw [if_neg a1] at h ⊢
 by_cases a2 : 1152921504606846976 < q * un * (Qa0 l cu).f1 / (Qa0 l 0).f1
 ·rw [if_pos a2] at h; cases h
 rw [if_neg a2]
 have hx : 0 ≤ q * un * (Qa0 l cu).f1 / (Qa0 l 0).f1 := Int.ediv_nonneg (Int.mul_nonneg (Int.mul_nonneg c3.1 (by omega)) (by omega)) (by omega)
 have := QeB _ hc hx hh
 simp only
 omega
def wvP (L : List As) (R : List Rt) (p : Pled) : Int := (worOf R (findA L p.f1 0 L.length) p.f2).1
def wokP (L : List As) (R : List Rt) (p : Pled) : Prop := (findA L p.f1 0 L.length).2.2.2.2.2.2 = true ∧ (worOf R (findA L p.f1 0 L.length) p.f2).2 = 0
def sumW (L : List As) (R : List Rt) : List Pled → Int
 | [] => 0
 | p :: t => wvP L R p + sumW L R t
theorem Qfv {l : List Int} (h : (sumS l).2 = 0) : (sumS l).1 = l.sum := by
 unfold sumS at *
 by_cases h1 : ∀ x ∈ l, mdFits x
 ·rw [if_pos h1] at h ⊢
  by_cases h2 : mdFits l.sum
  ·rw [if_pos h2]
  rw [if_neg h2] at h; cases h
 rw [if_neg h1] at h; cases h
theorem QeF (L : List As) (R : List Rt) : ∀ (l : List Pled) (acc : List Int), (wL L R acc l).2 = 0 → (∀ p ∈ l, wokP L R p) ∧ (wL L R acc l).1 = acc.sum + sumW L R l
 | [], acc, h => ⟨(fun p hp => by cases hp), by
   have : wL L R acc [] = sumS acc := rfl
   rw [this] at h ⊢
   rw [Qfv h]
   show _ = _ + (0 : Int)
   omega⟩
 | p :: t, acc, h => by
  rw [QdP] at h ⊢
  by_cases h1 : (findA L p.f1 0 L.length).2.2.2.2.2.2 = true
  ·rw [if_pos h1] at h ⊢
   by_cases h2 : (worOf R (findA L p.f1 0 L.length) p.f2).2 = 0
   ·rw [if_pos h2] at h ⊢
    obtain ⟨i1, i2⟩ := QeF L R t _ h
    refine ⟨fun x hx => ?_, ?_⟩
    ·rcases List.mem_cons.1 hx with rfl | hx
     ·exact ⟨h1, h2⟩
     exact i1 x hx
    rw [i2, sumW, List.sum_append, List.sum_cons, List.sum_nil]
    show _ + ((worOf R (findA L p.f1 0 L.length) p.f2).1 + 0) + _ = _ + (wvP L R p + _)
    unfold wvP
    omega
   rw [if_neg h2] at h; exact absurd h h2
  rw [if_neg h1] at h; cases h
theorem QcU {l : List Pled} {a b : ByteArray} {L : List As} {R : List Rt} (h : (pwS l a b L R).2 = 0) : (∀ p ∈ ofP a b l, wokP L R p) ∧ (pwS l a b L R).1 = sumW L R (ofP a b l) := by
 unfold pwS at *
 by_cases h1 : chkP l = 0
 ·rw [if_pos h1] at h ⊢
  by_cases h2 : chkAll L = 0
  ·rw [if_pos h2] at h ⊢
   obtain ⟨i1, i2⟩ := QeF L R _ _ h
   exact ⟨i1, by rw [i2]; show (0 : Int) + _ = _; omega⟩
  rw [if_neg h2] at h; exact absurd h h2
 rw [if_neg h1] at h; exact absurd h h1
end Go.Proofs.Ytgnmhfjfefgbfaa.Pr
