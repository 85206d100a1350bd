/- What pledges are worth when they are moved together. -/
import Derived.Test.YtfcaaefdmabkhaaQ1A6LmAsset
import Derived.Test.YtfcaaefdmabkhaaQ1A6LmAssetAll
import Derived.Test.YtfcaaefdmabkhaaQ1A6LmAssetLow
import Derived.Test.YtfcaaefdmabkhaaQ1A6LmAssetMath
import Derived.Test.YtfcaaefdmabkhaaQ1A6LmPledge
import Derived.Test.YtfcaaefdmabkhaaQ1A6LmPledge3
import Derived.Test.YtfcaaefdmabkhaaQ1A6LmBytes
import Derived.Test.YtfcaaefdmabkhaaQ1A6LmName
import Derived.Test.YtfcaaefdmabkhaaQ1A6LmPledge2
import Derived.Test.YtfcaaefdmabkhaaQ1A6LmPledgeOf
import Derived.Test.YtfcaaefdmabkhaaQ1A6P0
import Derived.Test.YtfcaaefdmabkhaaQ1A6LmPledgeW
import Derived.Test.YtfcaaefdmabkhaaQ1A6LmRate
import Derived.Test.YtfcaaefdmabkhaaQ1A6LmRate2
import Derived.Test.YtfcaaefdmabkhaaQ1A6LmRate3
import Derived.Test.YtfcaaefdmabkhaaQ1A6LmSums
namespace Go.Proofs.Ytfcaaefdmabkhaa.Pr
open Go.RowKit Go.Proofs.Ytfcaaefdmabkhaa.Pr Go.Proofs.YtfcaaefdmabkhaaW.PrintWords Go.Proofs.YtfcaaefdmabkhaaW.PrintLast Go.Proofs.YtfcaaefdmabkhaaW.PrintMore
set_option linter.unusedVariables false
set_option linter.unusedSimpArgs false
theorem QcG {cu un hc q : Int} {l : List Rt} (h : (worS 0 cu un hc q l).2 = 0) : chkR l = 0 ∧ inR l cu ∧ (0 ≤ q ∧ q ≤ 1152921504606846976) := by
 unfold worS at h
 by_cases h1 : (valS 0 un q).2 = 0
 ·rw [if_pos h1] at h
  by_cases h2 : (convS l (valS 0 un q).1 cu 0 3).2 = 0
  ·obtain ⟨c1, c2, _⟩ := Qfo l _ _ _ _ h2
   exact ⟨c1, c2, (Qcr h1).2.1⟩
  rw [if_neg h2] at h; exact absurd h h2
 rw [if_neg h1] at h; exact absurd h h1
theorem wor_bd {cu un hc q : Int} {l : List Rt} (hun : 1 ≤ un ∧ un ≤ 68719476736) (hh : 0 ≤ hc ∧ hc ≤ 1000) (h : (worS 0 cu un hc q l).2 = 0) : 0 ≤ (worS 0 cu un hc q l).1 ∧ (worS 0 cu un hc q l).1 ≤ 1152921504606846976 := by
 obtain ⟨c1, c2, c3⟩ := QcG h
 have hl := Qcm l c1
 have rc := QbF l c1 cu c2
 have r0 := QbF l c1 0 ⟨by omega, by omega⟩
 rw [worS_F cu un hc q l c1 c2 hun hh c3] at h ⊢
 unfold worthF at *
 by_cases a1 : 1152921504606846976 < q * un
 ·rw [if_pos a1] at h; cases h
 rw [if_neg a1] at h ⊢
 by_cases a2 : 1152921504606846976 < q * un * (rd_T98 l cu).f1 / (rd_T98 l 0).f1
 ·rw [if_pos a2] at h; cases h
 rw [if_neg a2]
 have hx : 0 ≤ q * un * (rd_T98 l cu).f1 / (rd_T98 l 0).f1 := Int.ediv_nonneg (Int.mul_nonneg (Int.mul_nonneg c3.1 (by omega)) (by omega)) (by omega)
 have := Qey _ hc hx hh
 simp only
 omega
theorem QdY (a b r : Int) (hr : 0 < r) : a / r + b / r ≤ (a + b) / r := by
 refine Int.le_ediv_of_mul_le hr ?_
 have h1 := Int.ediv_mul_le a (show r ≠ 0 by omega)
 have h2 := Int.ediv_mul_le b (show r ≠ 0 by omega)
 rw [Int.add_mul]; omega
theorem Qes (u rc r0 h q q' : Int) (h0 : 0 < r0) (hh : 0 ≤ h ∧ h ≤ 1000) (h1 : (worthF u rc r0 h q).2 = 0) (h2 : (worthF u rc r0 h q').2 = 0) (h3 : (worthF u rc r0 h (q + q')).2 = 0) :
  (worthF u rc r0 h q).1 + (worthF u rc r0 h q').1 ≤ (worthF u rc r0 h (q + q')).1 := by
 unfold worthF at *
 by_cases a1 : 1152921504606846976 < q * u
 ·rw [if_pos a1] at h1; cases h1
 by_cases a2 : 1152921504606846976 < q * u * rc / r0
 ·rw [if_neg a1, if_pos a2] at h1; cases h1
 by_cases b1 : 1152921504606846976 < q' * u
 ·rw [if_pos b1] at h2; cases h2
 by_cases b2 : 1152921504606846976 < q' * u * rc / r0
 ·rw [if_neg b1, if_pos b2] at h2; cases h2
 by_cases c1 : 1152921504606846976 < (q + q') * u
 ·rw [if_pos c1] at h3; cases h3
 by_cases c2 : 1152921504606846976 < (q + q') * u * rc / r0
 ·rw [if_neg c1, if_pos c2] at h3; cases h3
 rw [if_neg a1, if_neg a2, if_neg b1, if_neg b2, if_neg c1, if_neg c2]
 have d1 := QdY (q * u * rc) (q' * u * rc) r0 h0
 rw [← Int.add_mul, ← Int.add_mul] at d1
 generalize q * u * rc / r0 = X at *
 generalize q' * u * rc / r0 = Y at *
 generalize (q + q') * u * rc / r0 = Z at *
 have d2 := QdY (X * (1000 - h)) (Y * (1000 - h)) 1000 (by omega)
 rw [← Int.add_mul] at d2
 have d3 : (X + Y) * (1000 - h) ≤ Z * (1000 - h) := Int.mul_le_mul_of_nonneg_right d1 (by omega)
 have d4 : (X + Y) * (1000 - h) / 1000 ≤ Z * (1000 - h) / 1000 := Int.ediv_le_ediv (by omega) d3
 show X * (1000 - h) / 1000 + Y * (1000 - h) / 1000 ≤ Z * (1000 - h) / 1000
 omega
def wvP (L : List As) (R : List Rt) (p : Pled) : Int := (worOf R (findA L p.f1 0 L.length) p.f2).1
def wokP (L : List As) (R : List Rt) (p : Pled) : Prop := (findA L p.f1 0 L.length).2.2.2.2.2.2 = true ∧ (worOf R (findA L p.f1 0 L.length) p.f2).2 = 0
theorem QfS (L : List As) (R : List Rt) (x y z : Pled) (h1 : x.f1 = z.f1) (h2 : y.f1 = z.f1) (h3 : z.f2 = x.f2 + y.f2) (hx : wokP L R x) (hy : wokP L R y) (hz : wokP L R z) : wvP L R x + wvP L R y ≤ wvP L R z := by
 unfold wvP wokP at *
 rw [h1] at hx ⊢
 rw [h2] at hy ⊢
 rw [h3] at hz ⊢
 generalize findA L z.f1 0 L.length = a at *
 unfold worOf at *
 obtain ⟨_, hx⟩ := hx
 obtain ⟨_, hy⟩ := hy
 obtain ⟨_, hz⟩ := hz
 have hv : chkA a.1 a.2.1 a.2.2.1 a.2.2.2.1 a.2.2.2.2.1 a.2.2.2.2.2.1 = 0 := by
  unfold worS at hx
  by_cases h : (valS (chkA a.1 a.2.1 a.2.2.1 a.2.2.2.1 a.2.2.2.2.1 a.2.2.2.2.2.1) a.2.2.2.1 x.f2).2 = 0
  ·exact (Qcr h).1
  rw [if_neg h] at hx; exact absurd hx h
 obtain ⟨_, hun, hh⟩ := QcC _ _ _ _ _ _ hv
 rw [hv] at hx hy hz ⊢
 obtain ⟨c1, c2, q1⟩ := QcG hx
 obtain ⟨_, _, q2⟩ := QcG hy
 obtain ⟨_, _, q3⟩ := QcG hz
 have hl := Qcm R c1
 have r0 := QbF R c1 0 ⟨by omega, by omega⟩
 rw [worS_F _ _ _ _ R c1 c2 hun hh q1] at hx ⊢
 rw [worS_F _ _ _ _ R c1 c2 hun hh q2] at hy ⊢
 rw [worS_F _ _ _ _ R c1 c2 hun hh q3] at hz ⊢
 exact Qes _ _ _ _ _ _ (by omega) hh hx hy hz
def sumW (L : List As) (R : List Rt) : List Pled → Int
 | [] => 0
 | p :: t => wvP L R p + sumW L R t
theorem Qb1 (L : List As) (R : List Rt) : ∀ l m : List Pled, sumW L R (l ++ m) = sumW L R l + sumW L R m
 | [], m => by show _ = 0 + _; rw [List.nil_append]; omega
 | p :: t, m => by rw [List.cons_append, sumW, sumW, Qb1 L R t m]; omega
theorem Qfk {l : List Int} (h : (sumS l).2 = 0) : (sumS l).1 = l.sum := by
 unfold sumS at *
 by_cases h1 : ∀ x ∈ l, mdFits x
 ·rw [if_pos h1] at h ⊢
  by_cases h2 : mdFits l.sum
  ·rw [if_pos h2]
  rw [if_neg h2] at h; cases h
 rw [if_neg h1] at h; cases h
theorem QeD (L : List As) (R : List Rt) : ∀ (l : List Pled) (acc : List Int), (wL L R acc l).2 = 0 → (∀ p ∈ l, wokP L R p) ∧ (wL L R acc l).1 = acc.sum + sumW L R l
 | [], acc, h => ⟨(fun p hp => by cases hp), by
   have : wL L R acc [] = sumS acc := rfl
   rw [this] at h ⊢
   rw [Qfk h]
   show _ = _ + (0 : Int)
   omega⟩
 | p :: t, acc, h => by
  rw [Qc3] at h ⊢
  by_cases h1 : (findA L p.f1 0 L.length).2.2.2.2.2.2 = true
  ·rw [if_pos h1] at h ⊢
   by_cases h2 : (worOf R (findA L p.f1 0 L.length) p.f2).2 = 0
   ·rw [if_pos h2] at h ⊢
    obtain ⟨i1, i2⟩ := QeD L R t _ h
    refine ⟨fun x hx => ?_, ?_⟩
    ·rcases List.mem_cons.1 hx with rfl | hx
     ·exact ⟨h1, h2⟩
     exact i1 x hx
    rw [i2, sumW, List.sum_append, List.sum_cons, List.sum_nil]
    show _ + ((worOf R (findA L p.f1 0 L.length) p.f2).1 + 0) + _ = _ + (wvP L R p + _)
    unfold wvP
    omega
   rw [if_neg h2] at h; exact absurd h h2
  rw [if_neg h1] at h; cases h
theorem Qb2 {l : List Pled} {a b : ByteArray} {L : List As} {R : List Rt} (h : (pwS l a b L R).2 = 0) : (∀ p ∈ ofP a b l, wokP L R p) ∧ (pwS l a b L R).1 = sumW L R (ofP a b l) := by
 unfold pwS at *
 by_cases h1 : chkP l = 0
 ·rw [if_pos h1] at h ⊢
  by_cases h2 : chkAll L = 0
  ·rw [if_pos h2] at h ⊢
   obtain ⟨i1, i2⟩ := QeD L R _ _ h
   exact ⟨i1, by rw [i2]; show (0 : Int) + _ = _; omega⟩
  rw [if_neg h2] at h; exact absurd h h2
 rw [if_neg h1] at h; exact absurd h h1
end Go.Proofs.Ytfcaaefdmabkhaa.Pr
