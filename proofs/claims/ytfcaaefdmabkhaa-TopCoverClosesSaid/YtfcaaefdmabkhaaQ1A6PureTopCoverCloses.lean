/- TopCoverCloses: a gap can be closed. -/
import Derived.Test.YtfcaaefdmabkhaaQ1A6LmAsset
import Derived.Test.YtfcaaefdmabkhaaQ1A6LmAssetAll
import Derived.Test.YtfcaaefdmabkhaaQ1A6LmAssetU
import Derived.Test.YtfcaaefdmabkhaaQ1A6LmCover0
import Derived.Test.YtfcaaefdmabkhaaQ1A6LmLimit
import Derived.Test.YtfcaaefdmabkhaaQ1A6LmLimitCap
import Derived.Test.YtfcaaefdmabkhaaQ1A6LmLimitFr
import Derived.Test.YtfcaaefdmabkhaaQ1A6LmPledge
import Derived.Test.YtfcaaefdmabkhaaQ1A6LmPledge2
import Derived.Test.YtfcaaefdmabkhaaQ1A6LmPledge3
import Derived.Test.YtfcaaefdmabkhaaQ1A6LmPledgeTop
import Derived.Test.YtfcaaefdmabkhaaQ1A6LmPledgeW
import Derived.Test.YtfcaaefdmabkhaaQ1A6LmTopCov
import Derived.Test.YtfcaaefdmabkhaaQ1A6LmTopCovC
import Derived.Test.YtfcaaefdmabkhaaQ1A6P0
import Derived.Test.YtfcaaefdmabkhaaQ1A6P6
import Derived.Test.YtfcaaefdmabkhaaQ1A6P3
import Derived.Test.YtfcaaefdmabkhaaQ1A6P7
import Derived.Test.YtfcaaefdmabkhaaQ1A6PrxDTopCoverCloses
namespace Go.Proofs.Ytfcaaefdmabkhaa.Pure
open Go.RowKit Go.Proofs.Ytfcaaefdmabkhaa.Pr Go.Proofs.YtfcaaefdmabkhaaW.PrintWords Go.Proofs.YtfcaaefdmabkhaaW.PrintLast Go.Proofs.YtfcaaefdmabkhaaW.PrintMore
set_option linter.unusedVariables false
set_option linter.unusedSimpArgs false
theorem TopCoverCloses : contangotop_TopCoverCloses.Pure := by
 intro a b x2 x3 x4 x5 x6 x7 n l L R s
 intros
 refine ⟨10001, ?_⟩
 have g : ∀ k, 9000 ≤ k → ((Qaz.f k).bind fun t => some t) = some true := fun k hk => by rw [goes17 k hk]; rfl
 unfold contangotop_TopCoverCloses.f
 have few : ∀ f, Qbj.f a b x2 x3 x4 x5 x6 x7 n l L R s = some f → f = true → L.length ≤ 100 ∧ l.length ≤ 200 := by
  intro f hf ht
  unfold Qbj.f at hf
  by_cases h1 : (l.length : Int) ≤ 200
  ·rw [if_pos h1] at hf
   have := Option.some.inj hf
   rw [← this] at ht
   have := of_decide_eq_true ht
   omega
  rw [if_neg h1] at hf
  have := Option.some.inj hf
  rw [← this] at ht; cases ht
 cases hf : Qbj.f a b x2 x3 x4 x5 x6 x7 n l L R s with
 | none =>
  unfold Qbj.f at hf
  (repeat' split at hf) <;> cases hf
 | some f =>
  rw [Option.bind_some]
  cases f with
  | false => rw [if_neg (by simp), g _ (by omega)]
  | true =>
   obtain ⟨hL, hl⟩ := few true hf rfl
   have jt : ∀ y0 y1 y2 y3 y4 z0 z1 z2 z3 z4 z5, contangotop_TopCoverCloses.j0 10001 true a b x2 x3 x4 x5 x6 x7 n l L R s y0 y1 y2 y3 y4 z0 z1 z2 z3 z4 z5 = some true := fun y0 y1 y2 y3 y4 z0 z1 z2 z3 z4 z5 => by
    rw [contangotop_TopCoverCloses.j0, if_pos rfl, g _ (by omega)]
   rw [if_pos rfl]
   by_cases hc : (covS l a b n L R).2 = 0
   ·rw [gap_ok a b x2 x3 x4 x5 x6 x7 n l L R s l 10001 (by omega) hc, Option.bind_some, Qcl L s (by omega) 10001 (by omega), Option.bind_some, if_pos rfl]
    by_cases h1 : (findA L s 0 L.length).2.2.2.2.2.2 = true
    ·rw [if_pos h1]
     by_cases h2 : (findA L s 0 L.length).2.2.2.2.2.1 = 1000
     ·rw [if_pos h2]
      cases hz : (mx (n - (covS l a b n L R).1) 0 == 0) with
      | true =>
       exact jt _ _ _ _ _ _ _ _ _ _ _
      | false =>
       have hlack : mx (n - (covS l a b n L R).1) 0 = n - (covS l a b n L R).1 ∧ 0 < n - (covS l a b n L R).1 := by
        have := beq_eq_false_iff_ne.1 hz
        unfold mx at this ⊢
        split at this <;> rename_i hh
        ·exact absurd rfl this
        rw [if_neg hh]; omega
       rw [contangotop_TopCoverCloses.j0, if_neg (by simp)]
       generalize hA : findA L s 0 L.length = A at *
       obtain ⟨r, r1, r2, r3⟩ := Qem A.1 A.2.1 A.2.2.1 A.2.2.2.1 A.2.2.2.2.1 A.2.2.2.2.2.1 (mx (n - (covS l a b n L R).1) 0) R 10000 (by omega)
       show (Qa1.f 10000 A.1 A.2.1 A.2.2.1 A.2.2.2.1 A.2.2.2.2.1 A.2.2.2.2.2.1 (mx (n - (covS l a b n L R).1) 0) R).bind _ = _
       rw [r1, Option.bind_some]
       by_cases he : r.2 = 0
       ·obtain ⟨u1, u2, u3, u4⟩ := r3 he
        have hp := Qgp l (a, b, s) r.1 10000 (by omega)
        simp only at hp
        rw [if_pos he, hp, Option.bind_some, gap_eq a b x2 x3 x4 x5 x6 x7 n l L R s _ 10000 (by omega), Option.bind_some]
        by_cases hq : (putS l (a, b, s) r.1).2 = 0
        ·obtain ⟨q1, q2, q3, q4, q5, q6⟩ := Qgr l (a, b, s) r.1 hq
         rw [if_pos hq, q6]
         by_cases hk : moneyN n ∧ (covS (insP (a, b, s) (hadP (a, b, s) l + r.1) l) a b n L R).2 = 0 ∧ (lackS n (covS (insP (a, b, s) (hadP (a, b, s) l + r.1) l) a b n L R).1).2 = 0
         ·rw [if_pos hk, if_pos rfl]
          obtain ⟨k1, k2, k3⟩ := hk
          obtain ⟨m1, m2, m3, m4⟩ := cov_ok (QcD hc)
          have hw := QdU (q := (a, b, s)) m1 m2
          simp only [Int.sub_zero] at hw
          have hwx : wokP L R (plOf (a, b, s) r.1) := by
           unfold wokP worOf
           have e : findA L (plOf (a, b, s) r.1).f1 0 L.length = A := hA
           rw [e, u1]
           exact ⟨h1, u3⟩
          have hwv : wvP L R (plOf (a, b, s) r.1) = (worS 0 A.2.2.1 A.2.2.2.1 A.2.2.2.2.1 r.1 R).1 := by
           unfold wvP worOf
           have e : findA L (plOf (a, b, s) r.1).f1 0 L.length = A := hA
           rw [e, u1]
           rfl
          have hcl := closes (q := (a, b, s)) (n := n) m1 (by show (findA L s 0 L.length).2.2.2.2.2.1 = 1000; rw [hA]; exact h2) r.1 q3.1 hwx (by
           rw [hwv]
           rw [hlack.1, hw] at u4
           exact u4) k2
          simp only at hcl
          obtain ⟨_, _, l3⟩ := Qe8 k3
          have hz2 : (lackS n (covS (insP (a, b, s) (hadP (a, b, s) l + r.1) l) a b n L R).1).1 = 0 := by
           rw [l3]; unfold mx; split <;> omega
          rw [if_pos hz2, if_pos hcl, g _ (by omega)]
         rw [if_neg hk, if_neg (by simp), g _ (by omega)]
        rw [if_neg hq, g _ (by omega)]
       rw [if_neg he, if_pos (r2 he), g _ (by omega)]
     rw [if_neg h2]; exact jt _ _ _ _ _ _ _ _ _ _ _
    rw [if_neg h1]; exact jt _ _ _ _ _ _ _ _ _ _ _
   rw [gap_no a b x2 x3 x4 x5 x6 x7 n l L R s l 10001 (by omega) hc, Option.bind_some, Qcl L s (by omega) 10001 (by omega), Option.bind_some, if_neg (by simp)]
   exact jt _ _ _ _ _ _ _ _ _ _ _
end Go.Proofs.Ytfcaaefdmabkhaa.Pure
