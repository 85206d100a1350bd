/- TopCoverFree: what is free may be taken back, and the rest still covers the need; one more may not. -/
import Derived.Test.YtfcaaefdmabkhaaQ629LmLimit
import Derived.Test.YtfcaaefdmabkhaaQ629LmLimitCap
import Derived.Test.YtfcaaefdmabkhaaQ629LmLimitFr
import Derived.Test.YtfcaaefdmabkhaaQ629LmPledge
import Derived.Test.YtfcaaefdmabkhaaQ629LmPledge3
import Derived.Test.YtfcaaefdmabkhaaQ629LmTopCov
import Derived.Test.YtfcaaefdmabkhaaQ629LmTopCovF
import Derived.Test.YtfcaaefdmabkhaaQ629P3
import Derived.Test.YtfcaaefdmabkhaaQ629P8
import Derived.Test.YtfcaaefdmabkhaaQ629P9
import Derived.Test.YtfcaaefdmabkhaaQ629PrxDTopCoverFree
import Derived.Test.YtfcaaefdmabkhaaQ629P0
namespace Go.Proofs.Ytfcaaefdmabkhaa.Pure
open Go.RowKit Go.Proofs.Ytfcaaefdmabkhaa.Pr Go.Proofs.YtfcaaefdmabkhaaW.PrintWords Go.Proofs.YtfcaaefdmabkhaaW.PrintLast Go.Proofs.YtfcaaefdmabkhaaW.PrintMore
set_option linter.unusedVariables false
set_option linter.unusedSimpArgs false
theorem TopCoverFree : contangotop_TopCoverFree.Pure := by
 intro a b x2 x3 x4 x5 x6 x7 n l L R s
 intros
 obtain ⟨K, hK⟩ : ∃ K, K = (hadP (a, b, s) l).toNat + 9100 := ⟨_, rfl⟩
 refine ⟨K + 6, ?_⟩
 have g : ∀ k, 9000 ≤ k → ((QaM.f k).bind fun t => some t) = some true := fun k hk => by rw [goes17 k hk]; rfl
 unfold contangotop_TopCoverFree.f
 cases hf : Qbl.f a b x2 x3 x4 x5 x6 x7 n l L R s with
 | none =>
  unfold Qbl.f at hf
  (repeat' split at hf) <;> cases hf
 | some f =>
  rw [Option.bind_some]
  cases f with
  | false => rw [if_neg (by simp), g _ (by omega)]
  | true =>
   obtain ⟨v, e, v1, v2⟩ := QcM l (a, b, s) n L R (K + 6) (by omega)
   simp only at v1
   have jt : v = 0 → contangotop_TopCoverFree.j0 (K + 6) v true a b x2 x3 x4 x5 x6 x7 n l L R s = some true := fun h0 => by
    rw [contangotop_TopCoverFree.j0, if_pos rfl, if_pos h0, g _ (by omega)]
   unfold freeIs at v2
   simp only at v2
   rw [if_pos rfl]
   rcases v2 with ⟨c1, c2, c3⟩ | ⟨c1, c2, c3, c4⟩ | ⟨c1, c2, c3, c4⟩
   ·rw [gap_no a b x2 x3 x4 x5 x6 x7 n l L R s l (K + 6) (by omega) c1, Option.bind_some, v1, Option.bind_some, if_neg (by simp)]
    exact jt c2
   ·rw [gap_ok a b x2 x3 x4 x5 x6 x7 n l L R s l (K + 6) (by omega) c1, Option.bind_some, v1, Option.bind_some, if_pos rfl, if_neg (show ¬ e = 0 by omega)]
    exact jt c3
   ·obtain ⟨h1, h2, h3, h4⟩ := cov_ok (QcK c1)
    obtain ⟨hg, hL⟩ := QbR h1
    have hl := hg.1
    have hbd := had_bd (q := (a, b, s)) hg
    have hw := QdG (q := (a, b, s)) h1 h2
    simp only at hw
    rw [gap_ok a b x2 x3 x4 x5 x6 x7 n l L R s l (K + 6) (by omega) c1, Option.bind_some, v1, Option.bind_some, if_pos rfl, if_pos c3, hw]
    have hmx : ∀ z : Int, mx z 0 > 0 ↔ z > 0 := fun z => by unfold mx; split <;> omega
    rcases c4 with ⟨p0, v0⟩ | ⟨p0, q1, q2, q3, q4⟩
    ·unfold Qbo at p0
     rw [decide_eq_true ((hmx _).2 (by simp only; omega))]
     exact jt v0
    ·have p1 := p0
     unfold Qbo at p1
     have hq := Qek (a, b, s) l (by omega) (K + 5) (by omega)
     simp only at hq
     rw [decide_eq_false (fun e => by have := (hmx _).1 e; simp only at this; omega), contangotop_TopCoverFree.j0, if_neg (by simp), hq, Option.bind_some, Option.bind_some, IntWalk.wrap64_in (v + 1) (by omega)]
     have s1 := Qd7 a b x2 x3 x4 x5 x6 x7 n l L R s h1 h2 v v [v, v + 1] 0 (by simp) (by simp) rfl (K + 3) (by omega) (fun m1 m2 => ⟨fun _ => Int.le_refl _, fun _ => q3 v q1 (Int.le_refl _)⟩)
     have s2 := Qd7 a b x2 x3 x4 x5 x6 x7 n l L R s h1 h2 v (v + 1) [v, v + 1] 1 (by simp) (by simp) rfl (K + 1) (by omega) (fun m1 m2 => ⟨fun hp => absurd hp (q4 (v + 1) (by omega) m2), fun hh => by omega⟩)
     rw [show (0 : Int) = ((0 : Nat) : Int) from rfl]
     refine s1.trans (s2.trans ?_)
     rw [contangotop_TopCoverFree.l0, if_neg (by simp), if_pos q2, if_pos (by omega), g _ (by omega)]
end Go.Proofs.Ytfcaaefdmabkhaa.Pure
