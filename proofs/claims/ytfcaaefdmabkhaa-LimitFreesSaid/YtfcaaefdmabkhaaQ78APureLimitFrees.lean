/- LimitFrees: what is free may be taken back and the rest covers the need; one more may not. -/
import Derived.Test.YtfcaaefdmabkhaaQ78ALmAssetAll
import Derived.Test.YtfcaaefdmabkhaaQ78ALmLimit
import Derived.Test.YtfcaaefdmabkhaaQ78ALmLimitCap
import Derived.Test.YtfcaaefdmabkhaaQ78ALmLimitF
import Derived.Test.YtfcaaefdmabkhaaQ78ALmLimitFr
import Derived.Test.YtfcaaefdmabkhaaQ78ALmPledge
import Derived.Test.YtfcaaefdmabkhaaQ78ALmPledge2
import Derived.Test.YtfcaaefdmabkhaaQ78ALmPledge3
import Derived.Test.YtfcaaefdmabkhaaQ78ALmRate
import Derived.Test.YtfcaaefdmabkhaaQ78ALmRate2
import Derived.Test.YtfcaaefdmabkhaaQ78AP6
import Derived.Test.YtfcaaefdmabkhaaQ78AP8
import Derived.Test.YtfcaaefdmabkhaaQ78AP1
import Derived.Test.YtfcaaefdmabkhaaQ78APrxDLimitFrees
import Derived.Test.YtfcaaefdmabkhaaQ78AP0
namespace Go.Proofs.Ytfcaaefdmabkhaa.Pure
open Go.RowKit Go.Proofs.Ytfcaaefdmabkhaa.Pr Go.Proofs.YtfcaaefdmabkhaaW.PrintWords Go.Proofs.YtfcaaefdmabkhaaW.PrintLast Go.Proofs.YtfcaaefdmabkhaaW.PrintMore
set_option linter.unusedVariables false
set_option linter.unusedSimpArgs false
theorem LimitFrees : contangolaw33_LimitFrees.Pure := by
 intro l a b n L R s _ hok ha hb' _ _ hokL _ hokR hs
 have hb := Qgh hok
 have hbL := as_big hokL
 have hbR := rt_big hokR
 obtain ⟨K, hK⟩ : ∃ K, K = (hadP (a, b, s) l).toNat + 9100 + szsP l + (a.size + b.size + s.size) + szA L + szR R := ⟨_, rfl⟩
 refine ⟨K + 2, ?_⟩
 have g : ∀ k, 7000 ≤ k → ((QaI.f k).bind fun t => some t) = some true := fun k hk => by rw [goes33 k hk]; rfl
 unfold contangolaw33_LimitFrees.f
 cases hf : QbC.f l a b n L R with
 | none =>
  unfold QbC.f at hf
  (repeat' split at hf) <;> cases hf
 | some f =>
  rw [Option.bind_some]
  cases f with
  | false => rw [if_neg (by simp), g _ (by omega)]
  | true =>
   obtain ⟨v, e, v1, v2⟩ := QcT l (a, b, s) n L R (K + 2) (by omega)
   simp only at v1
   rw [if_pos rfl, v1, Option.bind_some, Qcf l a b n L R (K + 2) (by omega), Option.bind_some]
   have jt : v = 0 → contangolaw33_LimitFrees.j0 (K + 2) s v true l a b n L R = some true := fun h0 => by
    rw [contangolaw33_LimitFrees.j0, if_pos rfl, if_pos h0, g _ (by omega)]
   unfold freeIs at v2
   simp only at v2
   rcases v2 with ⟨c1, c2, c3⟩ | ⟨c1, c2, c3, c4⟩ | ⟨c1, c2, c3, c4⟩
   ·rw [if_neg (by rw [c3]; exact c1)]; exact jt c2
   ·rw [if_neg (show ¬ e = 0 by omega)]; exact jt c3
   obtain ⟨h1, h2, h3, h4⟩ := cov_ok (Qem c1)
   obtain ⟨hg, hL⟩ := Qb9 h1
   have hl := hg.1
   have hbd := had_bd (q := (a, b, s)) hg
   have hw := QdK (q := (a, b, s)) h1 h2
   simp only at hw
   rw [if_pos c3]
   show contangolaw33_LimitFrees.j0 (K + 2) s v (decide ((covS l a b n L R).1 < n)) l a b n L R = some true
   rw [hw]
   rcases c4 with ⟨p0, v0⟩ | ⟨p0, q1, q2, q3, q4⟩
   ·rw [decide_eq_true (show baseC L R n (a, b, s) l + leftC L R n (a, b, s) (hadP (a, b, s) l - 0) < n from Int.not_le.1 p0)]
    exact jt v0
   have cv : ∀ m k, 0 ≤ m → m ≤ hadP (a, b, s) l → 7000 + szsP l + 3200 ≤ k + 3000 → 7000 ≤ k → szsP l + 3200 ≤ k → QaQ.f k l a b n L R s m = some (decide (QbE l (a, b, s) n L R m)) := by
    intro m k m0 m1 _ k1 k2
    unfold QaQ.f
    by_cases hm : m > 0
    ·have ht := Qfe l hb (a, b, s) m k k2
     simp only at ht
     rw [if_pos hm, ht, Option.bind_some, Qec l (a, b, s) m hg ⟨by omega, by omega⟩ m1, Qcf _ a b n L R k k1, Option.bind_some]
     have := QcL (q := (a, b, s)) h1 h2 m ⟨m0, m1⟩
     simp only at this ⊢
     rw [this, if_pos rfl]
     rfl
    have e0 : m = 0 := by omega
    rw [if_neg hm, Qcf _ a b n L R k k1, Option.bind_some, hw, if_pos rfl, e0]
    rfl
   rw [decide_eq_false (show ¬ baseC L R n (a, b, s) l + leftC L R n (a, b, s) (hadP (a, b, s) l - 0) < n from Int.not_lt.2 p0), contangolaw33_LimitFrees.j0, if_neg (by simp)]
   have hq := Qd7 (a, b, s) l (by omega) (K + 1) (by omega)
   simp only at hq
   rw [hq, Option.bind_some, if_neg (by omega), decide_eq_false (show ¬ v > hadP (a, b, s) l by omega), contangolaw33_LimitFrees.j1, if_neg (by simp), cv v K q1 q2 (by omega) (by omega) (by omega), Option.bind_some, decide_eq_true (q3 v q1 (Int.le_refl _)), if_pos rfl]
   by_cases hv : v = hadP (a, b, s) l
   ·rw [if_pos hv, g _ (by omega)]
   rw [if_neg hv, IntWalk.wrap64_in (v + 1) (by omega), cv (v + 1) K (by omega) (by omega) (by omega) (by omega) (by omega), Option.bind_some, decide_eq_false (q4 (v + 1) (by omega) (by omega)), if_neg (by simp), g _ (by omega)]
end Go.Proofs.Ytfcaaefdmabkhaa.Pure
