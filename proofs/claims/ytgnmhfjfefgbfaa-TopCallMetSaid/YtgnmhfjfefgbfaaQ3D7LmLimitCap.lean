/- Limits: what counts is no more than what is worth. -/
import Derived.Test.YtgnmhfjfefgbfaaQ3D7LmAsset
import Derived.Test.YtgnmhfjfefgbfaaQ3D7LmAssetAll
import Derived.Test.YtgnmhfjfefgbfaaQ3D7LmLimit
import Derived.Test.YtgnmhfjfefgbfaaQ3D7LmName
import Derived.Test.YtgnmhfjfefgbfaaQ3D7LmPledge
import Derived.Test.YtgnmhfjfefgbfaaQ3D7LmPledgeOf
import Derived.Test.YtgnmhfjfefgbfaaQ3D7LmPledgeTop
import Derived.Test.YtgnmhfjfefgbfaaQ3D7LmPledgeW
import Derived.Test.YtgnmhfjfefgbfaaQ3D7LmRate
import Derived.Test.YtgnmhfjfefgbfaaQ3D7LmSums
import Derived.Test.YtgnmhfjfefgbfaaQ3D7P0
namespace Go.Proofs.Ytgnmhfjfefgbfaa.Pr
open Go.RowKit Go.Proofs.Ytgnmhfjfefgbfaa.Pr Go.Proofs.YtgnmhfjfefgbfaaW.PrintWords Go.Proofs.YtgnmhfjfefgbfaaW.PrintLast Go.Proofs.YtgnmhfjfefgbfaaW.PrintMore
set_option linter.unusedVariables false
set_option linter.unusedSimpArgs false
theorem wL_bd (L : List As) (R : List Rt) : ∀ (l : List Pled) (acc : List Int), (wL L R acc l).2 = 0 → (wL L R acc l).1 ≤ 1152921504606846976
 | [], acc, h => by
  have : wL L R acc [] = sumS acc := rfl
  rw [this] at h ⊢
  unfold sumS at *
  by_cases h1 : ∀ x ∈ acc, mdFits x
  ·rw [if_pos h1] at h ⊢
   by_cases h2 : mdFits acc.sum
   ·rw [if_pos h2]; exact h2.2
   rw [if_neg h2] at h; cases h
  rw [if_neg h1] at h; cases h
 | p :: t, acc, h => by
  rw [QdP] at h ⊢
  by_cases h1 : (findA L p.f1 0 L.length).2.2.2.2.2.2 = true
  ·rw [if_pos h1] at h ⊢
   by_cases h2 : (worOf R (findA L p.f1 0 L.length) p.f2).2 = 0
   ·rw [if_pos h2] at h ⊢
    exact wL_bd L R t _ h
   rw [if_neg h2] at h; exact absurd h h2
  rw [if_neg h1] at h; cases h
theorem pw_bd {l : List Pled} {a b : ByteArray} {L : List As} {R : List Rt} (h : (pwS l a b L R).2 = 0) : sumW L R (ofP a b l) ≤ 1152921504606846976 := by
 have h0 := (QcU h).2
 rw [← h0]
 unfold pwS at *
 by_cases h1 : chkP l = 0
 ·rw [if_pos h1] at h ⊢
  by_cases h2 : chkAll L = 0
  ·rw [if_pos h2] at h ⊢
   exact wL_bd L R _ _ h
  rw [if_neg h2] at h; exact absurd h h2
 rw [if_neg h1] at h; exact absurd h h1
theorem cut_bd {L : List As} {R : List Rt} {n : Int} {p : Pled} (hn : moneyN n) (h : wokP L R p) : 0 ≤ cutP L R n p ∧ cutP L R n p ≤ wvP L R p ∧ cutP L R n p ≤ n * capP L p / 1000 ∧ (cutP L R n p = wvP L R p ∨ cutP L R n p = n * capP L p / 1000) := by
 obtain ⟨_, h2, h3⟩ := Qd2 h
 have := (cap_md n (capP L p) hn h2).2
 unfold cutP mn
 split <;> omega
theorem QdO (L : List As) (R : List Rt) (n : Int) (hn : moneyN n) : ∀ l : List Pled, (∀ p ∈ l, wokP L R p) → 0 ≤ (l.map (cutP L R n)).sum ∧ (l.map (cutP L R n)).sum ≤ sumW L R l
 | [], _ => ⟨Int.le_refl _, Int.le_refl _⟩
 | p :: t, h => by
  obtain ⟨i1, i2⟩ := QdO L R n hn t (fun q hq => h q (List.mem_cons_of_mem _ hq))
  obtain ⟨c1, c2, _⟩ := cut_bd hn (h p List.mem_cons_self)
  rw [List.map_cons, List.sum_cons, sumW]
  omega
theorem QdE : ∀ (l : List Int), (∀ x ∈ l, 0 ≤ x) → 0 ≤ l.sum ∧ ∀ x ∈ l, x ≤ l.sum
 | [], _ => ⟨Int.le_refl _, fun x hx => by cases hx⟩
 | a :: t, h => by
  obtain ⟨i1, i2⟩ := QdE t (fun x hx => h x (List.mem_cons_of_mem _ hx))
  have ha := h a List.mem_cons_self
  rw [List.sum_cons]
  refine ⟨by omega, fun x hx => ?_⟩
  rcases List.mem_cons.1 hx with rfl | hx
  ·omega
  have := i2 x hx; omega
theorem Qgw {l : List Int} (h : ∀ x ∈ l, 0 ≤ x) (hb : l.sum ≤ 1152921504606846976) : sumS l = (l.sum, 0) := by
 obtain ⟨i1, i2⟩ := QdE l h
 unfold sumS
 rw [if_pos (fun x hx => ⟨by have := h x hx; omega, by have := i2 x hx; omega⟩), if_pos ⟨by omega, hb⟩]
theorem cov_ok {l : List Pled} {a b : ByteArray} {n : Int} {L : List As} {R : List Rt} (h : (cntS l a b n L R).2 = 0) : (pwS l a b L R).2 = 0 ∧ moneyN n ∧ (cntS l a b n L R).1 = (ofP a b l).map (cutP L R n) ∧ covS l a b n L R = (((ofP a b l).map (cutP L R n)).sum, 0) := by
 unfold covS
 rw [if_pos h]
 unfold cntS at *
 by_cases h1 : (pwS l a b L R).2 = 0
 ·rw [if_pos h1] at h ⊢
  by_cases h2 : moneyN n
  ·rw [if_pos h2]
   have hw := (QcU h1).1
   have := (QdO L R n h2 _ hw).2
   have := pw_bd h1
   refine ⟨h1, h2, rfl, Qgw (l := (ofP a b l).map (cutP L R n)) ?_ (by omega)⟩
   intro x hx
   obtain ⟨p, hp, rfl⟩ := List.mem_map.1 hx
   exact (cut_bd h2 (hw p hp)).1
  rw [if_neg h2] at h; cases h
 rw [if_neg h1] at h; exact absurd h h1
end Go.Proofs.Ytgnmhfjfefgbfaa.Pr
