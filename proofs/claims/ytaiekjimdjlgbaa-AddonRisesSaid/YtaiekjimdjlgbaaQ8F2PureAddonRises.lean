/- AddonRises: more lots cost no less, and dividing lots does not increase the cost. -/
import Derived.Test.YtaiekjimdjlgbaaQ8F2LmAddon
import Derived.Test.YtaiekjimdjlgbaaQ8F2LmAddon2
import Derived.Test.YtaiekjimdjlgbaaQ8F2P2
import Derived.Test.YtaiekjimdjlgbaaQ8F2PrxDAddonRises
import Derived.Test.YtaiekjimdjlgbaaQ8F2P0
namespace Go.Proofs.Ytaiekjimdjlgbaa.Pure
open Go.RowKit Go.Proofs.Ytaiekjimdjlgbaa.Pr Go.Proofs.YtaiekjimdjlgbaaW.PrintWords Go.Proofs.YtaiekjimdjlgbaaW.PrintLast Go.Proofs.YtaiekjimdjlgbaaW.PrintMore
set_option linter.unusedVariables false
set_option linter.unusedSimpArgs false
theorem chg_ok {lots : Int} {l : List PSt} (h : (chgS lots l).2 = 0) : chkSs l = 0 ∧ (0 ≤ lots ∧ lots ≤ 1152921504606846976) ∧ (chgS lots l).1 = cst lots 0 l ∧ cst lots 0 l ≤ 1152921504606846976 := by
  unfold chgS at *
  by_cases h1 : chkSs l = 0
  · rw [if_pos h1] at h ⊢
    by_cases h2 : lots < 0 ∨ lots > 1152921504606846976
    · rw [if_pos h2] at h; cases h
    · rw [if_neg h2] at h ⊢
      unfold fitS at *
      by_cases h3 : cst lots 0 l ≤ 1152921504606846976
      · rw [if_pos h3]; exact ⟨h1, by omega, rfl, h3⟩
      · rw [if_neg h3] at h; cases h
  · rw [if_neg h1] at h; exact absurd h h1
theorem chg_is {lots : Int} {l : List PSt} (h1 : chkSs l = 0) (h2 : 0 ≤ lots ∧ lots ≤ 1152921504606846976) (h3 : cst lots 0 l ≤ 1152921504606846976) : chgS lots l = (cst lots 0 l, 0) := by
  unfold chgS fitS
  rw [if_pos h1, if_neg (by omega), if_pos h3]
theorem AddonRises : contangolaw28_AddonRises.Pure := by
  intro a b l
  intros
  refine ⟨l.length + 3002, ?_⟩
  obtain ⟨K, hK⟩ : ∃ K, K = l.length + 3000 := ⟨_, rfl⟩
  rw [show l.length + 3002 = K + 2 by omega]
  have g : ∀ k, 2000 ≤ k → ((contangolaw28_goes.f k).bind fun t => some t) = some true := fun k hk => by rw [addgoes k hk]; rfl
  have hT : contangolaw28_AddonRises.j0 (K + 2) a b l true = some true := by rw [contangolaw28_AddonRises.j0, if_pos rfl, g _ (by omega)]
  unfold contangolaw28_AddonRises.f
  by_cases h1 : a < 1
  · rw [if_pos h1]; exact hT
  rw [if_neg h1]
  by_cases h2 : b < 0
  · rw [if_pos h2]; exact hT
  rw [if_neg h2]
  by_cases h3 : a > 1099511627776
  · rw [if_pos h3]; exact hT
  rw [if_neg h3]
  by_cases h4 : b > 1099511627776
  · rw [decide_eq_true h4]; exact hT
  rw [decide_eq_false h4, contangolaw28_AddonRises.j0, if_neg (by simp), steps_eq l (by omega) _ (by omega), Option.bind_some]
  obtain ⟨L, hL⟩ : ∃ L, l.map stA = L := ⟨_, rfl⟩
  rw [hL, IntWalk.wrap64_in (a - 1) (by omega), IntWalk.wrap64_in (a + 1) (by omega), IntWalk.wrap64_in (a + b) (by omega), charge_eq _ L _ (by omega), Option.bind_some, charge_eq _ L _ (by omega), Option.bind_some, charge_eq _ L _ (by omega), Option.bind_some, charge_eq _ L _ (by omega), Option.bind_some, charge_eq _ L _ (by omega), Option.bind_some]
  have hT1 : ∀ x1 x2 x3 x4 x5 x6 x7 x8 : Int, contangolaw28_AddonRises.j1 (K + 1) x1 x2 x3 x4 x5 x6 x7 x8 true = some true := by
    intro x1 x2 x3 x4 x5 x6 x7 x8
    rw [contangolaw28_AddonRises.j1, if_pos rfl, g _ (by omega)]
  by_cases e1 : (chgS (a + 1) L).2 = 0
  · rw [if_pos e1]
    by_cases e2 : (chgS (a + b) L).2 = 0
    · obtain ⟨hc, _, v1, b1⟩ := chg_ok e1
      obtain ⟨_, _, v2, b2⟩ := chg_ok e2
      have hc0 : chkSt 0 0 L = 0 := by
        unfold chkSs at hc
        by_cases z : (L.length : Int) > 1024
        · rw [if_pos z] at hc; cases hc
        · rw [if_neg z] at hc; exact hc
      obtain ⟨p1, p2, p3, p4⟩ := cst_rises L hc0 (a - 1) b (by omega) (by omega)
      obtain ⟨q1, q2, q3, q4⟩ := cst_rises L hc0 a b (by omega) (by omega)
      obtain ⟨r1, r2, r3, r4⟩ := cst_rises L hc0 b a (by omega) (by omega)
      rw [show a - 1 + 1 = a by omega, show a - 1 + 2 = a + 1 by omega] at p3
      rw [show a - 1 + 1 = a by omega] at p2
      have w1 := chg_is hc (lots := a - 1) (by omega) (by omega)
      have w2 := chg_is hc (lots := a) (by omega) (by omega)
      have w3 := chg_is hc (lots := b) (by omega) (by omega)
      rw [v1, v2, w1, w2, w3, e2]
      simp only [bne_self_eq_false]
      rw [contangolaw28_AddonRises.j1, if_neg (by simp), if_pos rfl, if_pos rfl, if_pos rfl, if_pos p2, if_pos q2, IntWalk.wrap64_in (cst a 0 L - cst (a - 1) 0 L) (by omega), IntWalk.wrap64_in (cst (a + 1) 0 L - cst a 0 L) (by omega), IntWalk.wrap64_in (cst a 0 L + cst b 0 L) (by omega), if_pos (by omega), if_pos (by omega), g _ (by omega)]
    · rw [bne_iff_ne.2 e2]
      exact hT1 _ _ _ _ _ _ _ _
  · rw [if_neg e1]
    exact hT1 _ _ _ _ _ _ _ _
end Go.Proofs.Ytaiekjimdjlgbaa.Pure
