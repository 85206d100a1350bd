/- AddonOvers: Over agrees with the reference and charges nothing within the limit. -/
import Derived.Test.YtaiekjimdjlgbaaQ8F2LmAddon2
import Derived.Test.YtaiekjimdjlgbaaQ8F2LmCentsMd
import Derived.Test.YtaiekjimdjlgbaaQ8F2LmRate2
import Derived.Test.YtaiekjimdjlgbaaQ8F2P0
import Derived.Test.YtaiekjimdjlgbaaQ8F2P1
import Derived.Test.YtaiekjimdjlgbaaQ8F2P2
import Derived.Test.YtaiekjimdjlgbaaQ8F2P3
import Derived.Test.YtaiekjimdjlgbaaQ8F2PrxDAddonOvers
namespace Go.Proofs.Ytaiekjimdjlgbaa.Pure
open Go.RowKit Go.Proofs.Ytaiekjimdjlgbaa.Pr Go.Proofs.YtaiekjimdjlgbaaW.PrintWords Go.Proofs.YtaiekjimdjlgbaaW.PrintLast Go.Proofs.YtaiekjimdjlgbaaW.PrintMore
set_option linter.unusedVariables false
set_option linter.unusedSimpArgs false
theorem up_res (a b : Int) (ha : 0 ≤ a ∧ a ≤ 1152921504606846976) (hb : 0 ≤ b ∧ b ≤ 1000) : mdS a b 1000 2 = (if a * b % 1000 = 0 then a * b / 1000 else a * b / 1000 + 1, 0) ∧ 0 ≤ (if a * b % 1000 = 0 then a * b / 1000 else a * b / 1000 + 1) ∧ (if a * b % 1000 = 0 then a * b / 1000 else a * b / 1000 + 1) ≤ a ∧ (b = 1000 → (if a * b % 1000 = 0 then a * b / 1000 else a * b / 1000 + 1) = a) := by
  have h0 := Int.mul_nonneg ha.1 hb.1
  have h1 : a * b ≤ a * 1000 := Int.mul_le_mul_of_nonneg_left hb.2 ha.1
  have hle : (if a * b % 1000 = 0 then a * b / 1000 else a * b / 1000 + 1) ≤ a := by split <;> omega
  have h1000 : b = 1000 → (if a * b % 1000 = 0 then a * b / 1000 else a * b / 1000 + 1) = a := fun e => by subst e; split <;> omega
  refine ⟨?_, by split <;> omega, hle, h1000⟩
  generalize hR : (if a * b % 1000 = 0 then a * b / 1000 else a * b / 1000 + 1) = R at *
  unfold mdS
  rw [if_pos ⟨by unfold mdFits; omega, by unfold mdFits; omega, by unfold mdFits; omega, by omega, by omega⟩, if_neg (by omega)]
  have hB : mdBelow a b 1000 = false := by
    unfold mdBelow
    rw [decide_eq_false (show ¬ a < 0 by omega), decide_eq_false (show ¬ b < 0 by omega), decide_eq_false (show ¬ (1000 : Int) < 0 by omega)]
    rfl
  have hQ : mdQ a b 1000 2 = R := by
    unfold mdQ
    rw [hB, show ((a.natAbs : Nat) : Int) = a by omega, show ((b.natAbs : Nat) : Int) = b by omega, show (((1000 : Int).natAbs : Nat) : Int) = 1000 by decide]
    unfold mdAway
    rw [← hR]
    by_cases c : a * b % 1000 = 0
    · simp [c]
    · simp [c]
      have := Int.emod_nonneg (a * b) (show (1000 : Int) ≠ 0 by decide)
      omega
  unfold mdRes
  rw [hQ, hB]
  by_cases c : 1152921504606846976 < R
  · omega
  · simp [c]
theorem AddonOvers : contangolaw28_AddonOvers.Pure := by
  intro p w q r
  intros
  refine ⟨3001, ?_⟩
  have g : ((contangolaw28_goes.f 3001).bind fun t => some t) = some true := by rw [addgoes 3001 (by omega)]; rfl
  have m1 : ∀ n : Int, addon_money.f n = some (decide (0 ≤ n ∧ n ≤ 1152921504606846976)) := by
    intro n; unfold addon_money.f
    split
    · congr 1; rw [decide_eq_decide]; omega
    · congr 1; exact (decide_eq_false (by omega)).symm
  have m2 : ∀ n : Int, addon_part.f n = some (decide (0 ≤ n ∧ n ≤ 1000)) := by
    intro n; unfold addon_part.f
    split
    · congr 1; rw [decide_eq_decide]; omega
    · congr 1; exact (decide_eq_false (by omega)).symm
  have hr : ∀ b : Bool, contangoref28_Over.j0 3001 p w q r b = if b = true then some (0, 2) else (contangoref01_MulDiv.f w q 1000 2).bind fun t => (contangoref01_MulDiv.f (mx (wrap64 (p - t.1)) 0) r 1000 2).bind fun u => some (u.1, 0) := by
    intro b; rw [contangoref28_Over.j0]
  have hc : ∀ b : Bool, addon_Over.j0 3001 p w q r b = if b = true then some (0, 2) else (cents_MulDiv.f w q 1000 2).bind fun t => (if p ≤ t.1 then some (0, 0) else (cents_MulDiv.f (wrap64 (p - t.1)) r 1000 2).bind fun u => some (u.1, u.2)) := by
    intro b; rw [addon_Over.j0]
  by_cases hall : (0 ≤ p ∧ p ≤ 1152921504606846976) ∧ (0 ≤ w ∧ w ≤ 1152921504606846976) ∧ (0 ≤ q ∧ q ≤ 1000) ∧ (0 ≤ r ∧ r ≤ 1000)
  · obtain ⟨hp, hw, hq, hrr⟩ := hall
    obtain ⟨v1, v2, v3, v4⟩ := up_res w q hw hq
    generalize hF : (if w * q % 1000 = 0 then w * q / 1000 else w * q / 1000 + 1) = F at *
    have eP : addon_Over.f 3001 p w q r = if p ≤ F then some (0, 0) else some ((mdS (p - F) r 1000 2).1, (mdS (p - F) r 1000 2).2) := by
      unfold addon_Over.f
      rw [m1, m1, m2, m2]
      simp only [Option.bind_some]
      rw [if_pos (decide_eq_true hp), if_pos (decide_eq_true hw), if_pos (decide_eq_true hq), hc, decide_eq_true hrr, if_neg (by simp), md_eq w q 1000 2, Option.bind_some]
      have : (if mdFits w ∧ mdFits q ∧ mdFits 1000 ∧ 1 ≤ (2 : Int) ∧ (2 : Int) ≤ 5 then (if (1000 : Int) = 0 then (0, 4) else mdRes w q 1000 2) else (0, 2)) = (F, 0) := v1
      rw [this]
      simp only
      split
      · rfl
      · rw [IntWalk.wrap64_in (p - F) (by omega), md_eq]; rfl
    have eR : contangoref28_Over.f 3001 p w q r = some ((mdS (mx (p - F) 0) r 1000 2).1, 0) := by
      unfold contangoref28_Over.f
      rw [if_neg (by omega), if_neg (by omega), if_neg (by omega), if_neg (by omega), if_neg (by omega), if_neg (by omega), if_neg (by omega), hr, decide_eq_false (by omega), if_neg (by simp), rmd_eq, md_eq w q 1000 2, Option.bind_some]
      have : (if mdFits w ∧ mdFits q ∧ mdFits 1000 ∧ 1 ≤ (2 : Int) ∧ (2 : Int) ≤ 5 then (if (1000 : Int) = 0 then (0, 4) else mdRes w q 1000 2) else (0, 2)) = (F, 0) := v1
      rw [this]
      simp only
      rw [IntWalk.wrap64_in (p - F) (by omega), rmd_eq, md_eq]; rfl
    unfold contangolaw28_AddonOvers.f
    rw [eP, eR]
    by_cases hle : p ≤ F
    · have e0 : mx (p - F) 0 = 0 := by unfold mx; split <;> omega
      obtain ⟨z1, _⟩ := up_res 0 r (by omega) hrr
      rw [if_pos hle, Option.bind_some, Option.bind_some, e0, z1]
      simp only [Int.zero_mul, Int.zero_emod, if_true, Int.zero_ediv]
      rw [if_pos (by omega), if_pos (by omega), g]
      (repeat' split) <;> rfl
    · have e0 : mx (p - F) 0 = p - F := by unfold mx; split <;> omega
      obtain ⟨z1, z2, z3, z4⟩ := up_res (p - F) r (by omega) hrr
      rw [if_neg hle, Option.bind_some, Option.bind_some, e0, z1]
      generalize (if (p - F) * r % 1000 = 0 then (p - F) * r / 1000 else (p - F) * r / 1000 + 1) = R at *
      simp only [if_true]
      rw [if_pos (by omega), if_pos (by omega), g]
      by_cases h1 : p > w
      · rw [if_pos h1]
      · rw [if_neg h1]
        have : q < 1000 := by
          by_cases h : q < 1000
          · exact h
          · have := v4 (by omega); omega
        rw [if_pos this]
  · have eP : addon_Over.f 3001 p w q r = some (0, 2) := by
      unfold addon_Over.f
      rw [m1, m1, m2, m2]
      simp only [Option.bind_some, hc, decide_eq_true_eq, if_true]
      by_cases a1 : 0 ≤ p ∧ p ≤ 1152921504606846976
      · rw [if_pos a1]
        by_cases a2 : 0 ≤ w ∧ w ≤ 1152921504606846976
        · rw [if_pos a2]
          by_cases a3 : 0 ≤ q ∧ q ≤ 1000
          · rw [if_pos a3]
            have a4 : ¬ (0 ≤ r ∧ r ≤ 1000) := fun z => hall ⟨a1, a2, a3, z⟩
            rw [decide_eq_false a4]; rfl
          · rw [if_neg a3]
        · rw [if_neg a2]
      · rw [if_neg a1]
    have eR : contangoref28_Over.f 3001 p w q r = some (0, 2) := by
      unfold contangoref28_Over.f
      simp only [hr, if_true]
      by_cases b1 : p < 0
      · rw [if_pos b1]
      · rw [if_neg b1]
        by_cases b2 : p > 1152921504606846976
        · rw [if_pos b2]
        · rw [if_neg b2]
          by_cases b3 : w < 0
          · rw [if_pos b3]
          · rw [if_neg b3]
            by_cases b4 : w > 1152921504606846976
            · rw [if_pos b4]
            · rw [if_neg b4]
              by_cases b5 : q < 0
              · rw [if_pos b5]
              · rw [if_neg b5]
                by_cases b6 : q > 1000
                · rw [if_pos b6]
                · rw [if_neg b6]
                  by_cases b7 : r < 0
                  · rw [if_pos b7]
                  · rw [if_neg b7, decide_eq_true (show r > 1000 by omega), if_pos rfl]
    unfold contangolaw28_AddonOvers.f
    rw [eP, eR, Option.bind_some, Option.bind_some]
    simp only [if_true]
    exact g
end Go.Proofs.Ytaiekjimdjlgbaa.Pure
