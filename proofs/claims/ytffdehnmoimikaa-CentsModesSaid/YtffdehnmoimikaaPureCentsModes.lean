/- CentsModes: the results of the five rounding modes are related as promised. For all three numbers. -/
import Derived.Test.YtffdehnmoimikaaLmCents
import Derived.Test.YtffdehnmoimikaaLmGoesCents
import Derived.Test.YtffdehnmoimikaaPrx45
import Derived.Test.YtffdehnmoimikaaPrx55
import Derived.Test.YtffdehnmoimikaaPrx0
namespace Go.Proofs.Ytffdehnmoimikaa.Pure
open Go.RowKit Go.Proofs.Ytffdehnmoimikaa.Pr Go.Proofs.YtffdehnmoimikaaW.PrintWords Go.Proofs.YtffdehnmoimikaaW.PrintLast Go.Proofs.YtffdehnmoimikaaW.PrintMore
set_option linter.unusedVariables false
set_option linter.unusedSimpArgs false
theorem CentsModes : contangolaw01_CentsModes.Pure := by
  intro a b c _ _ _
  refine ⟨20, ?_⟩
  have g19 := cgoes 19 (by omega)
  have g18 := cgoes 18 (by omega)
  unfold contangolaw01_CentsModes.f
  simp only [md_eq, Option.bind_some]
  by_cases hf : mdFits a ∧ mdFits b ∧ mdFits c
  · have hm : ∀ m : Int, 1 ≤ m → m ≤ 5 → (mdFits a ∧ mdFits b ∧ mdFits c ∧ 1 ≤ m ∧ m ≤ 5) := fun m h1 h2 => ⟨hf.1, hf.2.1, hf.2.2, h1, h2⟩
    rw [if_pos (hm 3 (by omega) (by omega)), if_pos (hm 4 (by omega) (by omega)), if_pos (hm 1 (by omega) (by omega)), if_pos (hm 2 (by omega) (by omega)), if_pos (hm 5 (by omega) (by omega))]
    by_cases hc : c = 0
    · simp only [if_pos hc, contangolaw01_CentsModes.j0]
      simp [g19]
    · simp only [if_neg hc]
      have hq0 : 0 ≤ (a.natAbs : Int) * b.natAbs / c.natAbs := Int.ediv_nonneg (Int.mul_nonneg (by omega) (by omega)) (by omega)
      obtain ⟨q, hq⟩ : ∃ q, q = (a.natAbs : Int) * b.natAbs / c.natAbs := ⟨_, rfl⟩
      obtain ⟨bl, hbl⟩ : ∃ bl, mdBelow a b c = bl := ⟨_, rfl⟩
      have up : ∀ m, mdQ a b c m = q ∨ mdQ a b c m = q + 1 := fun m => by
        unfold mdQ; rw [← hq]; split
        · exact .inr rfl
        · exact .inl rfl
      rw [← hq] at hq0
      by_cases hr : 0 < (a.natAbs : Int) * b.natAbs % c.natAbs
      · have q1 : mdQ a b c 1 = q := by unfold mdQ mdAway; rw [if_neg (fun h => by simp at h), hq]
        have q2 : mdQ a b c 2 = q + 1 := by unfold mdQ mdAway; rw [if_pos ⟨hr, by simp⟩, hq]
        have q3 : mdQ a b c 3 = if bl = true then q + 1 else q := by
          unfold mdQ mdAway; rw [hbl, ← hq]
          cases bl
          · rw [if_neg (fun h => by simp at h)]; rfl
          · rw [if_pos ⟨hr, by simp⟩]; rfl
        have q4 : mdQ a b c 4 = if bl = true then q else q + 1 := by
          unfold mdQ mdAway; rw [hbl, ← hq]
          cases bl
          · rw [if_pos ⟨hr, by simp⟩]; rfl
          · rw [if_neg (fun h => by simp at h)]; rfl
        have q5 := up 5
        unfold mdRes
        rw [q1, q2, q3, q4, hbl]
        generalize mdQ a b c 5 = q5' at *
        clear hm hf hbl hr hc up q1 q2 q3 q4 hq
        have w1 : wrap64 (q + 1 - q) = 1 := by unfold wrap64; omega
        have w2 : wrap64 (-q - -(q + 1)) = 1 := by unfold wrap64; omega
        by_cases s1 : 1152921504606846976 < q
        · have s2 : 1152921504606846976 < q + 1 := by omega
          have s5 : 1152921504606846976 < q5' := by omega
          cases bl <;> simp [s1, s2, s5, contangolaw01_CentsModes.j0, g19]
        · by_cases s2 : 1152921504606846976 < q + 1
          · cases bl <;> by_cases s5 : 1152921504606846976 < q5' <;> simp [s1, s2, s5, contangolaw01_CentsModes.j0, g19]
          · have s5 : ¬ 1152921504606846976 < q5' := by omega
            cases bl
            · simp only [s1, s2, s5, if_false, Bool.false_eq_true, if_true, bne_self_eq_false, contangolaw01_CentsModes.j0, contangolaw01_CentsModes.j1]
              rw [if_neg (by omega), w1, if_neg (by decide)]
              rcases q5 with rfl | rfl
              · rw [if_pos rfl, if_pos (by omega), if_neg (by omega), g18]; rfl
              · rw [if_neg (by omega), if_neg (by simp), if_pos (by omega), if_neg (by omega), g18]; rfl
            · simp only [s1, s2, s5, if_false, Bool.false_eq_true, if_true, bne_self_eq_false, contangolaw01_CentsModes.j0, contangolaw01_CentsModes.j1]
              rw [if_neg (by omega), w2, if_neg (by decide)]
              rcases q5 with rfl | rfl
              · rw [if_neg (by omega), if_neg (by simp), if_neg (by omega), if_pos (by omega), g18]; rfl
              · rw [if_pos rfl, if_neg (by omega), if_pos (by omega), g18]; rfl
      · have qm : ∀ m, mdQ a b c m = q := fun m => by unfold mdQ; rw [if_neg (fun h => hr h.1), hq]
        unfold mdRes
        simp only [qm, hbl]
        clear hm hf hbl hr hc up hq qm
        by_cases s1 : 1152921504606846976 < q
        · simp [s1, contangolaw01_CentsModes.j0, g19]
        · cases bl
          · simp only [s1, if_false, Bool.false_eq_true, if_true, bne_self_eq_false, contangolaw01_CentsModes.j0, contangolaw01_CentsModes.j1]
            rw [if_neg (by omega), show wrap64 (q - q) = 0 by rw [Int.sub_self]; unfold wrap64; omega, if_neg (by decide), if_pos (by omega)]
            by_cases z : q ≤ 0
            · rw [if_pos z, g18]; rfl
            · rw [if_neg z, g18]; rfl
          · simp only [s1, if_false, Bool.false_eq_true, if_true, bne_self_eq_false, contangolaw01_CentsModes.j0, contangolaw01_CentsModes.j1]
            rw [if_neg (by omega), show wrap64 (-q - -q) = 0 by rw [Int.sub_self]; unfold wrap64; omega, if_neg (by decide), if_pos (show -q ≤ 0 by omega), g18]
            by_cases z : -q ≥ 0
            · rw [if_pos z]; rfl
            · rw [if_neg z]; rfl
  · have hm : ∀ m : Int, ¬ (mdFits a ∧ mdFits b ∧ mdFits c ∧ 1 ≤ m ∧ m ≤ 5) := fun m h => hf ⟨h.1, h.2.1, h.2.2.1⟩
    simp only [if_neg (hm _)]
    simp [contangolaw01_CentsModes.j0, g19]
end Go.Proofs.Ytffdehnmoimikaa.Pure
