/- Floor: in more days as much is near at least; small products. -/
import Derived.Test.YtffdehnmoimikaaQC29LmCents
import Derived.Test.YtffdehnmoimikaaQC29LmFloor
import Derived.Test.YtffdehnmoimikaaQC29LmPos
import Derived.Test.YtffdehnmoimikaaQC29P0
namespace Go.Proofs.Ytffdehnmoimikaa.Pr
open Go.RowKit Go.Proofs.Ytffdehnmoimikaa.Pr Go.Proofs.YtffdehnmoimikaaW.PrintWords Go.Proofs.YtffdehnmoimikaaW.PrintLast Go.Proofs.YtffdehnmoimikaaW.PrintMore
set_option linter.unusedVariables false
set_option linter.unusedSimpArgs false
theorem near_mono1 (day days days' b d e : Int) (h : days ≤ days') (hd : 0 ≤ d ∧ d ≤ 1048576) (he : 0 ≤ e ∧ e ≤ 1048576) : nearOf day days b d e ≤ nearOf day days' b d e := by
  have h1 := near_bd day days' b d e hd he
  unfold nearOf at *
  by_cases c1 : b < day
  · rw [if_pos c1, if_pos c1]; exact Int.le_refl _
  · rw [if_neg c1, if_neg c1]
    rw [if_neg c1] at h1
    by_cases c2 : wrap64 (b - day) > days
    · rw [if_pos c2]; exact h1.1
    · rw [if_neg c2, if_neg (fun c3 => c2 (Int.lt_of_le_of_lt h c3))]; exact Int.le_refl _
theorem cnt_mono (f g : Posn → Int) (j : Int) : ∀ l : List Posn, (∀ p ∈ l, f p ≤ g p) → cnt f j l ≤ cnt g j l
  | [], _ => Int.le_refl _
  | p :: t, h => by
    have ih := cnt_mono f g j t (fun x hx => h x (List.mem_cons_of_mem _ hx))
    have hp := h p (by simp)
    rw [cnt_cons, cnt_cons]
    split <;> omega
theorem near_mono (l : List Posn) (h : goodPos l) (day days days' : Int) (hd : days ≤ days') : cnt (nearP day days) 1 l ≤ cnt (nearP day days') 1 l :=
  cnt_mono _ _ 1 l fun p hp => near_mono1 _ _ _ _ _ _ hd (h.2.2 p hp).1 (h.2.2 p hp).2.1
theorem times_small (a per : Int) (ha : 0 ≤ a ∧ a ≤ 268435456) (hp : 0 ≤ per ∧ per ≤ 200000) : contangoref26_times.f a per = some (a * per, 0) := by
  rw [← times_eq a per 20 (by omega) ha (by omega), mul_eq a per 20 (by omega)]
  have h1 : 0 ≤ a * per := Int.mul_nonneg ha.1 hp.1
  have h2 : a * per ≤ 268435456 * 200000 := Int.le_trans (Int.mul_le_mul_of_nonneg_right ha.2 hp.1) (Int.mul_le_mul_of_nonneg_left hp.2 (by omega))
  unfold mulS
  rw [if_pos ⟨by unfold mdFits; omega, by unfold mdFits; omega⟩, if_pos (by unfold mdFits; omega)]
theorem least_small (l : List Posn) (h : chk l = 0) (per : Int) (hp : 0 ≤ per ∧ per ≤ 200000) : leastS l per = some (optS l * per, 0) := by
  unfold leastS
  rw [if_pos h, if_pos (by omega), times_small _ _ (optS_bd ((chk_zero l).1 h)) hp]
theorem near_small (l : List Posn) (h : chk l = 0) (day days per : Int) (h1 : 0 ≤ day ∧ day ≤ 73048) (h2 : 0 ≤ days ∧ days ≤ 73048) (hp : 0 ≤ per ∧ per ≤ 200000) : nearS l day days per = some (cnt (nearP day days) 1 l * per, 0) := by
  unfold nearS
  rw [if_pos h, if_neg (by omega), if_neg (by omega), if_pos (by omega), times_small _ _ (near_sum_bd ((chk_zero l).1 h) day days) hp]
theorem near_bad (l : List Posn) (h : chk l ≠ 0) (day days per : Int) : nearS l day days per = some (0, chk l) := by
  unfold nearS
  rw [if_neg h]
theorem least_bad (l : List Posn) (h : chk l ≠ 0) (per : Int) : leastS l per = some (0, chk l) := by
  unfold leastS
  rw [if_neg h]
end Go.Proofs.Ytffdehnmoimikaa.Pr
