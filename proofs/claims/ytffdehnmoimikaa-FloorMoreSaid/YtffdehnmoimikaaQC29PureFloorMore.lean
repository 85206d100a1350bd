/- FloorMore: more days charge no less, and rates add up. -/
import Derived.Test.YtffdehnmoimikaaQC29LmFloor
import Derived.Test.YtffdehnmoimikaaQC29LmFloor2
import Derived.Test.YtffdehnmoimikaaQC29LmPos
import Derived.Test.YtffdehnmoimikaaQC29LmReadKinds
import Derived.Test.YtffdehnmoimikaaQC29P1
import Derived.Test.YtffdehnmoimikaaQC29PrxDFloorMore
import Derived.Test.YtffdehnmoimikaaQC29P0
namespace Go.Proofs.Ytffdehnmoimikaa.Pure
open Go.RowKit Go.Proofs.Ytffdehnmoimikaa.Pr Go.Proofs.YtffdehnmoimikaaW.PrintWords Go.Proofs.YtffdehnmoimikaaW.PrintLast Go.Proofs.YtffdehnmoimikaaW.PrintMore
set_option linter.unusedVariables false
set_option linter.unusedSimpArgs false
theorem umod (x m : Int) (hx : -9223372036854775808 ≤ x ∧ x ≤ 9223372036854775807) (hm : 0 < m ∧ m ≤ 1000000) : ∃ y, wrap64 (Int.tmod (IntKind.u64.wrap x) m) = y ∧ 0 ≤ y ∧ y < m := by
  have h0 : 0 ≤ IntKind.u64.wrap x := by
    rw [IntKind.wrap_u64]; omega
  refine ⟨Int.tmod (IntKind.u64.wrap x) m, ?_, Int.tmod_nonneg _ h0, Int.tmod_lt_of_pos _ hm.1⟩
  have h1 := Int.tmod_nonneg m h0
  have h2 := Int.tmod_lt_of_pos (IntKind.u64.wrap x) hm.1
  exact IntWalk.wrap64_in _ (by omega)
theorem FloorMore : contangolaw26_FloorMore.Pure := by
  intro l x y z m _ _ hok hx hy hz hm
  refine ⟨400, ?_⟩
  unfold contangolaw26_FloorMore.f
  by_cases hl : (l.length : Int) > 1000
  · rw [if_pos hl, fgoes 400 (by omega)]
    rfl
  · rw [if_neg hl]
    obtain ⟨day, e1, d1⟩ := umod x 30000 (wf64 hx) (by omega)
    obtain ⟨days, e2, d2⟩ := umod y 20000 (wf64 hy) (by omega)
    obtain ⟨per, e3, d3⟩ := umod z 100000 (wf64 hz) (by omega)
    obtain ⟨more, e4, d4⟩ := umod m 20000 (wf64 hm) (by omega)
    rw [e1, e2, e3, e4, IntWalk.wrap64_in (days + more) (by omega), IntWalk.wrap64_in (per + more) (by omega)]
    clear e1 e2 e3 e4
    rw [near_eq l _ _ _ 400 (by omega), near_eq l _ _ _ 400 (by omega), least_eq l _ 400 (by omega), least_eq l _ 400 (by omega), least_eq l _ 400 (by omega)]
    by_cases h : chk l = 0
    · have hg := (chk_zero l).1 h
      have b1 := optS_bd hg
      have b2 := near_mono l hg day days (days + more) (by omega)
      rw [near_small l h _ _ _ (by omega) (by omega) (by omega), near_small l h _ _ _ (by omega) (by omega) (by omega), least_small l h _ (by omega), least_small l h _ (by omega), least_small l h _ (by omega)]
      have hmm : cnt (nearP day days) 1 l * per ≤ cnt (nearP day (days + more)) 1 l * per := Int.mul_le_mul_of_nonneg_right b2 (by omega)
      have g1 : 0 ≤ optS l * per := Int.mul_nonneg b1.1 (by omega)
      have g2 : optS l * per ≤ 268435456 * 100000 := Int.le_trans (Int.mul_le_mul_of_nonneg_right b1.2 (by omega)) (Int.mul_le_mul_of_nonneg_left (by omega) (by omega))
      have g3 : 0 ≤ optS l * more := Int.mul_nonneg b1.1 (by omega)
      have g4 : optS l * more ≤ 268435456 * 100000 := Int.le_trans (Int.mul_le_mul_of_nonneg_right b1.2 (by omega)) (Int.mul_le_mul_of_nonneg_left (by omega) (by omega))
      have hw : wrap64 (optS l * per + optS l * more) = optS l * (per + more) := by
        rw [Int.mul_add, IntWalk.wrap64_in _ (by omega)]
      simp only [Option.bind_some, if_true]
      rw [if_pos hmm, if_pos hw, fgoes 400 (by omega)]
      rfl
    · rw [near_bad l h, near_bad l h, least_bad l h, least_bad l h, least_bad l h]
      simp only [Option.bind_some, if_neg h, if_true]
      have w0 : wrap64 ((0 : Int) + 0) = 0 := IntWalk.wrap64_in _ (by omega)
      rw [w0, w0, w0, w0, if_pos rfl, fgoes 400 (by omega)]
      rfl
end Go.Proofs.Ytffdehnmoimikaa.Pure
