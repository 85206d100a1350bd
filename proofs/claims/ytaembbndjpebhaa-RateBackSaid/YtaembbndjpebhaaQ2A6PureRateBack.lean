/- RateBack: converting there and back, rounded down, does not increase an amount. -/
import Derived.Test.YtaembbndjpebhaaQ2A6LmCentsMd
import Derived.Test.YtaembbndjpebhaaQ2A6LmRate
import Derived.Test.YtaembbndjpebhaaQ2A6LmRate2
import Derived.Test.YtaembbndjpebhaaQ2A6LmRate3
import Derived.Test.YtaembbndjpebhaaQ2A6P0
import Derived.Test.YtaembbndjpebhaaQ2A6P1
import Derived.Test.YtaembbndjpebhaaQ2A6P2
import Derived.Test.YtaembbndjpebhaaQ2A6PrxDRateBack
namespace Go.Proofs.Ytaembbndjpebhaa.Pure
open Go.RowKit Go.Proofs.Ytaembbndjpebhaa.Pr Go.Proofs.YtaembbndjpebhaaW.PrintWords Go.Proofs.YtaembbndjpebhaaW.PrintLast Go.Proofs.YtaembbndjpebhaaW.PrintMore
set_option linter.unusedVariables false
set_option linter.unusedSimpArgs false
theorem back_le (x b c : Int) (hx : 0 ≤ x) (hb : 0 < b) (hc : 0 < c) : 0 ≤ x * b / c ∧ 0 ≤ x * b / c * c / b ∧ x * b / c * c / b ≤ x := by
  have h1 : 0 ≤ x * b / c := Int.ediv_nonneg (Int.mul_nonneg hx (by omega)) (by omega)
  have h2 : 0 ≤ x * b / c * c / b := Int.ediv_nonneg (Int.mul_nonneg h1 (by omega)) (by omega)
  have h3 : x * b / c * c ≤ x * b := Int.ediv_mul_le _ (by omega)
  have h4 : x * b / c * c / b ≤ x * b / b := Int.ediv_le_ediv hb h3
  rw [Int.mul_ediv_cancel _ (by omega)] at h4
  exact ⟨h1, h2, h4⟩
theorem RateBack : contangolaw08_RateBack.Pure := by
  intro l n a b _ _ _ _ _ _
  refine ⟨103, ?_⟩
  have g : ∀ k, 60 ≤ k → ((contangolaw08_goes.f k).bind fun t => some t) = some true := fun k hk => by rw [rgoes8 k hk]; rfl
  have hT : contangolaw08_RateBack.j0 103 l n a b true = some true := by
    rw [contangolaw08_RateBack.j0, if_pos rfl, g _ (by omega)]
  unfold contangolaw08_RateBack.f
  rw [rcheck_eq8 l _ (by omega), Option.bind_some]
  by_cases hc' : ¬ chkR l = 0
  · rw [if_neg hc', hT]
  have hc : chkR l = 0 := by omega
  rw [if_pos hc, rfits_eq, Option.bind_some]
  by_cases hn' : ¬ mdFits n
  · rw [if_neg (by simpa using hn'), hT]
  have hn : mdFits n := Decidable.not_not.1 hn'
  rw [if_pos (by simpa using hn)]
  by_cases a0 : a < 0
  · rw [if_pos a0, hT]
  rw [if_neg a0]
  by_cases b0 : b < 0
  · rw [if_pos b0, hT]
  rw [if_neg b0]
  by_cases a1 : a ≥ (l.length : Int)
  · rw [if_pos a1, hT]
  rw [if_neg a1]
  by_cases b1 : b ≥ (l.length : Int)
  · rw [decide_eq_true b1, hT]
  rw [decide_eq_false b1]
  have ia : inR l a := ⟨by omega, by omega⟩
  have ib : inR l b := ⟨by omega, by omega⟩
  have ra := inR_rate l hc a ia
  have rb := inR_rate l hc b ib
  rw [contangolaw08_RateBack.j0, if_neg (by simp), conv_eq l _ _ _ _ 102 (by omega), Option.bind_some, convS_in l n a a 5 hc ia ia hn (by omega), mdRes_same n _ (by omega) hn]
  simp only [if_true]
  rw [contangolaw08_RateBack.j1, if_neg (by simp), conv_eq l _ _ _ _ 101 (by omega), Option.bind_some, convS_in l n a b 1 hc ia ib hn (by omega), mdRes_down n _ _ (by omega) (by omega)]
  have hb := back_le (n.natAbs : Int) (rd_T87 l a).f1 (rd_T87 l b).f1 (by omega) (by omega) (by omega)
  revert hb
  generalize hQ : (n.natAbs : Int) * (rd_T87 l a).f1 / (rd_T87 l b).f1 = Q
  intro hb
  unfold mdFits at hn
  by_cases hq : 1152921504606846976 < Q
  · rw [if_pos hq]
    simp only [show ¬ ((3 : Int) = 0) by decide, if_false, if_true]
    exact g _ (by omega)
  · rw [if_neg hq]
    simp only [if_true]
    rw [conv_eq l _ _ _ _ 101 (by omega), Option.bind_some]
    by_cases hneg : n < 0
    · rw [if_pos hneg, if_pos hneg, convS_in l (-Q) b a 1 hc ib ia (by unfold mdFits; omega) (by omega), mdRes_down _ _ _ (by omega) (by omega), show ((-Q).natAbs : Int) = Q by omega, if_neg (show ¬ (1152921504606846976 < Q * (rd_T87 l b).f1 / (rd_T87 l a).f1) by omega)]
      simp only [if_true]
      have hz1 : Q = 0 → Q * (rd_T87 l b).f1 / (rd_T87 l a).f1 = 0 := fun e => by rw [e, Int.zero_mul, Int.zero_ediv]
      generalize Q * (rd_T87 l b).f1 / (rd_T87 l a).f1 = Z at hb hz1 ⊢
      by_cases hz : -Q < 0
      · rw [if_pos hz, if_pos (by omega), if_pos (by omega), if_pos (by omega), g _ (by omega)]
      · have hz2 := hz1 (by omega)
        rw [if_neg hz, if_pos (by omega), if_pos (by omega), if_pos (by omega), g _ (by omega)]
    · rw [if_neg hneg, if_neg hneg, convS_in l Q b a 1 hc ib ia (by unfold mdFits; omega) (by omega), mdRes_down _ _ _ (by omega) (by omega), show (Q.natAbs : Int) = Q by omega, if_neg (show ¬ (1152921504606846976 < Q * (rd_T87 l b).f1 / (rd_T87 l a).f1) by omega)]
      simp only [if_true]
      generalize Q * (rd_T87 l b).f1 / (rd_T87 l a).f1 = Z at hb ⊢
      rw [if_neg (show ¬ Q < 0 by omega), if_pos (show Z ≥ 0 by omega), if_pos (show Z ≤ n by omega), if_pos (show Q ≥ 0 by omega), g _ (by omega)]
end Go.Proofs.Ytaembbndjpebhaa.Pure
