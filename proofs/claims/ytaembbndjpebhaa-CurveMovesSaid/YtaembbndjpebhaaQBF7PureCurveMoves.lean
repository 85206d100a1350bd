/- CurveMoves: all known prices moved by an even number of ticks, each price moves by that. -/
import Derived.Test.YtaembbndjpebhaaQBF7LmCurveAt
import Derived.Test.YtaembbndjpebhaaQBF7LmCurveChk
import Derived.Test.YtaembbndjpebhaaQBF7LmCurveEq
import Derived.Test.YtaembbndjpebhaaQBF7LmCurveFit
import Derived.Test.YtaembbndjpebhaaQBF7LmCurveLaw
import Derived.Test.YtaembbndjpebhaaQBF7LmCurveMore
import Derived.Test.YtaembbndjpebhaaQBF7LmCurveTop
import Derived.Test.YtaembbndjpebhaaQBF7P3
import Derived.Test.YtaembbndjpebhaaQBF7PrxDCurveMoves
import Derived.Test.YtaembbndjpebhaaQBF7P0
namespace Go.Proofs.Ytaembbndjpebhaa.Pure
open Go.RowKit Go.Proofs.Ytaembbndjpebhaa.Pr Go.Proofs.YtaembbndjpebhaaW.PrintWords Go.Proofs.YtaembbndjpebhaaW.PrintLast Go.Proofs.YtaembbndjpebhaaW.PrintMore
set_option linter.unusedVariables false
set_option linter.unusedSimpArgs false
theorem CurveMoves : contangolaw19_CurveMoves.Pure := by
 intro l day a b hl _ _ _ _ _
 refine ⟨4000, ?_⟩
 unfold contangolaw19_CurveMoves.f
 obtain ⟨e1, e2, e3⟩ := tm_mod day 73048 (by omega) (by omega)
 rw [fit_eq l hl a b 4000 (by omega), Option.bind_some, e1]
 generalize IntKind.u64.wrap day % 73048 = q at *
 have hM := QcZ l
 have ht := QbL a
 have hb := by_rng a b
 generalize fitS l = l' at *
 dsimp only
 have hp : QaO (2 * tickF a * byF b) := ⟨by omega, by omega⟩
 have hpn : QaO (-(2 * tickF a * byF b)) := ⟨by omega, by omega⟩
 have hS := Qch hM.good hp (fun p hp => by have := hM.low p hp; omega)
 have hG2 : GoodC (l'.map (upP (2 * tickF a * byF b))) := Qc0 hM.good (upP_f0 _) (fun p hp => by
  have := hM.low p hp
  by_cases hk : p.f2 = true
  ·left; unfold upP QaO; rw [if_pos hk]; show -16777216 ≤ p.f1 + _ ∧ p.f1 + _ ≤ 16777216; omega
  right; rw [upP_f2]; simpa using hk) (fun p hk => by rw [upP_f2]; exact hk)
 have hB := Qch hG2 hpn (fun p hp => by
  obtain ⟨q, hq, rfl⟩ := List.mem_map.1 hp
  have := hM.low q hq
  unfold upP
  split
  ·show -16777216 ≤ q.f1 + _ + _ ∧ q.f1 + _ + _ ≤ 16777216; omega
  omega)
 have hup := at_up hM.good.ne q (tickF a) (byF b) ht.1
 have hbt := Qbz hM.good (day := q) (lo := -500000) (hi := 500000) ht.1 (by omega) (fun p hp => hM.low p (mem_kn hp).1)
 rw [At_eq l' q (tickF a) 4000 (by omega), Option.bind_some, Qca l' _ _ _ 4000 (by omega), Option.bind_some, hS, At_eq _ q (tickF a) 4000 (by omega), Option.bind_some, Qca _ _ _ _ 4000 (by omega), Option.bind_some, IntWalk.wrap64_in (-(2 * tickF a * byF b)) (by omega), hB, Qeo, Qcq hM.good e2 (by omega) ht.1 (by omega), Qcq hG2 e2 (by omega) ht.1 (by omega)]
 dsimp only
 rw [if_pos rfl, if_pos rfl, if_pos rfl, if_pos rfl, hup, IntWalk.wrap64_in (atS l' q (tickF a) + 2 * tickF a * byF b) (by omega), if_pos rfl, QbC l' (by have := hM.good.len; omega) 4000 (by omega), Option.bind_some, if_pos rfl, goes19 4000 (by omega)]
 rfl
end Go.Proofs.Ytaembbndjpebhaa.Pure
