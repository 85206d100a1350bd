/- CurveAgain: filled, known points stay, all are known, each has the price of its day; filled again it is the same. -/
import Derived.Test.YtaembbndjpebhaaQBF7LmCurveAt
import Derived.Test.YtaembbndjpebhaaQBF7LmCurveChk
import Derived.Test.YtaembbndjpebhaaQBF7LmCurveFit
import Derived.Test.YtaembbndjpebhaaQBF7LmCurveLaw
import Derived.Test.YtaembbndjpebhaaQBF7LmCurveMore
import Derived.Test.YtaembbndjpebhaaQBF7LmCurveTop
import Derived.Test.YtaembbndjpebhaaQBF7P0
import Derived.Test.YtaembbndjpebhaaQBF7P4
import Derived.Test.YtaembbndjpebhaaQBF7PrxDCurveAgain
namespace Go.Proofs.Ytaembbndjpebhaa.Pure
open Go.RowKit Go.Proofs.Ytaembbndjpebhaa.Pr Go.Proofs.YtaembbndjpebhaaW.PrintWords Go.Proofs.YtaembbndjpebhaaW.PrintLast Go.Proofs.YtaembbndjpebhaaW.PrintMore
set_option linter.unusedVariables false
set_option linter.unusedSimpArgs false
theorem ag_loop (l : List Pt) (hG : GoodC l) (tick : Int) (ht : 1 ≤ tick) (ht' : tick ≤ 16777216) (m : Nat) (hm3 : 3000 ≤ m) : ∀ (d i : Nat), i + d = l.length → contangolaw19_CurveAgain.l0 (d + 1 + m) l tick (l.map (fillP l tick)) (((l.map (fillP l tick)).length : Nat) : Int) (i : Int) = some true := by
 have hl := hG.len
 have hlen : (l.map (fillP l tick)).length = l.length := List.length_map _
 intro d
 induction d with
 | zero =>
  intro i hi
  rw [show 0 + 1 + m = m + 1 by omega, contangolaw19_CurveAgain.l0, if_neg (by omega), goes19 m hm3]
  rfl
 | succ d ih =>
  intro i hi
  have hm := Qdo l i (by omega)
  obtain ⟨r1, r2, r3⟩ := hG.rng _ hm
  have n := ih (i + 1) (by omega)
  rw [show d + 1 + 1 + m = (d + 1 + m) + 1 by omega, contangolaw19_CurveAgain.l0, if_pos (by omega), if_pos (by omega), if_pos (by omega), At_eq l _ tick _ (by omega), Option.bind_some, Qcq hG r1 r2 ht ht', if_pos rfl, if_pos (by omega), Qek l _ i (by omega), if_pos (Qcd _ _ _), if_pos (QcW _ _ _), if_pos (QcX hG.srt tick hm), IntWalk.wrap64_in ((i : Int) + 1) (by omega), show ((i : Int) + 1) = ((i + 1 : Nat) : Int) by omega, n]
  generalize rd_T56 l (i : Int) = p at *
  by_cases hk : p.f2 = true
  ·have e : fillP l tick p = p := by unfold fillP; rw [if_pos hk]
   rw [if_pos hk, e, if_neg (by simp)]
  rw [if_neg hk]
theorem CurveAgain : contangolaw19_CurveAgain.Pure := by
 intro l a hl _ _ _
 refine ⟨4001, ?_⟩
 unfold contangolaw19_CurveAgain.f
 rw [fit_eq l hl a 0 4001 (by omega), Option.bind_some]
 have hM := QcZ l
 have ht := QbL a
 generalize fitS l = l' at *
 generalize tickF a = t at *
 dsimp only
 have hl' := hM.good.len
 have hGa := QdI hM ht.1 ht.2
 have e1 : FillS l' t = (l'.map (fillP l' t), 0) := by unfold FillS; rw [if_pos (chk_of hM.good), if_neg (by omega)]
 have e2 : FillS (l'.map (fillP l' t)) t = (l'.map (fillP l' t), 0) := by
  unfold FillS
  rw [if_pos (chk_of hGa), if_neg (by omega), Qdr t (fun p hp => by obtain ⟨q, _, rfl⟩ := List.mem_map.1 hp; exact Qcd _ _ _)]
 rw [Qb3 l' t 4001 (by omega), Option.bind_some, e1]
 dsimp only
 rw [Qb3 _ t 4001 (by omega), Option.bind_some, e2]
 dsimp only
 rw [if_pos rfl, if_pos rfl, if_pos (by simp), QbC _ (by simp; omega) 4001 (by omega), Option.bind_some, contangolaw19_CurveAgain.j0, if_neg (by simp)]
 obtain ⟨m, hm, e⟩ : ∃ m, 3000 ≤ m ∧ 4000 = l'.length + 1 + m := ⟨4000 - l'.length - 1, by omega, by omega⟩
 have := ag_loop l' hM.good t ht.1 (by omega) m hm l'.length 0 (by omega)
 rw [← e] at this
 exact this
end Go.Proofs.Ytaembbndjpebhaa.Pure
