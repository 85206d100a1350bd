/- CurveFills: points filled, and moved, are as the document says. -/
import Derived.Test.YtaembbndjpebhaaQBF7LmCurveAt
import Derived.Test.YtaembbndjpebhaaQBF7LmCurveChk
import Derived.Test.YtaembbndjpebhaaQBF7LmCurveTop
import Derived.Test.YtaembbndjpebhaaQBF7P3
import Derived.Test.YtaembbndjpebhaaQBF7PrxDCurveFills
import Derived.Test.YtaembbndjpebhaaQBF7P0
namespace Go.Proofs.Ytaembbndjpebhaa.Pure
open Go.RowKit Go.Proofs.Ytaembbndjpebhaa.Pr Go.Proofs.YtaembbndjpebhaaW.PrintWords Go.Proofs.YtaembbndjpebhaaW.PrintLast Go.Proofs.YtaembbndjpebhaaW.PrintMore
set_option linter.unusedVariables false
set_option linter.unusedSimpArgs false
theorem fill_len (l : List Pt) (tick : Int) : (FillS l tick).1.length ≤ 128 := by
 unfold FillS
 by_cases h : chkS l = 0
 ·rw [if_pos h]
  have := (Qbf h).len
  split
  ·simp
  simpa using this
 rw [if_neg h]; simp
theorem shift_len (l : List Pt) (d lo hi : Int) : (ShiftS l d lo hi).1.length ≤ 128 := by
 unfold ShiftS
 by_cases h : chkS l = 0
 ·rw [if_pos h]
  have := (Qbf h).len
  split
  ·split
   ·simp
   simpa using this
  simp
 rw [if_neg h]; simp
theorem CurveFills : contangolaw19_CurveFills.Pure := by
 intro l tick d lo hi _ _ _ _ _ _ _
 refine ⟨4001, ?_⟩
 unfold contangolaw19_CurveFills.f
 by_cases h : (l.length : Int) > 300
 ·rw [if_pos h, goes19 4001 (by omega)]; rfl
 have hf := fill_len l tick
 have hs := shift_len l d lo hi
 obtain ⟨r1, e1⟩ := Qc8 (FillS l tick).1 (by omega) 4000 (by omega)
 obtain ⟨r2, e2⟩ := Qc8 (ShiftS l d lo hi).1 (by omega) 4000 (by omega)
 rw [if_neg h, Option.bind_some, if_pos (by simp; omega), Option.bind_some, List.nil_append, Qb3 l tick 4001 (by omega), Option.bind_some, Qd5 l tick 4001 (by omega), Option.bind_some, Qca l d lo hi 4001 (by omega), Option.bind_some, QdO l d lo hi 4001 (by omega), Option.bind_some, QbC _ (by omega) 4001 (by omega), Option.bind_some, if_pos rfl, if_pos rfl, QbC _ (by omega) 4001 (by omega), Option.bind_some, if_pos rfl, contangolaw19_CurveFills.j0, if_neg (by simp), e1, Option.bind_some, e2, Option.bind_some, QbC l (by omega) 4000 (by omega), Option.bind_some, if_pos rfl, goes19 4000 (by omega)]
 rfl
end Go.Proofs.Ytaembbndjpebhaa.Pure
