/- What At, Fill, Shift, Same and their references answer. -/
import Derived.Test.YtaembbndjpebhaaQ974LmCents
import Derived.Test.YtaembbndjpebhaaQ974LmCurveAt
import Derived.Test.YtaembbndjpebhaaQ974LmCurveChk
import Derived.Test.YtaembbndjpebhaaQ974LmCurveEq
import Derived.Test.YtaembbndjpebhaaQ974LmCurveRef
import Derived.Test.YtaembbndjpebhaaQ974P0
import Derived.Test.YtaembbndjpebhaaQ974P1
namespace Go.Proofs.Ytaembbndjpebhaa.Pr
open Go.RowKit Go.Proofs.Ytaembbndjpebhaa.Pr Go.Proofs.YtaembbndjpebhaaW.PrintWords Go.Proofs.YtaembbndjpebhaaW.PrintLast Go.Proofs.YtaembbndjpebhaaW.PrintMore
set_option linter.unusedVariables false
set_option linter.unusedSimpArgs false
theorem QdN (l : List Pt) (tick : Int) (k : Nat) (hk : 600 ≤ k) : Qbb.f k l tick = some (if chkS l = 0 then (if tick < 1 ∨ tick > 16777216 then 16 else 0) else chkS l) := by
 unfold Qbb.f
 rw [Qdw l k hk, Option.bind_some]
 by_cases h : chkS l = 0
 ·rw [if_pos h, if_pos h]
  by_cases h1 : tick < 1
  ·rw [if_pos h1, if_pos (Or.inl h1)]
  rw [if_neg h1]
  by_cases h2 : tick > 16777216
  ·rw [if_pos h2, if_pos (Or.inr h2)]
  rw [if_neg h2, if_neg (by omega)]
 rw [if_neg h, if_neg h]
def AtS (l : List Pt) (day tick : Int) : Int × Int := if chkS l = 0 then (if tick < 1 ∨ tick > 16777216 then (0, 16) else if day < 0 ∨ day > 73048 then (0, 15) else (atS l day tick, 0)) else (0, chkS l)
theorem At_eq (l : List Pt) (day tick : Int) (k : Nat) (hk : 2000 ≤ k) : Qbj.f k l day tick = some (AtS l day tick) := by
 unfold Qbj.f AtS
 rw [QdN l tick k (by omega), Option.bind_some]
 by_cases h : chkS l = 0
 ·rw [if_pos h, if_pos h]
  by_cases h1 : tick < 1 ∨ tick > 16777216
  ·rw [if_pos h1, if_pos h1, if_neg (by decide)]
  rw [if_neg h1, if_neg h1, if_pos rfl]
  by_cases h2 : day < 0
  ·rw [if_pos h2, if_pos (Or.inl h2)]
  rw [if_neg h2]
  by_cases h3 : day > 73048
  ·rw [if_pos h3, if_pos (Or.inr h3)]
  rw [if_neg h3, if_neg (by omega), Qd4 l (Qdh h) day tick (by omega) (by omega) (by omega) (by omega) k hk, Option.bind_some]
 rw [if_neg h, if_neg h, if_neg h]
end Go.Proofs.Ytaembbndjpebhaa.Pr
