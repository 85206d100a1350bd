/- PledgeBack: Take undoes Put. -/
import Derived.Test.YtggbflplbblgbaaQAA5LmPledge
import Derived.Test.YtggbflplbblgbaaQAA5LmPledge2
import Derived.Test.YtggbflplbblgbaaQAA5LmPledge3
import Derived.Test.YtggbflplbblgbaaQAA5P8
import Derived.Test.YtggbflplbblgbaaQAA5PrxDPledgeBack
import Derived.Test.YtggbflplbblgbaaQAA5P0
namespace Go.Proofs.Ytggbflplbblgbaa.Pure
open Go.RowKit Go.Proofs.Ytggbflplbblgbaa.Pr Go.Proofs.YtggbflplbblgbaaW.PrintWords Go.Proofs.YtggbflplbblgbaaW.PrintLast Go.Proofs.YtggbflplbblgbaaW.PrintMore
set_option linter.unusedVariables false
set_option linter.unusedSimpArgs false
theorem PledgeBack : contangolaw32_PledgeBack.Pure := by
  intro l a b c n _ _ hok ha hb hc _
  refine ⟨4001, ?_⟩
  unfold contangolaw32_PledgeBack.f
  by_cases hl : (l.length : Int) > 300
  · rw [if_pos hl, pgoes _ (by omega)]; rfl
  · rw [if_neg hl]
    have p1 := pput_eq l (a, b, c) n 4001 (by omega)
    simp only at p1
    rw [p1, Option.bind_some]
    by_cases he : (putS l (a, b, c) n).2 = 0
    · obtain ⟨hg, hq, hn, hs, _, hp⟩ := putS_ok l (a, b, c) n he
      have hbd := had_bd (q := (a, b, c)) hg
      have hlen := ins_len_le (a, b, c) (hadP (a, b, c) l + n) l hg.2.1
      rw [hp]
      simp only [if_true]
      have hga : goodP (insP (a, b, c) (hadP (a, b, c) l + n) l) := good_ins _ _ _ hg hq (Or.inr ((okQty_iff _).2 (by omega))) (by omega)
      have hha := had_ins (a, b, c) (hadP (a, b, c) l + n) l
      have hA : (insP (a, b, c) (hadP (a, b, c) l + n) l).length ≤ 301 := by omega
      have q1 := pqty_eq (a, b, c) (insP (a, b, c) (hadP (a, b, c) l + n) l) (by omega) 4001 (by omega)
      have q2 := pqty_eq (a, b, c) l (by omega) 4001 (by omega)
      have q3 := pqty_eq (a, b, c) l (by omega) 4000 (by omega)
      simp only at q1 q2 q3
      have w1 : wrap64 (hadP (a, b, c) l + n) = hadP (a, b, c) l + n := IntWalk.wrap64_in _ (by omega)
      have w2 : wrap64 (n + hadP (a, b, c) l) = hadP (a, b, c) l + n := by rw [Int.add_comm, w1]
      rw [pcheck_eq _ _ (by omega), Option.bind_some, if_pos ((chkP_zero _).2 hga), q1, Option.bind_some, q2, Option.bind_some, hha, w1, contangolaw32_PledgeBack.j0]
      have t1 := ptake_eq (insP (a, b, c) (hadP (a, b, c) l + n) l) (a, b, c) n 4000 (by omega)
      have t2 := ptake_eq (insP (a, b, c) (hadP (a, b, c) l + n) l) (a, b, c) (hadP (a, b, c) l + n) 4000 (by omega)
      simp only at t1 t2
      rw [takeS_ok _ _ _ hga hn (by rw [hha]; omega), hha, ins_ins, show hadP (a, b, c) l + n - n = hadP (a, b, c) l by omega, ins_had _ _ hg] at t1
      rw [takeS_ok _ _ _ hga (by omega) (by rw [hha]; omega), hha, ins_ins, Int.sub_self] at t2
      have q4 := pqty_eq (a, b, c) (insP (a, b, c) 0 l) (by have := ins_len_le (a, b, c) 0 l hg.2.1; omega) 4000 (by have := ins_len_le (a, b, c) 0 l hg.2.1; omega)
      simp only [had_ins] at q4
      have hlt : ((insP (a, b, c) 0 l).length : Int) < ((insP (a, b, c) (hadP (a, b, c) l + n) l).length : Int) := by
        rw [ins_len, ins_len, if_pos rfl, if_neg (by omega)]
        omega
      rw [if_neg (by simp), t1, Option.bind_some, q3, Option.bind_some, w2, t2, Option.bind_some]
      simp only [if_true]
      rw [psame_refl l (by omega) _ (by omega), Option.bind_some, if_pos rfl, q4, Option.bind_some, if_pos rfl, if_pos hlt, pgoes _ (by omega)]
      rfl
    · rw [if_neg he, putS_err _ _ _ he, if_pos (by simp), pgoes _ (by omega)]
      rfl
end Go.Proofs.Ytggbflplbblgbaa.Pure
