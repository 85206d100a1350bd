/- PledgeMoves: Of, Qty and Move agree with the reference. -/
import Derived.Test.YtggbflplbblgbaaQ769LmName
import Derived.Test.YtggbflplbblgbaaQ769LmPledge
import Derived.Test.YtggbflplbblgbaaQ769LmPledge2
import Derived.Test.YtggbflplbblgbaaQ769LmPledgeMove
import Derived.Test.YtggbflplbblgbaaQ769LmPledgeOf
import Derived.Test.YtggbflplbblgbaaQ769P0
import Derived.Test.YtggbflplbblgbaaQ769P8
import Derived.Test.YtggbflplbblgbaaQ769PrxDPledgeMoves
namespace Go.Proofs.Ytggbflplbblgbaa.Pure
open Go.RowKit Go.Proofs.Ytggbflplbblgbaa.Pr Go.Proofs.YtggbflplbblgbaaW.PrintWords Go.Proofs.YtggbflplbblgbaaW.PrintLast Go.Proofs.YtggbflplbblgbaaW.PrintMore
set_option linter.unusedVariables false
set_option linter.unusedSimpArgs false
theorem PledgeMoves : contangolaw32_PledgeMoves.Pure := by
  intro l a b c d _ _ hok ha hb hc hd
  have hbig := pok_big hok
  refine ⟨szsP l + a.size + b.size + c.size + d.size + 12000, ?_⟩
  obtain ⟨K, hK⟩ : ∃ K, K = szsP l + a.size + b.size + c.size + d.size + 12000 := ⟨_, rfl⟩
  rw [← hK]
  unfold contangolaw32_PledgeMoves.f
  by_cases hl : (l.length : Int) > 300
  · rw [if_pos hl, pgoes _ (by omega)]; rfl
  · rw [if_neg hl, Option.bind_some, if_pos (by simp; omega), Option.bind_some]
    simp only [List.nil_append]
    have hml := moveS_len l a b c d
    have hof := ofP_len a b l
    rw [pmove_eq l a b c d K (by omega), Option.bind_some, prmove_eq l hbig a b c d (by omega) (by omega) (by omega) (by omega) K (by omega), Option.bind_some, of_eq a b l (by omega) K (by omega), Option.bind_some, psame_refl _ (by omega) K (by omega), Option.bind_some, if_pos rfl, if_pos rfl, rof_eq a b l (by omega) K (by omega), Option.bind_some, psame_refl _ (by omega) K (by omega), Option.bind_some]
    obtain ⟨K, rfl⟩ : ∃ m, K = m + 1 := ⟨K - 1, by omega⟩
    rw [contangolaw32_PledgeMoves.j0]
    have hloop : ∀ n i k : Nat, i + n = l.length → n + 4000 ≤ k → contangolaw32_PledgeMoves.l0 k l l (moveS l a b c d).1 (ofP a b l) true (l.length : Int) (i : Int) a b = some true := by
      intro n
      induction n with
      | zero =>
        intro i k hi hk
        obtain ⟨k, rfl⟩ : ∃ m, k = m + 1 := ⟨k - 1, by omega⟩
        obtain ⟨r1, t1⟩ := ptouched_some (moveS l a b c d).1 (by omega) k (by omega)
        obtain ⟨r2, t2⟩ := ptouched_some (ofP a b l) (by omega) k (by omega)
        rw [contangolaw32_PledgeMoves.l0, if_neg (by omega), t1, Option.bind_some, t2, Option.bind_some, if_pos rfl, psame_refl _ (by omega) k (by omega), Option.bind_some, if_pos rfl, pgoes _ (by omega)]
        rfl
      | succ n ih =>
        intro i k hi hk
        obtain ⟨k, rfl⟩ : ∃ m, k = m + 1 := ⟨k - 1, by omega⟩
        have q1 := pqty_eq (a, b, (rd_T26 l (i : Int)).f1) l (by omega) k (by omega)
        have q2 := prqty_eq (a, b, (rd_T26 l (i : Int)).f1) l (by omega) k (by omega)
        simp only at q1 q2
        rw [contangolaw32_PledgeMoves.l0, if_pos (by omega), if_pos rfl, if_pos (by omega), if_pos (by omega), q1, Option.bind_some, q2, Option.bind_some, nwrap (by omega) (by omega), show ((i : Int) + 1) = ((i + 1 : Nat) : Int) by omega, beq_self_eq_true]
        exact ih (i + 1) k (by omega) (by omega)
    rw [show (0 : Int) = ((0 : Nat) : Int) from rfl]
    exact hloop l.length 0 K (by omega) (by omega)
end Go.Proofs.Ytggbflplbblgbaa.Pure
