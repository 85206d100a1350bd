/- PledgePuts: Check, Put and Take agree with the reference. -/
import Derived.Test.YtggbflplbblgbaaQAA5LmPledge
import Derived.Test.YtggbflplbblgbaaQAA5LmPledge2
import Derived.Test.YtggbflplbblgbaaQAA5P7
import Derived.Test.YtggbflplbblgbaaQAA5PrxDPledgePuts
import Derived.Test.YtggbflplbblgbaaQAA5P0
namespace Go.Proofs.Ytggbflplbblgbaa.Pure
open Go.RowKit Go.Proofs.Ytggbflplbblgbaa.Pr Go.Proofs.YtggbflplbblgbaaW.PrintWords Go.Proofs.YtggbflplbblgbaaW.PrintLast Go.Proofs.YtggbflplbblgbaaW.PrintMore
set_option linter.unusedVariables false
set_option linter.unusedSimpArgs false
theorem PledgePuts : contangolaw32_PledgePuts.Pure := by
  intro l a b c n _ _ hok ha hb hc _
  have hbig := pok_big hok
  obtain ⟨K, hK⟩ : ∃ K, K = szsP l + (a.size + b.size + c.size) + 4000 := ⟨_, rfl⟩
  refine ⟨K + 2, ?_⟩
  have hj : ∀ x : Bool, (x = false → l.length ≤ 1100) → contangolaw32_PledgePuts.j0 (K + 2) l x a b c n = some true := by
    intro x hx
    rw [contangolaw32_PledgePuts.j0]
    cases x with
    | true => rw [if_pos rfl, pgoes _ (by omega)]; rfl
    | false =>
      have hl := hx rfl
      have p1 := pput_eq l (a, b, c) n (K + 1) (by omega)
      have p2 := prput_eq l hbig (a, b, c) ⟨ha, hb, hc⟩ n (K + 1) (by simp only; omega)
      have p3 := ptake_eq l (a, b, c) n (K + 1) (by omega)
      have p4 := prtake_eq l hbig (a, b, c) n (K + 1) (by omega)
      simp only at p1 p2 p3 p4
      have l1 := putS_len l (a, b, c) n
      have l2 := takeS_len l (a, b, c) n
      obtain ⟨r1, t1⟩ := ptouched_some (putS l (a, b, c) n).1 (by omega) K (by omega)
      obtain ⟨r2, t2⟩ := ptouched_some (takeS l (a, b, c) n).1 (by omega) K (by omega)
      rw [if_neg (by simp), Option.bind_some, if_pos (by simp; omega), Option.bind_some]
      simp only [List.nil_append]
      rw [p1, Option.bind_some, p2, Option.bind_some, p3, Option.bind_some, p4, Option.bind_some, pcheck_eq l _ (by omega), Option.bind_some, prcheck_eq l hbig _ (by omega), Option.bind_some, if_pos rfl]
      rw [psame_refl _ (by omega) _ (by omega), Option.bind_some, if_pos rfl, if_pos rfl, psame_refl _ (by omega) _ (by omega), Option.bind_some, if_pos rfl, contangolaw32_PledgePuts.j1, if_neg (by simp), t1, Option.bind_some, t2, Option.bind_some, psame_refl l (by omega) _ (by omega), Option.bind_some, if_pos rfl, pgoes _ (by omega)]
      rfl
  unfold contangolaw32_PledgePuts.f
  split
  · split
    · exact hj true (by simp)
    · exact hj _ (fun h => by have := of_decide_eq_false h; omega)
  · exact hj _ (fun h => by have := of_decide_eq_false h; omega)
end Go.Proofs.Ytggbflplbblgbaa.Pure
