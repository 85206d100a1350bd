/- CoverLeast: with least higher no more are called. -/
import Derived.Test.YtfcaaefdmabkhaaQ4A5LmCover0
import Derived.Test.YtfcaaefdmabkhaaQ4A5LmCoverL
import Derived.Test.YtfcaaefdmabkhaaQ4A5P7
import Derived.Test.YtfcaaefdmabkhaaQ4A5PrxDCoverLeast
import Derived.Test.YtfcaaefdmabkhaaQ4A5P0
namespace Go.Proofs.Ytfcaaefdmabkhaa.Pure
open Go.RowKit Go.Proofs.Ytfcaaefdmabkhaa.Pr Go.Proofs.YtfcaaefdmabkhaaW.PrintWords Go.Proofs.YtfcaaefdmabkhaaW.PrintLast Go.Proofs.YtfcaaefdmabkhaaW.PrintMore
set_option linter.unusedVariables false
set_option linter.unusedSimpArgs false
theorem CoverLeast : contangolaw34_CoverLeast.Pure := by
  intro l lo hi _ hl _ _ _
  obtain ⟨K, hK⟩ : ∃ K, K = 3 * l.length + 8000 := ⟨_, rfl⟩
  refine ⟨2 * ((l.map toG).filter (calledP lo)).length + 1 + K, ?_⟩
  obtain ⟨F, hF⟩ : ∃ F, F = 2 * ((l.map toG).filter (calledP lo)).length + 1 + K := ⟨_, rfl⟩
  rw [← hF]
  unfold contangolaw34_CoverLeast.f
  by_cases h : lo > hi
  · rw [if_pos h, goes34 F (by omega)]; rfl
  · have l1 : (l.map toG).length = l.length := List.length_map ..
    have l2 : ((l.map toG).filter (calledP lo)).length ≤ (l.map toG).length := List.length_filter_le _ _
    have l3 : ((l.map toG).filter (calledP hi)).length ≤ (l.map toG).length := List.length_filter_le _ _
    rw [if_neg h, gaps_eq l (by omega) F (by omega), Option.bind_some, calls_eq lo _ (by omega) F (by omega), Option.bind_some, Option.bind_some, calls_eq hi _ (by omega) F (by omega), Option.bind_some]
    refine least_loop lo hi _ _ (by omega) (by omega) K (by omega) ?_ ?_ _ 0 F 0 (Nat.zero_add _) hF (Nat.zero_le _) ?_
    · intro g hg
      have := (List.mem_filter.1 hg).2
      exact of_decide_eq_true this
    · intro g hg
      have := (List.mem_filter.1 hg).2
      exact (of_decide_eq_true this).1
    · rw [List.drop_zero, List.drop_zero, List.filter_filter]
      refine List.filter_congr (fun g _ => ?_)
      unfold calledP
      rw [← Bool.decide_and, decide_eq_decide]
      omega
end Go.Proofs.Ytfcaaefdmabkhaa.Pure
