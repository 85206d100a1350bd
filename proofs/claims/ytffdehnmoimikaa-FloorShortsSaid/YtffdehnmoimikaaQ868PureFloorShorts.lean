/- FloorShorts: Shorts, Least and Floor agree with the reference. -/
import Derived.Test.YtffdehnmoimikaaQ868LmFloor
import Derived.Test.YtffdehnmoimikaaQ868P3
import Derived.Test.YtffdehnmoimikaaQ868PrxDFloorShorts
import Derived.Test.YtffdehnmoimikaaQ868P0
namespace Go.Proofs.Ytffdehnmoimikaa.Pure
open Go.RowKit Go.Proofs.Ytffdehnmoimikaa.Pr Go.Proofs.YtffdehnmoimikaaW.PrintWords Go.Proofs.YtffdehnmoimikaaW.PrintLast Go.Proofs.YtffdehnmoimikaaW.PrintMore
set_option linter.unusedVariables false
set_option linter.unusedSimpArgs false
theorem FloorShorts : contangolaw26_FloorShorts.Pure := by
  intro l per risk _ _ _ _ _
  refine ⟨300, ?_⟩
  unfold contangolaw26_FloorShorts.f
  rw [shorts_eq l 300 (by omega), rshorts_eq l 300 (by omega), least_eq l per 300 (by omega), rleast_eq l per 300 (by omega), fgoes 300 (by omega), floor_max]
  obtain ⟨r, hr⟩ := least_some l per
  obtain ⟨m, hm⟩ : ∃ m, contangoref26_Floor.f risk per = some m := by unfold contangoref26_Floor.f; split <;> exact ⟨_, rfl⟩
  rw [hr, hm]
  simp
end Go.Proofs.Ytffdehnmoimikaa.Pure
