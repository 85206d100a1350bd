/- CoverCalls, for gaps of bulk at most 1048576: Calls and Member agree with the reference. -/
import Derived.Test.YtfcaaefdmabkhaaQ787LmCover0
import Derived.Test.YtfcaaefdmabkhaaQ787LmCoverA
import Derived.Test.YtfcaaefdmabkhaaQ787LmCoverL
import Derived.Test.YtfcaaefdmabkhaaQ787LmCoverM
import Derived.Test.YtfcaaefdmabkhaaQ787LmReadKinds
import Derived.Test.YtfcaaefdmabkhaaQ787P0
import Derived.Test.YtfcaaefdmabkhaaQ787P7
import Derived.Test.YtfcaaefdmabkhaaQ787PrxRd
namespace Go.Proofs.Ytfcaaefdmabkhaa.Pure
open Go.RowKit Go.Proofs.Ytfcaaefdmabkhaa.Pr Go.Proofs.YtfcaaefdmabkhaaW.PrintWords Go.Proofs.YtfcaaefdmabkhaaW.PrintLast Go.Proofs.YtfcaaefdmabkhaaW.PrintMore
set_option linter.unusedVariables false
set_option linter.unusedSimpArgs false
theorem CoverCallsUpto : ∀ (l0 : List (S100)) (a1 : Int) (a2 : ByteArray), l0.length ≤ 9223372036854775807 → l0.length ≤ 1048576 → l0.length * 56 ≤ 140737488351232 → (∀ y_ ∈ l0, ok100 y_) → (Lit.int .i64 a1).wf = true → a2.size ≤ 140737488351232 → ∃ k, contangolaw34_CoverCalls.f k l0 a1 a2 = some true := by
 intro l n m _ hl _ hok _ _
 have hw : ∀ g ∈ l, wfG g := fun g hg => ⟨wf64 (hok g hg).2.1, wf64 (hok g hg).2.2.1, wf64 (hok g hg).2.2.2⟩
 obtain ⟨F, hF⟩ : ∃ F, F = 6 * l.length + 9000 := ⟨_, rfl⟩
 refine ⟨F, ?_⟩
 have l1 : (l.map toG).length = l.length := List.length_map ..
 have l2 : ((l.map toG).filter (Qb0 n)).length ≤ (l.map toG).length := List.length_filter_le _ _
 unfold contangolaw34_CoverCalls.f
 rw [Qef l (by omega) F (by omega), Option.bind_some, mem_eq l m hl hw F (by omega), Option.bind_some, Qel l m hl hw F (by omega), Option.bind_some, QdV n _ (by omega) F (by omega), Option.bind_some, QdP n l hl F (by omega), Option.bind_some,
  ← Qdh n l, Qdp _ (by omega) F (by omega), Option.bind_some, if_pos rfl, if_pos rfl, if_pos rfl, if_pos rfl, if_pos rfl, goes34 F (by omega)]
 rfl
end Go.Proofs.Ytfcaaefdmabkhaa.Pure
