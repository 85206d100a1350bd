/- InterSaves: Check and Save agree with the reference. -/
import Derived.Test.YtggbflplbblgbaaQ482LmInter
import Derived.Test.YtggbflplbblgbaaQ482LmInter2
import Derived.Test.YtggbflplbblgbaaQ482LmInter3
import Derived.Test.YtggbflplbblgbaaQ482LmInter5
import Derived.Test.YtggbflplbblgbaaQ482P4
import Derived.Test.YtggbflplbblgbaaQ482PrxDInterSaves
import Derived.Test.YtggbflplbblgbaaQ482P0
namespace Go.Proofs.Ytggbflplbblgbaa.Pure
open Go.RowKit Go.Proofs.Ytggbflplbblgbaa.Pr Go.Proofs.YtggbflplbblgbaaW.PrintWords Go.Proofs.YtggbflplbblgbaaW.PrintLast Go.Proofs.YtggbflplbblgbaaW.PrintMore
set_option linter.unusedVariables false
set_option linter.unusedSimpArgs false
theorem InterSaves : contangolaw25_InterSaves.Pure := by
 intro l0 l1 l2 l3 _ y0 sz _ y1 _ _ _ _ _ _ ok
 have big : bigC l3 := fun c hc => ⟨(ok c hc).1, (ok c hc).2.1⟩
 refine ⟨9000 + 9 * l0.length + szC l3, ?_⟩
 obtain ⟨K, hK⟩ : ∃ K, K = 9000 + 9 * l0.length + szC l3 := ⟨_, rfl⟩
 rw [← hK]
 have len : (saveS l0 l1 l2 l3).1.length ≤ l0.length ∧ (saveS l0 l1 l2 l3).2.1.length ≤ l0.length := by
  unfold saveS
  by_cases c : crS l3 = 0
  ·rw [if_pos c]
   by_cases m : mayS l0 l1 l2 = true
   ·rw [if_pos m]
    have M := QbT m
    obtain ⟨I, _, _⟩ := Qdu (ixI l0 0) l1 l2 l0.length (may_pl M) (QcD M) l3 _ (QcE M) (crS_ok c).2
    exact ⟨Nat.le_of_eq I.n1, Nat.le_of_eq I.n2⟩
   rw [if_neg m]; simp
  rw [if_neg c]; simp
 unfold contangolaw25_InterSaves.f
 rw [QcF l0 l1 l2 l3 (by omega) sz big K (by omega), Option.bind_some, Qeb l0 l1 l2 l3 (by omega) big K (by omega), Option.bind_some, Qdo l3 K (by omega), Option.bind_some, Qc6 l3 big K (by omega), Option.bind_some]
 simp only [Qbw _ (show (saveS l0 l1 l2 l3).1.length ≤ 1152921504606846976 by omega) K (by omega), Qbw _ (show (saveS l0 l1 l2 l3).2.1.length ≤ 1152921504606846976 by omega) K (by omega), goes25 K (by omega), Option.bind_some, if_true]
end Go.Proofs.Ytggbflplbblgbaa.Pure
