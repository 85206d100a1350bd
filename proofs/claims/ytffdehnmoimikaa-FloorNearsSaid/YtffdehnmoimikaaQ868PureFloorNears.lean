/- FloorNears: Near agrees with the reference; positions are left as they are. -/
import Derived.Test.YtffdehnmoimikaaQ868LmFloor
import Derived.Test.YtffdehnmoimikaaQ868LmPos
import Derived.Test.YtffdehnmoimikaaQ868LmReadKinds
import Derived.Test.YtffdehnmoimikaaQ868P4
import Derived.Test.YtffdehnmoimikaaQ868PrxDFloorNears
import Derived.Test.YtffdehnmoimikaaQ868P0
namespace Go.Proofs.Ytffdehnmoimikaa.Pure
open Go.RowKit Go.Proofs.Ytffdehnmoimikaa.Pr Go.Proofs.YtffdehnmoimikaaW.PrintWords Go.Proofs.YtffdehnmoimikaaW.PrintLast Go.Proofs.YtffdehnmoimikaaW.PrintMore
set_option linter.unusedVariables false
set_option linter.unusedSimpArgs false
theorem fn_loop (l : List Posn) (hl : l.length ≤ 1000) (x y : Int) (k0 : Nat) (hk0 : 20 ≤ k0) : ∀ n i k : Nat, i + n = l.length → k = n + 1 + k0 → contangolaw26_FloorNears.l0 k l l x y x y (l.length : Int) (i : Int) = some true := by
  intro n
  induction n with
  | zero =>
    intro i k hi hk
    subst hk
    rw [show 0 + 1 + k0 = k0 + 1 by omega, contangolaw26_FloorNears.l0, if_neg (by omega), if_pos rfl, if_pos rfl, fgoes k0 hk0]
    rfl
  | succ n ih =>
    intro i k hi hk
    subst hk
    rw [show n + 1 + 1 + k0 = (n + 1 + k0) + 1 by omega, contangolaw26_FloorNears.l0, if_pos (by omega), if_pos (by omega), if_pos (by omega), if_pos (by omega)]
    rw [IntWalk.wrap64_in ((i : Int) + 1) ⟨by omega, by omega⟩, show ((i : Int) + 1) = ((i + 1 : Nat) : Int) by omega, ih (i + 1) _ (by omega) rfl]
    simp
theorem FloorNears : contangolaw26_FloorNears.Pure := by
  intro l day days per _ _ hok _ _ _
  refine ⟨1300, ?_⟩
  unfold contangolaw26_FloorNears.f
  by_cases hl : (l.length : Int) > 1000
  · rw [if_pos hl, fgoes 1300 (by omega)]
    rfl
  · rw [if_neg hl, Option.bind_some, if_pos (by simp; omega), Option.bind_some]
    simp only [List.nil_append]
    have hw : ∀ p ∈ l, -9223372036854775808 ≤ p.f0.f2 ∧ p.f0.f2 ≤ 9223372036854775807 := fun p hp => wf64 (hok p hp).1.2.2.1
    rw [near_eq l _ _ _ 1300 (by omega), rnear_eq l _ _ _ 1300 (by omega) hw]
    obtain ⟨r, hr⟩ := near_some l day days per
    rw [hr, Option.bind_some, Option.bind_some, show (0 : Int) = ((0 : Nat) : Int) from rfl]
    exact at_rounds (fun k => (contangolaw26_FloorNears.mono_l k) _ _ _ _ _ _ _ _) (by omega) (fn_loop l (by omega) r.1 r.2 20 (by omega) l.length 0 _ (by omega) rfl)
end Go.Proofs.Ytffdehnmoimikaa.Pure
