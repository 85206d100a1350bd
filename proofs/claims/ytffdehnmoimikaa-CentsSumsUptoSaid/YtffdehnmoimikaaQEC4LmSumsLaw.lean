/- CentsSums, for lists of at most 2^30 numbers: Sum agrees with the reference and does not depend on the order. -/
import Derived.Test.YtffdehnmoimikaaQEC4LmGoesCents
import Derived.Test.YtffdehnmoimikaaQEC4LmSums
import Derived.Test.YtffdehnmoimikaaQEC4P1
import Derived.Test.YtffdehnmoimikaaQEC4P0
namespace Go.Proofs.Ytffdehnmoimikaa.Pr
open Go.RowKit Go.Proofs.Ytffdehnmoimikaa.Pr Go.Proofs.YtffdehnmoimikaaW.PrintWords Go.Proofs.YtffdehnmoimikaaW.PrintLast Go.Proofs.YtffdehnmoimikaaW.PrintMore
set_option linter.unusedVariables false
set_option linter.unusedSimpArgs false
theorem sumS_rev (l : List Int) : sumS l.reverse = sumS l := by
  unfold sumS
  have e : l.reverse.sum = l.sum := List.sum_reverse l
  rw [e]
  simp only [List.mem_reverse]
theorem cs_loop (l : List Int) (hl : l.length ≤ 1048576) (k0 : Nat) (hk0 : l.length + 200 ≤ k0) : ∀ n : Nat, n ≤ l.length → ∀ k, k = n + 1 + k0 → contangolaw01_CentsSums.l0 k l (l.drop n).reverse ((n : Int) - 1) = some true := by
  intro n
  induction n with
  | zero =>
    intro _ k hk
    subst hk
    rw [show 0 + 1 + k0 = k0 + 1 by omega, contangolaw01_CentsSums.l0, if_neg (by omega), List.drop_zero, sum_eq l (by omega) k0 (by omega), rsum_eq l (by omega) k0 (by omega), sum_eq l.reverse (by rw [List.length_reverse]; omega) k0 (by rw [List.length_reverse]; omega), sumS_rev]
    simp only [Option.bind_some, if_true]
    rw [cgoes k0 (by omega)]
    rfl
  | succ n ih =>
    intro hn k hk
    subst hk
    have IH := ih (by omega) (n + 1 + k0) rfl
    rw [rd_drop l n (by omega), List.reverse_cons] at IH
    rw [show n + 1 + 1 + k0 = (n + 1 + k0) + 1 by omega, contangolaw01_CentsSums.l0, show ((n + 1 : Nat) : Int) - 1 = (n : Int) by omega, if_pos (by omega), if_pos (by omega), if_pos (by omega), if_pos (by rw [List.length_reverse, List.length_drop]; omega), IntWalk.wrap64_in ((n : Int) - 1) (by omega)]
    exact IH
theorem CentsSumsSmall (l : List Int) (hl : l.length ≤ 1048576) : ∃ k, contangolaw01_CentsSums.f k l = some true := by
  refine ⟨l.length + 1 + (l.length + 200), ?_⟩
  unfold contangolaw01_CentsSums.f
  have := cs_loop l hl (l.length + 200) (by omega) l.length (Nat.le_refl _) _ rfl
  rw [List.drop_length] at this
  rw [IntWalk.wrap64_in ((l.length : Int) - 1) (by omega)]
  exact this
end Go.Proofs.Ytffdehnmoimikaa.Pr
