/- Words and lemmas that the printed walks use, without those that these claims don't need. -/
import Derived.Test.YtaiekjimdjlgbaaQF9EP6
import Derived.Test.YtaiekjimdjlgbaaQF9EPrxRd
namespace Go.Proofs.Ytaiekjimdjlgbaa.Pr
open Go.RowKit Go.Proofs.YtaiekjimdjlgbaaW.PrintWords Go.Proofs.YtaiekjimdjlgbaaW.PrintLast Go.Proofs.YtaiekjimdjlgbaaW.PrintMore
set_option linter.unusedVariables false
set_option linter.unusedSimpArgs false
def contangolaw32_PledgeWorths.Pure : Prop := ∀ (l0 : List (S85)) (a1_0 : ByteArray) (a1_1 : ByteArray) (l2_0 : List (S23)) (l2_1 : List (S94)), l0.length ≤ 9223372036854775807 → l0.length * 56 ≤ 140737488351232 → (∀ y_ ∈ l0, ok85 y_) → a1_0.size ≤ 9223372036854775807 → a1_1.size ≤ 9223372036854775807 → l2_0.length ≤ 9223372036854775807 → (∀ y_ ∈ l2_0, ok23 y_) → l2_1.length ≤ 9223372036854775807 → (∀ y_ ∈ l2_1, ok94 y_) → ∃ k, contangolaw32_PledgeWorths.f k l0 a1_0 a1_1 l2_0 l2_1 = some true
end Go.Proofs.Ytaiekjimdjlgbaa.Pr
