/- Words and lemmas that the printed walks use, without those that these claims don't need. -/
import Derived.Test.YtaiekjimdjlgbaaQ3EDP6
import Derived.Test.YtaiekjimdjlgbaaQ3EDPrxRd
namespace Go.Proofs.Ytaiekjimdjlgbaa.Pr
open Go.RowKit Go.Proofs.YtaiekjimdjlgbaaW.PrintWords Go.Proofs.YtaiekjimdjlgbaaW.PrintLast Go.Proofs.YtaiekjimdjlgbaaW.PrintMore
set_option linter.unusedVariables false
set_option linter.unusedSimpArgs false
def contangotop_TopPledgeMoved.Pure : Prop := ∀ (l0_0 : List (S85)) (a0_1 : ByteArray) (a0_2 : ByteArray) (a0_3 : ByteArray) (a0_4 : ByteArray) (l0_5 : List (S23)) (l0_6 : List (S94)), l0_0.length ≤ 9223372036854775807 → (∀ y_ ∈ l0_0, ok85 y_) → a0_1.size ≤ 9223372036854775807 → a0_2.size ≤ 9223372036854775807 → a0_3.size ≤ 9223372036854775807 → a0_4.size ≤ 9223372036854775807 → l0_5.length ≤ 9223372036854775807 → (∀ y_ ∈ l0_5, ok23 y_) → l0_6.length ≤ 9223372036854775807 → (∀ y_ ∈ l0_6, ok94 y_) → ∃ k, contangotop_TopPledgeMoved.f k l0_0 a0_1 a0_2 a0_3 a0_4 l0_5 l0_6 = some true
end Go.Proofs.Ytaiekjimdjlgbaa.Pr
