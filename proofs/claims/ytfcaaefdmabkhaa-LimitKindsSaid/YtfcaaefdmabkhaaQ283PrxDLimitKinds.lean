/- Words and lemmas that the printed walks use, without those that these claims don't need. -/
import Derived.Test.YtfcaaefdmabkhaaQ283P8
import Derived.Test.YtfcaaefdmabkhaaQ283PrxRd
namespace Go.Proofs.Ytfcaaefdmabkhaa.Pr
open Go.RowKit Go.Proofs.YtfcaaefdmabkhaaW.PrintWords Go.Proofs.YtfcaaefdmabkhaaW.PrintLast Go.Proofs.YtfcaaefdmabkhaaW.PrintMore
set_option linter.unusedVariables false
set_option linter.unusedSimpArgs false
def contangolaw33_LimitKinds.Pure : Prop := ∀ (l0_0 : List (S46)) (a0_1 : ByteArray) (a0_2 : ByteArray) (a0_3 : Int) (l0_4 : List (S84)) (l0_5 : List (S98)), l0_0.length ≤ 9223372036854775807 → (∀ y_ ∈ l0_0, ok46 y_) → a0_1.size ≤ 9223372036854775807 → a0_2.size ≤ 9223372036854775807 → (Lit.int .i64 a0_3).wf = true → l0_4.length ≤ 9223372036854775807 → (∀ y_ ∈ l0_4, ok84 y_) → l0_5.length ≤ 9223372036854775807 → (∀ y_ ∈ l0_5, ok98 y_) → ∃ k, contangolaw33_LimitKinds.f k l0_0 a0_1 a0_2 a0_3 l0_4 l0_5 = some true
end Go.Proofs.Ytfcaaefdmabkhaa.Pr
