/- Words and lemmas that the printed walks use, without those that these claims don't need. -/
import Derived.Test.YtfcaaefdmabkhaaQ1A6P7
import Derived.Test.YtfcaaefdmabkhaaQ1A6PrxRd
namespace Go.Proofs.Ytfcaaefdmabkhaa.Pr
open Go.RowKit Go.Proofs.YtfcaaefdmabkhaaW.PrintWords Go.Proofs.YtfcaaefdmabkhaaW.PrintLast Go.Proofs.YtfcaaefdmabkhaaW.PrintMore
set_option linter.unusedVariables false
set_option linter.unusedSimpArgs false
def contangotop_TopCoverCloses.Pure : Prop := ∀ (a0_0 : ByteArray) (a0_1 : ByteArray) (a0_2 : Int) (a0_3 : Int) (a0_4 : Int) (a0_5 : Int) (a0_6 : Int) (a0_7 : Int) (a0_8 : Int) (l0_9 : List (S46)) (l0_10 : List (S84)) (l0_11 : List (S98)) (a0_12 : ByteArray), a0_0.size ≤ 9223372036854775807 → a0_1.size ≤ 9223372036854775807 → (Lit.int .i64 a0_2).wf = true → (Lit.int .i64 a0_3).wf = true → (Lit.int .i64 a0_4).wf = true → (Lit.int .i64 a0_5).wf = true → (Lit.int .i64 a0_6).wf = true → (Lit.int .i64 a0_7).wf = true → (Lit.int .i64 a0_8).wf = true → l0_9.length ≤ 9223372036854775807 → (∀ y_ ∈ l0_9, ok46 y_) → l0_10.length ≤ 9223372036854775807 → (∀ y_ ∈ l0_10, ok84 y_) → l0_11.length ≤ 9223372036854775807 → (∀ y_ ∈ l0_11, ok98 y_) → a0_12.size ≤ 9223372036854775807 → ∃ k, contangotop_TopCoverCloses.f k a0_0 a0_1 a0_2 a0_3 a0_4 a0_5 a0_6 a0_7 a0_8 l0_9 l0_10 l0_11 a0_12 = some true
end Go.Proofs.Ytfcaaefdmabkhaa.Pr
