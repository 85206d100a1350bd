/- Words and lemmas that the printed walks use, without those that these claims don't need. -/
import Derived.Test.YtaiekjimdjlgbaaQ03EP8
import Derived.Test.YtaiekjimdjlgbaaQ03EPrxRd
namespace Go.Proofs.Ytaiekjimdjlgbaa.Pr
open Go.RowKit Go.Proofs.YtaiekjimdjlgbaaW.PrintWords Go.Proofs.YtaiekjimdjlgbaaW.PrintLast Go.Proofs.YtaiekjimdjlgbaaW.PrintMore
set_option linter.unusedVariables false
set_option linter.unusedSimpArgs false
def contangotop_TopPledgeUnits.Pure : Prop := ∀ (a0_0 : ByteArray) (a0_1 : Int) (a0_2 : Int) (a0_3 : Int) (a0_4 : Int) (a0_5 : Int) (a0_6 : Int) (l0_7 : List (S94)) (a0_8 : ByteArray) (a0_9 : ByteArray), a0_0.size ≤ 9223372036854775807 → (Lit.int .i64 a0_1).wf = true → (Lit.int .i64 a0_2).wf = true → (Lit.int .i64 a0_3).wf = true → (Lit.int .i64 a0_4).wf = true → (Lit.int .i64 a0_5).wf = true → (Lit.int .i64 a0_6).wf = true → l0_7.length ≤ 9223372036854775807 → (∀ y_ ∈ l0_7, ok94 y_) → a0_8.size ≤ 9223372036854775807 → a0_9.size ≤ 9223372036854775807 → ∃ k, contangotop_TopPledgeUnits.f k a0_0 a0_1 a0_2 a0_3 a0_4 a0_5 a0_6 l0_7 a0_8 a0_9 = some true
end Go.Proofs.Ytaiekjimdjlgbaa.Pr
