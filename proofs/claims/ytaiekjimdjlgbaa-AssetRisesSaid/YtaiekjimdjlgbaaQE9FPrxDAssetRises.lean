/- Words and lemmas that the printed walks use, without those that these claims don't need. -/
import Derived.Test.YtaiekjimdjlgbaaQE9FP2
import Derived.Test.YtaiekjimdjlgbaaQE9FPrxRd
namespace Go.Proofs.Ytaiekjimdjlgbaa.Pr
open Go.RowKit Go.Proofs.YtaiekjimdjlgbaaW.PrintWords Go.Proofs.YtaiekjimdjlgbaaW.PrintLast Go.Proofs.YtaiekjimdjlgbaaW.PrintMore
set_option linter.unusedVariables false
set_option linter.unusedSimpArgs false
def contangolaw31_AssetRises.Pure : Prop := ∀ (a0_0 : ByteArray) (a0_1 : Int) (a0_2 : Int) (a0_3 : Int) (a0_4 : Int) (a0_5 : Int) (a1_0 : Int) (a1_1 : Int) (l2 : List (S94)), a0_0.size ≤ 9223372036854775807 → (Lit.int .i64 a0_1).wf = true → (Lit.int .i64 a0_2).wf = true → (Lit.int .i64 a0_3).wf = true → (Lit.int .i64 a0_4).wf = true → (Lit.int .i64 a0_5).wf = true → (Lit.int .i64 a1_0).wf = true → (Lit.int .i64 a1_1).wf = true → l2.length ≤ 9223372036854775807 → l2.length * 24 ≤ 140737488351232 → (∀ y_ ∈ l2, ok94 y_) → ∃ k, contangolaw31_AssetRises.f k a0_0 a0_1 a0_2 a0_3 a0_4 a0_5 a1_0 a1_1 l2 = some true
end Go.Proofs.Ytaiekjimdjlgbaa.Pr
