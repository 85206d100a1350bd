/- Pledges: what Put and Take answer, by the program and by the reference. -/
import Derived.Test.YtaiekjimdjlgbaaQF9ELmName
import Derived.Test.YtaiekjimdjlgbaaQF9ELmPledge
import Derived.Test.YtaiekjimdjlgbaaQF9EP0
import Derived.Test.YtaiekjimdjlgbaaQF9EP1
import Derived.Test.YtaiekjimdjlgbaaQF9EP3
import Derived.Test.YtaiekjimdjlgbaaQF9EPrxRd
namespace Go.Proofs.Ytaiekjimdjlgbaa.Pr
open Go.RowKit Go.Proofs.Ytaiekjimdjlgbaa.Pr Go.Proofs.YtaiekjimdjlgbaaW.PrintWords Go.Proofs.YtaiekjimdjlgbaaW.PrintLast Go.Proofs.YtaiekjimdjlgbaaW.PrintMore
set_option linter.unusedVariables false
set_option linter.unusedSimpArgs false
theorem pgoes (k : Nat) (hk : 60 ≤ k) : contangolaw32_goes.f k = some true := at_rounds contangolaw32_goes.mono hk (by decide +kernel)
theorem pok_big {l : List Pled} (h : ∀ p ∈ l, ok85 p) : ∀ p ∈ l, bigOk p := fun p hp => ⟨(h p hp).1.1, (h p hp).1.2, (h p hp).2.1⟩
end Go.Proofs.Ytaiekjimdjlgbaa.Pr
