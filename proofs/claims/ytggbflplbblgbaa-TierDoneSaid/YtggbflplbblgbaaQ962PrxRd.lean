/- Words and lemmas that the printed walks use, without those that these claims don't need. -/
import Derived.Test.YtggbflplbblgbaaQ962P0
import Derived.Test.YtggbflplbblgbaaQ962LmReadKinds
namespace Go.Proofs.Ytggbflplbblgbaa.Pr
open Go.RowKit Go.Proofs.YtggbflplbblgbaaW.PrintWords Go.Proofs.YtggbflplbblgbaaW.PrintLast Go.Proofs.YtggbflplbblgbaaW.PrintMore
set_option linter.unusedVariables false
set_option linter.unusedSimpArgs false
def ok91 (x : S91) : Prop := (Lit.int .i64 x.f0).wf = true ∧ (Lit.int .i64 x.f1).wf = true ∧ (Lit.int .i64 x.f2).wf = true
set_option maxRecDepth 100000 in
theorem rdb91 : Rdb Try.prog 91 k91 ok91 := Rdb.iso (Rdb.struct Try.underlying91 (by kernel_rfl) (RdF.cons (off := 0) (L := 3) (Rdb.int Try.underlying3) (RdF.cons (off := 1) (L := 3) (Rdb.int Try.underlying3) (RdF.last (off := 2) (L := 3) (Rdb.int Try.underlying3) (by kernel_rfl))))) (fun x : S91 => (x.f0, x.f1, x.f2)) (fun x => ⟨x.1, x.2.1, x.2.2⟩) (fun _ => rfl)
end Go.Proofs.Ytggbflplbblgbaa.Pr
