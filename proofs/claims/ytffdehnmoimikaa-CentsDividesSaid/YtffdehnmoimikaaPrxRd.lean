-- printed by xprint.py, a program of this session (wip/tool), which drives the print. Lean checks it.
import Derived.Test.YtffdehnmoimikaaPrx0
import Derived.Test.YtffdehnmoimikaaLmReadKinds
namespace Go.Proofs.Ytffdehnmoimikaa.Pr
open Go.RowKit Go.Proofs.YtffdehnmoimikaaW.PrintWords Go.Proofs.YtffdehnmoimikaaW.PrintLast Go.Proofs.YtffdehnmoimikaaW.PrintMore
set_option linter.unusedVariables false
set_option linter.unusedSimpArgs false
def ok48 (x : S48) : Prop := (Lit.int .i64 x.f0).wf = true ∧ (Lit.int .i64 x.f1).wf = true ∧ (Lit.int .i64 x.f2).wf = true
theorem rdb48 : Rdb Try.prog 48 k48 ok48 := Rdb.iso (Rdb.array Try.underlying48 (by kernel_rfl) (RdF.cons (off := 0) (L := 3) (Rdb.int Try.underlying3) (RdF.cons (off := 1) (L := 3) (Rdb.int Try.underlying3) (RdF.last (off := 2) (L := 3) (Rdb.int Try.underlying3) (by kernel_rfl))))) (fun x : S48 => (x.f0, x.f1, x.f2)) (fun x => ⟨x.1, x.2.1, x.2.2⟩) (fun _ => rfl)
end Go.Proofs.Ytffdehnmoimikaa.Pr
