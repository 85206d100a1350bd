/- Words and lemmas that the printed walks use, without those that these claims don't need. -/
import Derived.Test.YtaiekjimdjlgbaaQ8F2P0
import Derived.Test.YtaiekjimdjlgbaaQ8F2LmReadKinds
namespace Go.Proofs.Ytaiekjimdjlgbaa.Pr
open Go.RowKit Go.Proofs.YtaiekjimdjlgbaaW.PrintWords Go.Proofs.YtaiekjimdjlgbaaW.PrintLast Go.Proofs.YtaiekjimdjlgbaaW.PrintMore
set_option linter.unusedVariables false
set_option linter.unusedSimpArgs false
def ok34 (x : S34) : Prop := (Lit.int .i64 x.f0).wf = true ∧ (Lit.int .i64 x.f1).wf = true
set_option maxRecDepth 100000 in
theorem rdb34 : Rdb Try.prog 34 k34 ok34 := Rdb.iso (Rdb.array Try.underlying34 (by kernel_rfl) (RdF.cons (off := 0) (L := 2) (Rdb.int Try.underlying3) (RdF.last (off := 1) (L := 2) (Rdb.int Try.underlying3) (by kernel_rfl)))) (fun x : S34 => (x.f0, x.f1)) (fun x => ⟨x.1, x.2⟩) (fun _ => rfl)
def ok103 (x : S103) : Prop := (Lit.int .i64 x.f0).wf = true ∧ (Lit.int .i64 x.f1).wf = true
set_option maxRecDepth 100000 in
theorem rdb103 : Rdb Try.prog 103 k103 ok103 := Rdb.iso (Rdb.struct Try.underlying103 (by kernel_rfl) (RdF.cons (off := 0) (L := 2) (Rdb.int Try.underlying3) (RdF.last (off := 1) (L := 2) (Rdb.int Try.underlying3) (by kernel_rfl)))) (fun x : S103 => (x.f0, x.f1)) (fun x => ⟨x.1, x.2⟩) (fun _ => rfl)
end Go.Proofs.Ytaiekjimdjlgbaa.Pr
