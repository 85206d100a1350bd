/- Words and lemmas that the printed walks use, without those that these claims don't need. -/
import Derived.Test.YtfcaaefdmabkhaaQ787P0
import Derived.Test.YtfcaaefdmabkhaaQ787LmReadKinds
namespace Go.Proofs.Ytfcaaefdmabkhaa.Pr
open Go.RowKit Go.Proofs.YtfcaaefdmabkhaaW.PrintWords Go.Proofs.YtfcaaefdmabkhaaW.PrintLast Go.Proofs.YtfcaaefdmabkhaaW.PrintMore
set_option linter.unusedVariables false
set_option linter.unusedSimpArgs false
def ok44 (x : S44) : Prop := x.f0.size ≤ 9223372036854775807 ∧ x.f1.size ≤ 9223372036854775807
set_option maxRecDepth 100000 in
theorem rdb44 : Rdb Try.prog 44 k44 ok44 := Rdb.iso (Rdb.struct Try.underlying44 (by kernel_rfl) (RdF.cons (off := 0) (L := 2) (Rdb.string Try.underlying9) (RdF.last (off := 1) (L := 2) (Rdb.string Try.underlying9) (by kernel_rfl)))) (fun x : S44 => (x.f0, x.f1)) (fun x => ⟨x.1, x.2⟩) (fun _ => rfl)
def ok100 (x : S100) : Prop := ok44 x.f0 ∧ (Lit.int .i64 x.f1).wf = true ∧ (Lit.int .i64 x.f2).wf = true ∧ (Lit.int .i64 x.f3).wf = true
set_option maxRecDepth 100000 in
theorem rdb100 : Rdb Try.prog 100 k100 ok100 := Rdb.iso (Rdb.struct Try.underlying100 (by kernel_rfl) (RdF.cons (off := 0) (L := 5) rdb44 (RdF.cons (off := 2) (L := 5) (Rdb.int Try.underlying3) (RdF.cons (off := 3) (L := 5) (Rdb.int Try.underlying3) (RdF.last (off := 4) (L := 5) (Rdb.int Try.underlying3) (by kernel_rfl)))))) (fun x : S100 => (x.f0, x.f1, x.f2, x.f3)) (fun x => ⟨x.1, x.2.1, x.2.2.1, x.2.2.2⟩) (fun _ => rfl)
end Go.Proofs.Ytfcaaefdmabkhaa.Pr
