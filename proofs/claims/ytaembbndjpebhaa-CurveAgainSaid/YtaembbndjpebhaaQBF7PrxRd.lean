/- Words and lemmas that the printed walks use, without those that these claims don't need. -/
import Derived.Test.YtaembbndjpebhaaQBF7P0
import Derived.Test.YtaembbndjpebhaaQBF7LmReadKinds
namespace Go.Proofs.Ytaembbndjpebhaa.Pr
open Go.RowKit Go.Proofs.YtaembbndjpebhaaW.PrintWords Go.Proofs.YtaembbndjpebhaaW.PrintLast Go.Proofs.YtaembbndjpebhaaW.PrintMore
set_option linter.unusedVariables false
set_option linter.unusedSimpArgs false
set_option maxRecDepth 100000
def ok44 (x : S44) : Prop := (Lit.int .i64 x.f0).wf = true ∧ (Lit.int .i64 x.f1).wf = true
theorem rdb44 : Rdb Try.prog 44 k44 ok44 := Rdb.iso (Rdb.array Try.underlying44 (by kernel_rfl) (RdF.cons (off := 0) (L := 2) (Rdb.int Try.underlying3) (RdF.last (off := 1) (L := 2) (Rdb.int Try.underlying3) (by kernel_rfl)))) (fun x : S44 => (x.f0, x.f1)) (fun x => ⟨x.1, x.2⟩) (fun _ => rfl)
def ok56 (x : S56) : Prop := (Lit.int .i64 x.f0).wf = true ∧ (Lit.int .i64 x.f1).wf = true ∧ True
theorem rdb56 : Rdb Try.prog 56 k56 ok56 := Rdb.iso (Rdb.struct Try.underlying56 (by kernel_rfl) (RdF.cons (off := 0) (L := 3) (Rdb.int Try.underlying3) (RdF.cons (off := 1) (L := 3) (Rdb.int Try.underlying3) (RdF.last (off := 2) (L := 3) (Rdb.bool Try.underlying4) (by kernel_rfl))))) (fun x : S56 => (x.f0, x.f1, x.f2)) (fun x => ⟨x.1, x.2.1, x.2.2⟩) (fun _ => rfl)
def ok63 (x : S63) : Prop := (Lit.int .i64 x.f0).wf = true ∧ (Lit.int .i64 x.f1).wf = true ∧ (Lit.int .i64 x.f2).wf = true
theorem rdb63 : Rdb Try.prog 63 k63 ok63 := Rdb.iso (Rdb.struct Try.underlying63 (by kernel_rfl) (RdF.cons (off := 0) (L := 3) (Rdb.int Try.underlying3) (RdF.cons (off := 1) (L := 3) (Rdb.int Try.underlying3) (RdF.last (off := 2) (L := 3) (Rdb.int Try.underlying3) (by kernel_rfl))))) (fun x : S63 => (x.f0, x.f1, x.f2)) (fun x => ⟨x.1, x.2.1, x.2.2⟩) (fun _ => rfl)
end Go.Proofs.Ytaembbndjpebhaa.Pr
