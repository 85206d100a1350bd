/- Words and lemmas that the printed walks use, without those that these claims don't need. -/
import Derived.Test.YtgnmhfjfefgbfaaQ10EP0
import Derived.Test.YtgnmhfjfefgbfaaQ10ELmReadKinds
namespace Go.Proofs.Ytgnmhfjfefgbfaa.Pr
open Go.RowKit Go.Proofs.YtgnmhfjfefgbfaaW.PrintWords Go.Proofs.YtgnmhfjfefgbfaaW.PrintLast Go.Proofs.YtgnmhfjfefgbfaaW.PrintMore
set_option linter.unusedVariables false
set_option linter.unusedSimpArgs false
set_option maxRecDepth 100000
def ok69 (x : S69) : Prop := x.f0.size ≤ 9223372036854775807 ∧ (Lit.int .i64 x.f1).wf = true ∧ (Lit.int .i64 x.f2).wf = true ∧ (Lit.int .i64 x.f3).wf = true
theorem rdb69 : Rdb Try.prog 69 k69 ok69 := Rdb.iso (Rdb.struct Try.underlying69 (by kernel_rfl) (RdF.cons (off := 0) (L := 4) (Rdb.string Try.underlying9) (RdF.cons (off := 1) (L := 4) (Rdb.int Try.underlying3) (RdF.cons (off := 2) (L := 4) (Rdb.int Try.underlying3) (RdF.last (off := 3) (L := 4) (Rdb.int Try.underlying3) (by kernel_rfl)))))) (fun x : S69 => (x.f0, x.f1, x.f2, x.f3)) (fun x => ⟨x.1, x.2.1, x.2.2.1, x.2.2.2⟩) (fun _ => rfl)
def ok71 (x : S71) : Prop := ok69 x.f0 ∧ (Lit.int .i64 x.f1).wf = true ∧ (Lit.int .i64 x.f2).wf = true
theorem rdb71 : Rdb Try.prog 71 k71 ok71 := Rdb.iso (Rdb.struct Try.underlying71 (by kernel_rfl) (RdF.cons (off := 0) (L := 6) rdb69 (RdF.cons (off := 4) (L := 6) (Rdb.int Try.underlying3) (RdF.last (off := 5) (L := 6) (Rdb.int Try.underlying3) (by kernel_rfl))))) (fun x : S71 => (x.f0, x.f1, x.f2)) (fun x => ⟨x.1, x.2.1, x.2.2⟩) (fun _ => rfl)
def ok128 (x : S128) : Prop := ok69 x.f0 ∧ (∀ y_ ∈ x.f1, (Lit.int .i64 y_).wf = true) ∧ (Lit.int .i64 x.f2).wf = true
theorem rdb128 : Rdb Try.prog 128 k128 ok128 := Rdb.iso (Rdb.struct Try.underlying128 (by kernel_rfl) (RdF.cons (off := 0) (L := 6) rdb69 (RdF.cons (off := 4) (L := 6) (Rdb.slice Try.underlying32 (by kernel_rfl) (Rdb.int Try.underlying3)) (RdF.last (off := 5) (L := 6) (Rdb.int Try.underlying3) (by kernel_rfl))))) (fun x : S128 => (x.f0, x.f1, x.f2)) (fun x => ⟨x.1, x.2.1, x.2.2⟩) (fun _ => rfl)
end Go.Proofs.Ytgnmhfjfefgbfaa.Pr
