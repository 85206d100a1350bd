/- Words and lemmas that the printed walks use, without those that these claims don't need. -/
import Derived.Test.YtgnmhfjfefgbfaaQ789P0
import Derived.Test.YtgnmhfjfefgbfaaQ789LmReadKinds
namespace Go.Proofs.Ytgnmhfjfefgbfaa.Pr
open Go.RowKit Go.Proofs.YtgnmhfjfefgbfaaW.PrintWords Go.Proofs.YtgnmhfjfefgbfaaW.PrintLast Go.Proofs.YtgnmhfjfefgbfaaW.PrintMore
set_option linter.unusedVariables false
set_option linter.unusedSimpArgs false
set_option maxRecDepth 100000
def ok69 (x : S69) : Prop := x.f0.size ≤ 9223372036854775807 ∧ (Lit.int .i64 x.f1).wf = true ∧ (Lit.int .i64 x.f2).wf = true ∧ (Lit.int .i64 x.f3).wf = true
theorem rdb69 : Rdb Try.prog 69 k69 ok69 := Rdb.iso (Rdb.struct Try.underlying69 (by kernel_rfl) (RdF.cons (off := 0) (L := 4) (Rdb.string Try.underlying9) (RdF.cons (off := 1) (L := 4) (Rdb.int Try.underlying3) (RdF.cons (off := 2) (L := 4) (Rdb.int Try.underlying3) (RdF.last (off := 3) (L := 4) (Rdb.int Try.underlying3) (by kernel_rfl)))))) (fun x : S69 => (x.f0, x.f1, x.f2, x.f3)) (fun x => ⟨x.1, x.2.1, x.2.2.1, x.2.2.2⟩) (fun _ => rfl)
def ok71 (x : S71) : Prop := ok69 x.f0 ∧ (Lit.int .i64 x.f1).wf = true ∧ (Lit.int .i64 x.f2).wf = true
theorem rdb71 : Rdb Try.prog 71 k71 ok71 := Rdb.iso (Rdb.struct Try.underlying71 (by kernel_rfl) (RdF.cons (off := 0) (L := 6) rdb69 (RdF.cons (off := 4) (L := 6) (Rdb.int Try.underlying3) (RdF.last (off := 5) (L := 6) (Rdb.int Try.underlying3) (by kernel_rfl))))) (fun x : S71 => (x.f0, x.f1, x.f2)) (fun x => ⟨x.1, x.2.1, x.2.2⟩) (fun _ => rfl)
def ok26 (x : S26) : Prop := (∀ y_ ∈ x.f0, ok69 y_) ∧ (∀ y_ ∈ x.f1, (∀ y__ ∈ y_, (Lit.int .i64 y__).wf = true)) ∧ (Lit.int .i64 x.f2).wf = true
theorem rdb26 : Rdb Try.prog 26 k26 ok26 := Rdb.iso (Rdb.struct Try.underlying26 (by kernel_rfl) (RdF.cons (off := 0) (L := 3) (Rdb.slice Try.underlying23 (by kernel_rfl) rdb69) (RdF.cons (off := 1) (L := 3) (Rdb.slice Try.underlying24 (by kernel_rfl) (Rdb.slice Try.underlying32 (by kernel_rfl) (Rdb.int Try.underlying3))) (RdF.last (off := 2) (L := 3) (Rdb.int Try.underlying3) (by kernel_rfl))))) (fun x : S26 => (x.f0, x.f1, x.f2)) (fun x => ⟨x.1, x.2.1, x.2.2⟩) (fun _ => rfl)
end Go.Proofs.Ytgnmhfjfefgbfaa.Pr
