/- Words and lemmas that the printed walks use, without those that these claims don't need. -/
import Derived.Test.YtggbflplbblgbaaQ482P0
import Derived.Test.YtggbflplbblgbaaQ482LmReadKinds
namespace Go.Proofs.Ytggbflplbblgbaa.Pr
open Go.RowKit Go.Proofs.YtggbflplbblgbaaW.PrintWords Go.Proofs.YtggbflplbblgbaaW.PrintLast Go.Proofs.YtggbflplbblgbaaW.PrintMore
set_option linter.unusedVariables false
set_option linter.unusedSimpArgs false
def ok67 (x : S67) : Prop := (∀ y_ ∈ x.f0, y_.size ≤ 9223372036854775807) ∧ (∀ y_ ∈ x.f1, (Lit.int .i64 y_).wf = true) ∧ (∀ y_ ∈ x.f2, (Lit.int .i64 y_).wf = true)
set_option maxRecDepth 100000 in
theorem rdb67 : Rdb Try.prog 67 k67 ok67 := Rdb.iso (Rdb.struct Try.underlying67 (by kernel_rfl) (RdF.cons (off := 0) (L := 3) (Rdb.slice Try.underlying65 (by kernel_rfl) (Rdb.string Try.underlying9)) (RdF.cons (off := 1) (L := 3) (Rdb.slice Try.underlying46 (by kernel_rfl) (Rdb.int Try.underlying3)) (RdF.last (off := 2) (L := 3) (Rdb.slice Try.underlying46 (by kernel_rfl) (Rdb.int Try.underlying3)) (by kernel_rfl))))) (fun x : S67 => (x.f0, x.f1, x.f2)) (fun x => ⟨x.1, x.2.1, x.2.2⟩) (fun _ => rfl)
def ok75 (x : S75) : Prop := x.f0.size ≤ 9223372036854775807 ∧ x.f1.size ≤ 9223372036854775807 ∧ (Lit.int .i64 x.f2).wf = true ∧ (Lit.int .i64 x.f3).wf = true ∧ (Lit.int .i64 x.f4).wf = true
set_option maxRecDepth 100000 in
theorem rdb75 : Rdb Try.prog 75 k75 ok75 := Rdb.iso (Rdb.struct Try.underlying75 (by kernel_rfl) (RdF.cons (off := 0) (L := 5) (Rdb.string Try.underlying9) (RdF.cons (off := 1) (L := 5) (Rdb.string Try.underlying9) (RdF.cons (off := 2) (L := 5) (Rdb.int Try.underlying3) (RdF.cons (off := 3) (L := 5) (Rdb.int Try.underlying3) (RdF.last (off := 4) (L := 5) (Rdb.int Try.underlying3) (by kernel_rfl))))))) (fun x : S75 => (x.f0, x.f1, x.f2, x.f3, x.f4)) (fun x => ⟨x.1, x.2.1, x.2.2.1, x.2.2.2.1, x.2.2.2.2⟩) (fun _ => rfl)
end Go.Proofs.Ytggbflplbblgbaa.Pr
