/- Words and lemmas that the printed walks use, without those that these claims don't need. -/
import Derived.Test.YtgnmhfjfefgbfaaQ5C0P0
import Derived.Test.YtgnmhfjfefgbfaaQ5C0LmReadKinds
namespace Go.Proofs.Ytgnmhfjfefgbfaa.Pr
open Go.RowKit Go.Proofs.YtgnmhfjfefgbfaaW.PrintWords Go.Proofs.YtgnmhfjfefgbfaaW.PrintLast Go.Proofs.YtgnmhfjfefgbfaaW.PrintMore
set_option linter.unusedVariables false
set_option linter.unusedSimpArgs false
set_option maxRecDepth 100000
def ok69 (x : S69) : Prop := x.f0.size ≤ 9223372036854775807 ∧ (Lit.int .i64 x.f1).wf = true ∧ (Lit.int .i64 x.f2).wf = true ∧ (Lit.int .i64 x.f3).wf = true
theorem rdb69 : Rdb Try.prog 69 k69 ok69 := Rdb.iso (Rdb.struct Try.underlying69 (by kernel_rfl) (RdF.cons (off := 0) (L := 4) (Rdb.string Try.underlying9) (RdF.cons (off := 1) (L := 4) (Rdb.int Try.underlying3) (RdF.cons (off := 2) (L := 4) (Rdb.int Try.underlying3) (RdF.last (off := 3) (L := 4) (Rdb.int Try.underlying3) (by kernel_rfl)))))) (fun x : S69 => (x.f0, x.f1, x.f2, x.f3)) (fun x => ⟨x.1, x.2.1, x.2.2.1, x.2.2.2⟩) (fun _ => rfl)
def ok71 (x : S71) : Prop := ok69 x.f0 ∧ (Lit.int .i64 x.f1).wf = true ∧ (Lit.int .i64 x.f2).wf = true
theorem rdb71 : Rdb Try.prog 71 k71 ok71 := Rdb.iso (Rdb.struct Try.underlying71 (by kernel_rfl) (RdF.cons (off := 0) (L := 6) rdb69 (RdF.cons (off := 4) (L := 6) (Rdb.int Try.underlying3) (RdF.last (off := 5) (L := 6) (Rdb.int Try.underlying3) (by kernel_rfl))))) (fun x : S71 => (x.f0, x.f1, x.f2)) (fun x => ⟨x.1, x.2.1, x.2.2⟩) (fun _ => rfl)
def ok128 (x : S128) : Prop := ok69 x.f0 ∧ (∀ y_ ∈ x.f1, (Lit.int .i64 y_).wf = true) ∧ (Lit.int .i64 x.f2).wf = true
theorem rdb128 : Rdb Try.prog 128 k128 ok128 := Rdb.iso (Rdb.struct Try.underlying128 (by kernel_rfl) (RdF.cons (off := 0) (L := 6) rdb69 (RdF.cons (off := 4) (L := 6) (Rdb.slice Try.underlying32 (by kernel_rfl) (Rdb.int Try.underlying3)) (RdF.last (off := 5) (L := 6) (Rdb.int Try.underlying3) (by kernel_rfl))))) (fun x : S128 => (x.f0, x.f1, x.f2)) (fun x => ⟨x.1, x.2.1, x.2.2⟩) (fun _ => rfl)
def ok146 (x : S146) : Prop := (Lit.int .i64 x.f0).wf = true ∧ (Lit.int .i64 x.f1).wf = true ∧ (Lit.int .i64 x.f2).wf = true
theorem rdb146 : Rdb Try.prog 146 k146 ok146 := Rdb.iso (Rdb.struct Try.underlying146 (by kernel_rfl) (RdF.cons (off := 0) (L := 3) (Rdb.int Try.underlying3) (RdF.cons (off := 1) (L := 3) (Rdb.int Try.underlying3) (RdF.last (off := 2) (L := 3) (Rdb.int Try.underlying3) (by kernel_rfl))))) (fun x : S146 => (x.f0, x.f1, x.f2)) (fun x => ⟨x.1, x.2.1, x.2.2⟩) (fun _ => rfl)
def ok152 (x : S152) : Prop := x.f0.size ≤ 9223372036854775807 ∧ x.f1.size ≤ 9223372036854775807 ∧ (Lit.int .i64 x.f2).wf = true ∧ (Lit.int .i64 x.f3).wf = true ∧ (Lit.int .i64 x.f4).wf = true
theorem rdb152 : Rdb Try.prog 152 k152 ok152 := Rdb.iso (Rdb.struct Try.underlying152 (by kernel_rfl) (RdF.cons (off := 0) (L := 5) (Rdb.string Try.underlying9) (RdF.cons (off := 1) (L := 5) (Rdb.string Try.underlying9) (RdF.cons (off := 2) (L := 5) (Rdb.int Try.underlying3) (RdF.cons (off := 3) (L := 5) (Rdb.int Try.underlying3) (RdF.last (off := 4) (L := 5) (Rdb.int Try.underlying3) (by kernel_rfl))))))) (fun x : S152 => (x.f0, x.f1, x.f2, x.f3, x.f4)) (fun x => ⟨x.1, x.2.1, x.2.2.1, x.2.2.2.1, x.2.2.2.2⟩) (fun _ => rfl)
def ok42 (x : S42) : Prop := (∀ y_ ∈ x.f0, ok128 y_) ∧ (∀ y_ ∈ x.f1, ok146 y_) ∧ (∀ y_ ∈ x.f2, ok152 y_)
theorem rdb42 : Rdb Try.prog 42 k42 ok42 := Rdb.iso (Rdb.struct Try.underlying42 (by kernel_rfl) (RdF.cons (off := 0) (L := 3) (Rdb.slice Try.underlying38 (by kernel_rfl) rdb128) (RdF.cons (off := 1) (L := 3) (Rdb.slice Try.underlying39 (by kernel_rfl) rdb146) (RdF.last (off := 2) (L := 3) (Rdb.slice Try.underlying40 (by kernel_rfl) rdb152) (by kernel_rfl))))) (fun x : S42 => (x.f0, x.f1, x.f2)) (fun x => ⟨x.1, x.2.1, x.2.2⟩) (fun _ => rfl)
end Go.Proofs.Ytgnmhfjfefgbfaa.Pr
