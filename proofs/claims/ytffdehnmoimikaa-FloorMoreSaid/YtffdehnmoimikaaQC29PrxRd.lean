/- Words and lemmas that the printed walks use, without those that these claims don't need. -/
import Derived.Test.YtffdehnmoimikaaQC29P0
import Derived.Test.YtffdehnmoimikaaQC29LmReadKinds
namespace Go.Proofs.Ytffdehnmoimikaa.Pr
open Go.RowKit Go.Proofs.YtffdehnmoimikaaW.PrintWords Go.Proofs.YtffdehnmoimikaaW.PrintLast Go.Proofs.YtffdehnmoimikaaW.PrintMore
set_option linter.unusedVariables false
set_option linter.unusedSimpArgs false
def ok38 (x : S38) : Prop := x.f0.size ≤ 9223372036854775807 ∧ (Lit.int .i64 x.f1).wf = true ∧ (Lit.int .i64 x.f2).wf = true ∧ (Lit.int .i64 x.f3).wf = true
set_option maxRecDepth 100000 in
theorem rdb38 : Rdb Try.prog 38 k38 ok38 := Rdb.iso (Rdb.struct Try.underlying38 (by kernel_rfl) (RdF.cons (off := 0) (L := 4) (Rdb.string Try.underlying9) (RdF.cons (off := 1) (L := 4) (Rdb.int Try.underlying3) (RdF.cons (off := 2) (L := 4) (Rdb.int Try.underlying3) (RdF.last (off := 3) (L := 4) (Rdb.int Try.underlying3) (by kernel_rfl)))))) (fun x : S38 => (x.f0, x.f1, x.f2, x.f3)) (fun x => ⟨x.1, x.2.1, x.2.2.1, x.2.2.2⟩) (fun _ => rfl)
def ok40 (x : S40) : Prop := ok38 x.f0 ∧ (Lit.int .i64 x.f1).wf = true ∧ (Lit.int .i64 x.f2).wf = true
set_option maxRecDepth 100000 in
theorem rdb40 : Rdb Try.prog 40 k40 ok40 := Rdb.iso (Rdb.struct Try.underlying40 (by kernel_rfl) (RdF.cons (off := 0) (L := 6) rdb38 (RdF.cons (off := 4) (L := 6) (Rdb.int Try.underlying3) (RdF.last (off := 5) (L := 6) (Rdb.int Try.underlying3) (by kernel_rfl))))) (fun x : S40 => (x.f0, x.f1, x.f2)) (fun x => ⟨x.1, x.2.1, x.2.2⟩) (fun _ => rfl)
def ok34 (x : S34) : Prop := (Lit.int .i64 x.f0).wf = true ∧ (Lit.int .i64 x.f1).wf = true ∧ (Lit.int .i64 x.f2).wf = true
set_option maxRecDepth 100000 in
theorem rdb34 : Rdb Try.prog 34 k34 ok34 := Rdb.iso (Rdb.struct Try.underlying34 (by kernel_rfl) (RdF.cons (off := 0) (L := 3) (Rdb.int Try.underlying3) (RdF.cons (off := 1) (L := 3) (Rdb.int Try.underlying3) (RdF.last (off := 2) (L := 3) (Rdb.int Try.underlying3) (by kernel_rfl))))) (fun x : S34 => (x.f0, x.f1, x.f2)) (fun x => ⟨x.1, x.2.1, x.2.2⟩) (fun _ => rfl)
end Go.Proofs.Ytffdehnmoimikaa.Pr
