/- Words and lemmas that the printed walks use, without those that these claims don't need. -/
import Derived.Test.YtggbflplbblgbaaQ58CP0
import Derived.Test.YtggbflplbblgbaaQ58CLmReadKinds
namespace Go.Proofs.Ytggbflplbblgbaa.Pr
open Go.RowKit Go.Proofs.YtggbflplbblgbaaW.PrintWords Go.Proofs.YtggbflplbblgbaaW.PrintLast Go.Proofs.YtggbflplbblgbaaW.PrintMore
set_option linter.unusedVariables false
set_option linter.unusedSimpArgs false
def ok24 (x : S24) : Prop := x.f0.size ≤ 9223372036854775807 ∧ x.f1.size ≤ 9223372036854775807
set_option maxRecDepth 100000 in
theorem rdb24 : Rdb Try.prog 24 k24 ok24 := Rdb.iso (Rdb.struct Try.underlying24 (by kernel_rfl) (RdF.cons (off := 0) (L := 2) (Rdb.string Try.underlying9) (RdF.last (off := 1) (L := 2) (Rdb.string Try.underlying9) (by kernel_rfl)))) (fun x : S24 => (x.f0, x.f1)) (fun x => ⟨x.1, x.2⟩) (fun _ => rfl)
def ok26 (x : S26) : Prop := ok24 x.f0 ∧ x.f1.size ≤ 9223372036854775807 ∧ (Lit.int .i64 x.f2).wf = true
set_option maxRecDepth 100000 in
theorem rdb26 : Rdb Try.prog 26 k26 ok26 := Rdb.iso (Rdb.struct Try.underlying26 (by kernel_rfl) (RdF.cons (off := 0) (L := 4) rdb24 (RdF.cons (off := 2) (L := 4) (Rdb.string Try.underlying9) (RdF.last (off := 3) (L := 4) (Rdb.int Try.underlying3) (by kernel_rfl))))) (fun x : S26 => (x.f0, x.f1, x.f2)) (fun x => ⟨x.1, x.2.1, x.2.2⟩) (fun _ => rfl)
end Go.Proofs.Ytggbflplbblgbaa.Pr
