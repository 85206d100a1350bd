/- Words and lemmas that the printed walks use, without those that these claims don't need. -/
import Derived.Test.YtaiekjimdjlgbaaQ2BBP0
import Derived.Test.YtaiekjimdjlgbaaQ2BBLmReadKinds
namespace Go.Proofs.Ytaiekjimdjlgbaa.Pr
open Go.RowKit Go.Proofs.YtaiekjimdjlgbaaW.PrintWords Go.Proofs.YtaiekjimdjlgbaaW.PrintLast Go.Proofs.YtaiekjimdjlgbaaW.PrintMore
set_option linter.unusedVariables false
set_option linter.unusedSimpArgs false
def ok58 (x : S58) : Prop := x.f0.size ≤ 9223372036854775807 ∧ (Lit.int .i64 x.f1).wf = true ∧ (Lit.int .i64 x.f2).wf = true ∧ (Lit.int .i64 x.f3).wf = true
set_option maxRecDepth 100000 in
theorem rdb58 : Rdb Try.prog 58 k58 ok58 := Rdb.iso (Rdb.struct Try.underlying58 (by kernel_rfl) (RdF.cons (off := 0) (L := 4) (Rdb.string Try.underlying9) (RdF.cons (off := 1) (L := 4) (Rdb.int Try.underlying3) (RdF.cons (off := 2) (L := 4) (Rdb.int Try.underlying3) (RdF.last (off := 3) (L := 4) (Rdb.int Try.underlying3) (by kernel_rfl)))))) (fun x : S58 => (x.f0, x.f1, x.f2, x.f3)) (fun x => ⟨x.1, x.2.1, x.2.2.1, x.2.2.2⟩) (fun _ => rfl)
def ok109 (x : S109) : Prop := ok58 x.f0 ∧ (Lit.int .i64 x.f1).wf = true ∧ (Lit.int .i64 x.f2).wf = true
set_option maxRecDepth 100000 in
theorem rdb109 : Rdb Try.prog 109 k109 ok109 := Rdb.iso (Rdb.struct Try.underlying109 (by kernel_rfl) (RdF.cons (off := 0) (L := 6) rdb58 (RdF.cons (off := 4) (L := 6) (Rdb.int Try.underlying3) (RdF.last (off := 5) (L := 6) (Rdb.int Try.underlying3) (by kernel_rfl))))) (fun x : S109 => (x.f0, x.f1, x.f2)) (fun x => ⟨x.1, x.2.1, x.2.2⟩) (fun _ => rfl)
end Go.Proofs.Ytaiekjimdjlgbaa.Pr
