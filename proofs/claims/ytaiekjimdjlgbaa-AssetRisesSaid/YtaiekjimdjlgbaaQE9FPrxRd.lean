/- Words and lemmas that the printed walks use, without those that these claims don't need. -/
import Derived.Test.YtaiekjimdjlgbaaQE9FP0
import Derived.Test.YtaiekjimdjlgbaaQE9FLmReadKinds
namespace Go.Proofs.Ytaiekjimdjlgbaa.Pr
open Go.RowKit Go.Proofs.YtaiekjimdjlgbaaW.PrintWords Go.Proofs.YtaiekjimdjlgbaaW.PrintLast Go.Proofs.YtaiekjimdjlgbaaW.PrintMore
set_option linter.unusedVariables false
set_option linter.unusedSimpArgs false
def ok23 (x : S23) : Prop := x.f0.size ≤ 9223372036854775807 ∧ (Lit.int .i64 x.f1).wf = true ∧ (Lit.int .i64 x.f2).wf = true ∧ (Lit.int .i64 x.f3).wf = true ∧ (Lit.int .i64 x.f4).wf = true ∧ (Lit.int .i64 x.f5).wf = true
set_option maxRecDepth 100000 in
theorem rdb23 : Rdb Try.prog 23 k23 ok23 := Rdb.iso (Rdb.struct Try.underlying23 (by kernel_rfl) (RdF.cons (off := 0) (L := 6) (Rdb.string Try.underlying9) (RdF.cons (off := 1) (L := 6) (Rdb.int Try.underlying3) (RdF.cons (off := 2) (L := 6) (Rdb.int Try.underlying3) (RdF.cons (off := 3) (L := 6) (Rdb.int Try.underlying3) (RdF.cons (off := 4) (L := 6) (Rdb.int Try.underlying3) (RdF.last (off := 5) (L := 6) (Rdb.int Try.underlying3) (by kernel_rfl)))))))) (fun x : S23 => (x.f0, x.f1, x.f2, x.f3, x.f4, x.f5)) (fun x => ⟨x.1, x.2.1, x.2.2.1, x.2.2.2.1, x.2.2.2.2.1, x.2.2.2.2.2⟩) (fun _ => rfl)
def ok94 (x : S94) : Prop := x.f0.size ≤ 9223372036854775807 ∧ (Lit.int .i64 x.f1).wf = true
set_option maxRecDepth 100000 in
theorem rdb94 : Rdb Try.prog 94 k94 ok94 := Rdb.iso (Rdb.struct Try.underlying94 (by kernel_rfl) (RdF.cons (off := 0) (L := 2) (Rdb.string Try.underlying9) (RdF.last (off := 1) (L := 2) (Rdb.int Try.underlying3) (by kernel_rfl)))) (fun x : S94 => (x.f0, x.f1)) (fun x => ⟨x.1, x.2⟩) (fun _ => rfl)
def ok34 (x : S34) : Prop := (Lit.int .i64 x.f0).wf = true ∧ (Lit.int .i64 x.f1).wf = true
set_option maxRecDepth 100000 in
theorem rdb34 : Rdb Try.prog 34 k34 ok34 := Rdb.iso (Rdb.array Try.underlying34 (by kernel_rfl) (RdF.cons (off := 0) (L := 2) (Rdb.int Try.underlying3) (RdF.last (off := 1) (L := 2) (Rdb.int Try.underlying3) (by kernel_rfl)))) (fun x : S34 => (x.f0, x.f1)) (fun x => ⟨x.1, x.2⟩) (fun _ => rfl)
end Go.Proofs.Ytaiekjimdjlgbaa.Pr
