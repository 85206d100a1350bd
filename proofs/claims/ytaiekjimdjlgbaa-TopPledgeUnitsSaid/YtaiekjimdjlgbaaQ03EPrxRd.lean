/- Words and lemmas that the printed walks use, without those that these claims don't need. -/
import Derived.Test.YtaiekjimdjlgbaaQ03EP0
import Derived.Test.YtaiekjimdjlgbaaQ03ELmReadKinds
namespace Go.Proofs.Ytaiekjimdjlgbaa.Pr
open Go.RowKit Go.Proofs.YtaiekjimdjlgbaaW.PrintWords Go.Proofs.YtaiekjimdjlgbaaW.PrintLast Go.Proofs.YtaiekjimdjlgbaaW.PrintMore
set_option linter.unusedVariables false
set_option linter.unusedSimpArgs false
def ok23 (x : S23) : Prop := x.f0.size ≤ 9223372036854775807 ∧ (Lit.int .i64 x.f1).wf = true ∧ (Lit.int .i64 x.f2).wf = true ∧ (Lit.int .i64 x.f3).wf = true ∧ (Lit.int .i64 x.f4).wf = true ∧ (Lit.int .i64 x.f5).wf = true
set_option maxRecDepth 100000 in
theorem rdb23 : Rdb Try.prog 23 k23 ok23 := Rdb.iso (Rdb.struct Try.underlying23 (by kernel_rfl) (RdF.cons (off := 0) (L := 6) (Rdb.string Try.underlying9) (RdF.cons (off := 1) (L := 6) (Rdb.int Try.underlying3) (RdF.cons (off := 2) (L := 6) (Rdb.int Try.underlying3) (RdF.cons (off := 3) (L := 6) (Rdb.int Try.underlying3) (RdF.cons (off := 4) (L := 6) (Rdb.int Try.underlying3) (RdF.last (off := 5) (L := 6) (Rdb.int Try.underlying3) (by kernel_rfl)))))))) (fun x : S23 => (x.f0, x.f1, x.f2, x.f3, x.f4, x.f5)) (fun x => ⟨x.1, x.2.1, x.2.2.1, x.2.2.2.1, x.2.2.2.2.1, x.2.2.2.2.2⟩) (fun _ => rfl)
def ok94 (x : S94) : Prop := x.f0.size ≤ 9223372036854775807 ∧ (Lit.int .i64 x.f1).wf = true
set_option maxRecDepth 100000 in
theorem rdb94 : Rdb Try.prog 94 k94 ok94 := Rdb.iso (Rdb.struct Try.underlying94 (by kernel_rfl) (RdF.cons (off := 0) (L := 2) (Rdb.string Try.underlying9) (RdF.last (off := 1) (L := 2) (Rdb.int Try.underlying3) (by kernel_rfl)))) (fun x : S94 => (x.f0, x.f1)) (fun x => ⟨x.1, x.2⟩) (fun _ => rfl)
def ok67 (x : S67) : Prop := x.f0.size ≤ 9223372036854775807 ∧ x.f1.size ≤ 9223372036854775807
set_option maxRecDepth 100000 in
theorem rdb67 : Rdb Try.prog 67 k67 ok67 := Rdb.iso (Rdb.struct Try.underlying67 (by kernel_rfl) (RdF.cons (off := 0) (L := 2) (Rdb.string Try.underlying9) (RdF.last (off := 1) (L := 2) (Rdb.string Try.underlying9) (by kernel_rfl)))) (fun x : S67 => (x.f0, x.f1)) (fun x => ⟨x.1, x.2⟩) (fun _ => rfl)
def ok74 (x : S74) : Prop := ok23 x.f0 ∧ (Lit.int .i64 x.f1).wf = true ∧ (∀ y_ ∈ x.f2, ok94 y_) ∧ ok67 x.f3
set_option maxRecDepth 100000 in
theorem rdb74 : Rdb Try.prog 74 k74 ok74 := Rdb.iso (Rdb.struct Try.underlying74 (by kernel_rfl) (RdF.cons (off := 0) (L := 10) rdb23 (RdF.cons (off := 6) (L := 10) (Rdb.int Try.underlying3) (RdF.cons (off := 7) (L := 10) (Rdb.slice Try.underlying24 (by kernel_rfl) rdb94) (RdF.last (off := 8) (L := 10) rdb67 (by kernel_rfl)))))) (fun x : S74 => (x.f0, x.f1, x.f2, x.f3)) (fun x => ⟨x.1, x.2.1, x.2.2.1, x.2.2.2⟩) (fun _ => rfl)
end Go.Proofs.Ytaiekjimdjlgbaa.Pr
