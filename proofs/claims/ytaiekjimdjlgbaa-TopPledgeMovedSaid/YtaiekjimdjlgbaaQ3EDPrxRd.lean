/- Words and lemmas that the printed walks use, without those that these claims don't need. -/
import Derived.Test.YtaiekjimdjlgbaaQ3EDP0
import Derived.Test.YtaiekjimdjlgbaaQ3EDLmReadKinds
namespace Go.Proofs.Ytaiekjimdjlgbaa.Pr
open Go.RowKit Go.Proofs.YtaiekjimdjlgbaaW.PrintWords Go.Proofs.YtaiekjimdjlgbaaW.PrintLast Go.Proofs.YtaiekjimdjlgbaaW.PrintMore
set_option linter.unusedVariables false
set_option linter.unusedSimpArgs false
def ok23 (x : S23) : Prop := x.f0.size ≤ 9223372036854775807 ∧ (Lit.int .i64 x.f1).wf = true ∧ (Lit.int .i64 x.f2).wf = true ∧ (Lit.int .i64 x.f3).wf = true ∧ (Lit.int .i64 x.f4).wf = true ∧ (Lit.int .i64 x.f5).wf = true
set_option maxRecDepth 100000 in
theorem rdb23 : Rdb Try.prog 23 k23 ok23 := Rdb.iso (Rdb.struct Try.underlying23 (by kernel_rfl) (RdF.cons (off := 0) (L := 6) (Rdb.string Try.underlying9) (RdF.cons (off := 1) (L := 6) (Rdb.int Try.underlying3) (RdF.cons (off := 2) (L := 6) (Rdb.int Try.underlying3) (RdF.cons (off := 3) (L := 6) (Rdb.int Try.underlying3) (RdF.cons (off := 4) (L := 6) (Rdb.int Try.underlying3) (RdF.last (off := 5) (L := 6) (Rdb.int Try.underlying3) (by kernel_rfl)))))))) (fun x : S23 => (x.f0, x.f1, x.f2, x.f3, x.f4, x.f5)) (fun x => ⟨x.1, x.2.1, x.2.2.1, x.2.2.2.1, x.2.2.2.2.1, x.2.2.2.2.2⟩) (fun _ => rfl)
def ok94 (x : S94) : Prop := x.f0.size ≤ 9223372036854775807 ∧ (Lit.int .i64 x.f1).wf = true
set_option maxRecDepth 100000 in
theorem rdb94 : Rdb Try.prog 94 k94 ok94 := Rdb.iso (Rdb.struct Try.underlying94 (by kernel_rfl) (RdF.cons (off := 0) (L := 2) (Rdb.string Try.underlying9) (RdF.last (off := 1) (L := 2) (Rdb.int Try.underlying3) (by kernel_rfl)))) (fun x : S94 => (x.f0, x.f1)) (fun x => ⟨x.1, x.2⟩) (fun _ => rfl)
def ok67 (x : S67) : Prop := x.f0.size ≤ 9223372036854775807 ∧ x.f1.size ≤ 9223372036854775807
set_option maxRecDepth 100000 in
theorem rdb67 : Rdb Try.prog 67 k67 ok67 := Rdb.iso (Rdb.struct Try.underlying67 (by kernel_rfl) (RdF.cons (off := 0) (L := 2) (Rdb.string Try.underlying9) (RdF.last (off := 1) (L := 2) (Rdb.string Try.underlying9) (by kernel_rfl)))) (fun x : S67 => (x.f0, x.f1)) (fun x => ⟨x.1, x.2⟩) (fun _ => rfl)
def ok85 (x : S85) : Prop := ok67 x.f0 ∧ x.f1.size ≤ 9223372036854775807 ∧ (Lit.int .i64 x.f2).wf = true
set_option maxRecDepth 100000 in
theorem rdb85 : Rdb Try.prog 85 k85 ok85 := Rdb.iso (Rdb.struct Try.underlying85 (by kernel_rfl) (RdF.cons (off := 0) (L := 4) rdb67 (RdF.cons (off := 2) (L := 4) (Rdb.string Try.underlying9) (RdF.last (off := 3) (L := 4) (Rdb.int Try.underlying3) (by kernel_rfl))))) (fun x : S85 => (x.f0, x.f1, x.f2)) (fun x => ⟨x.1, x.2.1, x.2.2⟩) (fun _ => rfl)
def ok80 (x : S80) : Prop := (∀ y_ ∈ x.f0, ok85 y_) ∧ ok67 x.f1 ∧ ok67 x.f2 ∧ (∀ y_ ∈ x.f3, ok23 y_) ∧ (∀ y_ ∈ x.f4, ok94 y_)
set_option maxRecDepth 100000 in
theorem rdb80 : Rdb Try.prog 80 k80 ok80 := Rdb.iso (Rdb.struct Try.underlying80 (by kernel_rfl) (RdF.cons (off := 0) (L := 7) (Rdb.slice Try.underlying65 (by kernel_rfl) rdb85) (RdF.cons (off := 1) (L := 7) rdb67 (RdF.cons (off := 3) (L := 7) rdb67 (RdF.cons (off := 5) (L := 7) (Rdb.slice Try.underlying37 (by kernel_rfl) rdb23) (RdF.last (off := 6) (L := 7) (Rdb.slice Try.underlying24 (by kernel_rfl) rdb94) (by kernel_rfl))))))) (fun x : S80 => (x.f0, x.f1, x.f2, x.f3, x.f4)) (fun x => ⟨x.1, x.2.1, x.2.2.1, x.2.2.2.1, x.2.2.2.2⟩) (fun _ => rfl)
end Go.Proofs.Ytaiekjimdjlgbaa.Pr
