/- Words and lemmas that the printed walks use, without those that these claims don't need. -/
import Derived.Test.YtfcaaefdmabkhaaQEB3P0
import Derived.Test.YtfcaaefdmabkhaaQEB3LmReadKinds
namespace Go.Proofs.Ytfcaaefdmabkhaa.Pr
open Go.RowKit Go.Proofs.YtfcaaefdmabkhaaW.PrintWords Go.Proofs.YtfcaaefdmabkhaaW.PrintLast Go.Proofs.YtfcaaefdmabkhaaW.PrintMore
set_option linter.unusedVariables false
set_option linter.unusedSimpArgs false
set_option maxRecDepth 100000
def ok44 (x : S44) : Prop := x.f0.size ≤ 9223372036854775807 ∧ x.f1.size ≤ 9223372036854775807
theorem rdb44 : Rdb Try.prog 44 k44 ok44 := Rdb.iso (Rdb.struct Try.underlying44 (by kernel_rfl) (RdF.cons (off := 0) (L := 2) (Rdb.string Try.underlying9) (RdF.last (off := 1) (L := 2) (Rdb.string Try.underlying9) (by kernel_rfl)))) (fun x : S44 => (x.f0, x.f1)) (fun x => ⟨x.1, x.2⟩) (fun _ => rfl)
def ok48 (x : S48) : Prop := ok44 x.f0 ∧ (Lit.int .i64 x.f1).wf = true ∧ (Lit.int .i64 x.f2).wf = true ∧ (Lit.int .i64 x.f3).wf = true ∧ (Lit.int .i64 x.f4).wf = true ∧ (Lit.int .i64 x.f5).wf = true ∧ (Lit.int .i64 x.f6).wf = true ∧ (Lit.int .i64 x.f7).wf = true
theorem rdb48 : Rdb Try.prog 48 k48 ok48 := Rdb.iso (Rdb.struct Try.underlying48 (by kernel_rfl) (RdF.cons (off := 0) (L := 9) rdb44 (RdF.cons (off := 2) (L := 9) (Rdb.int Try.underlying3) (RdF.cons (off := 3) (L := 9) (Rdb.int Try.underlying3) (RdF.cons (off := 4) (L := 9) (Rdb.int Try.underlying3) (RdF.cons (off := 5) (L := 9) (Rdb.int Try.underlying3) (RdF.cons (off := 6) (L := 9) (Rdb.int Try.underlying3) (RdF.cons (off := 7) (L := 9) (Rdb.int Try.underlying3) (RdF.last (off := 8) (L := 9) (Rdb.int Try.underlying3) (by kernel_rfl)))))))))) (fun x : S48 => (x.f0, x.f1, x.f2, x.f3, x.f4, x.f5, x.f6, x.f7)) (fun x => ⟨x.1, x.2.1, x.2.2.1, x.2.2.2.1, x.2.2.2.2.1, x.2.2.2.2.2.1, x.2.2.2.2.2.2.1, x.2.2.2.2.2.2.2⟩) (fun _ => rfl)
def ok46 (x : S46) : Prop := ok44 x.f0 ∧ x.f1.size ≤ 9223372036854775807 ∧ (Lit.int .i64 x.f2).wf = true
theorem rdb46 : Rdb Try.prog 46 k46 ok46 := Rdb.iso (Rdb.struct Try.underlying46 (by kernel_rfl) (RdF.cons (off := 0) (L := 4) rdb44 (RdF.cons (off := 2) (L := 4) (Rdb.string Try.underlying9) (RdF.last (off := 3) (L := 4) (Rdb.int Try.underlying3) (by kernel_rfl))))) (fun x : S46 => (x.f0, x.f1, x.f2)) (fun x => ⟨x.1, x.2.1, x.2.2⟩) (fun _ => rfl)
def ok84 (x : S84) : Prop := x.f0.size ≤ 9223372036854775807 ∧ (Lit.int .i64 x.f1).wf = true ∧ (Lit.int .i64 x.f2).wf = true ∧ (Lit.int .i64 x.f3).wf = true ∧ (Lit.int .i64 x.f4).wf = true ∧ (Lit.int .i64 x.f5).wf = true
theorem rdb84 : Rdb Try.prog 84 k84 ok84 := Rdb.iso (Rdb.struct Try.underlying84 (by kernel_rfl) (RdF.cons (off := 0) (L := 6) (Rdb.string Try.underlying9) (RdF.cons (off := 1) (L := 6) (Rdb.int Try.underlying3) (RdF.cons (off := 2) (L := 6) (Rdb.int Try.underlying3) (RdF.cons (off := 3) (L := 6) (Rdb.int Try.underlying3) (RdF.cons (off := 4) (L := 6) (Rdb.int Try.underlying3) (RdF.last (off := 5) (L := 6) (Rdb.int Try.underlying3) (by kernel_rfl)))))))) (fun x : S84 => (x.f0, x.f1, x.f2, x.f3, x.f4, x.f5)) (fun x => ⟨x.1, x.2.1, x.2.2.1, x.2.2.2.1, x.2.2.2.2.1, x.2.2.2.2.2⟩) (fun _ => rfl)
def ok98 (x : S98) : Prop := x.f0.size ≤ 9223372036854775807 ∧ (Lit.int .i64 x.f1).wf = true
theorem rdb98 : Rdb Try.prog 98 k98 ok98 := Rdb.iso (Rdb.struct Try.underlying98 (by kernel_rfl) (RdF.cons (off := 0) (L := 2) (Rdb.string Try.underlying9) (RdF.last (off := 1) (L := 2) (Rdb.int Try.underlying3) (by kernel_rfl)))) (fun x : S98 => (x.f0, x.f1)) (fun x => ⟨x.1, x.2⟩) (fun _ => rfl)
def ok34 (x : S34) : Prop := (∀ y_ ∈ x.f0, ok46 y_) ∧ (∀ y_ ∈ x.f1, ok84 y_) ∧ (∀ y_ ∈ x.f2, ok98 y_)
theorem rdb34 : Rdb Try.prog 34 k34 ok34 := Rdb.iso (Rdb.struct Try.underlying34 (by kernel_rfl) (RdF.cons (off := 0) (L := 3) (Rdb.slice Try.underlying30 (by kernel_rfl) rdb46) (RdF.cons (off := 1) (L := 3) (Rdb.slice Try.underlying31 (by kernel_rfl) rdb84) (RdF.last (off := 2) (L := 3) (Rdb.slice Try.underlying32 (by kernel_rfl) rdb98) (by kernel_rfl))))) (fun x : S34 => (x.f0, x.f1, x.f2)) (fun x => ⟨x.1, x.2.1, x.2.2⟩) (fun _ => rfl)
end Go.Proofs.Ytfcaaefdmabkhaa.Pr
