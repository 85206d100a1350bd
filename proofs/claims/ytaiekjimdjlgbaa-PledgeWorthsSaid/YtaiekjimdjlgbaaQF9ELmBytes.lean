/- Bytes: the order of texts. -/
import Derived.Test.YtaiekjimdjlgbaaQF9EP0
namespace Go.Proofs.Ytaiekjimdjlgbaa.Pr
open Go.RowKit Go.Proofs.Ytaiekjimdjlgbaa.Pr Go.Proofs.YtaiekjimdjlgbaaW.PrintWords Go.Proofs.YtaiekjimdjlgbaaW.PrintLast Go.Proofs.YtaiekjimdjlgbaaW.PrintMore
set_option linter.unusedVariables false
set_option linter.unusedSimpArgs false
theorem bl_self : ∀ l : List UInt8, Op.bytesLess l l = false
  | [] => rfl
  | a :: t => by simp [Op.bytesLess, bl_self t]
theorem bytes_inj {a b : ByteArray} (h : a.toList = b.toList) : a = b := by
  rw [Go.ByteArray.toList_eq, Go.ByteArray.toList_eq] at h
  exact ByteArray.ext (Array.toList_inj.1 h)
theorem tl_iff (a b : ByteArray) : a.toList = b.toList ↔ a = b := ⟨bytes_inj, fun h => by rw [h]⟩
end Go.Proofs.Ytaiekjimdjlgbaa.Pr
