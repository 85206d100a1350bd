/- Cover: the gaps of a list of needs, by the program and by the reference. -/
import Derived.Test.YtfcaaefdmabkhaaQ4A5LmAsset
import Derived.Test.YtfcaaefdmabkhaaQ4A5LmName
import Derived.Test.YtfcaaefdmabkhaaQ4A5P0
import Derived.Test.YtfcaaefdmabkhaaQ4A5P2
import Derived.Test.YtfcaaefdmabkhaaQ4A5PrxRd
import Derived.Test.YtfcaaefdmabkhaaQ4A5LmCover0
import Derived.Test.YtfcaaefdmabkhaaQ4A5LmLimit
import Derived.Test.YtfcaaefdmabkhaaQ4A5LmBytes
import Derived.Test.YtfcaaefdmabkhaaQ4A5P1
import Derived.Test.YtfcaaefdmabkhaaQ4A5LmRate
import Derived.Test.YtfcaaefdmabkhaaQ4A5P6
namespace Go.Proofs.Ytfcaaefdmabkhaa.Pr
open Go.RowKit Go.Proofs.Ytfcaaefdmabkhaa.Pr Go.Proofs.YtfcaaefdmabkhaaW.PrintWords Go.Proofs.YtfcaaefdmabkhaaW.PrintLast Go.Proofs.YtfcaaefdmabkhaaW.PrintMore
set_option linter.unusedVariables false
set_option linter.unusedSimpArgs false
abbrev Gp := S50
abbrev RGp := S100
theorem gp_rd (l : List Gp) (i : Nat) (h : i < l.length) : rd_T50 l (i : Int) = l[i] := by
  unfold rd_T50
  rw [Int.toNat_natCast, List.getD_eq_getElem?_getD, List.getElem?_eq_getElem h]
  rfl
theorem gp_drop (l : List Gp) (i : Nat) (h : i < l.length) : l.drop i = rd_T50 l (i : Int) :: l.drop (i + 1) := by
  rw [List.drop_eq_getElem_cons h, gp_rd l i h]
theorem rgp_rd (l : List RGp) (i : Nat) (h : i < l.length) : rd_T100 l (i : Int) = l[i] := by
  unfold rd_T100
  rw [Int.toNat_natCast, List.getD_eq_getElem?_getD, List.getElem?_eq_getElem h]
  rfl
theorem rgp_drop (l : List RGp) (i : Nat) (h : i < l.length) : l.drop i = rd_T100 l (i : Int) :: l.drop (i + 1) := by
  rw [List.drop_eq_getElem_cons h, rgp_rd l i h]
end Go.Proofs.Ytfcaaefdmabkhaa.Pr
