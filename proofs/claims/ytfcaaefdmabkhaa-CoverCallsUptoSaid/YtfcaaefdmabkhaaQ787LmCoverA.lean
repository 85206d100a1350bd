/- Cover: the gaps of a list of needs, by the program and by the reference. -/
import Derived.Test.YtfcaaefdmabkhaaQ787LmAsset
import Derived.Test.YtfcaaefdmabkhaaQ787LmName
import Derived.Test.YtfcaaefdmabkhaaQ787P0
import Derived.Test.YtfcaaefdmabkhaaQ787P3
import Derived.Test.YtfcaaefdmabkhaaQ787PrxRd
import Derived.Test.YtfcaaefdmabkhaaQ787LmCover0
import Derived.Test.YtfcaaefdmabkhaaQ787LmLimit
import Derived.Test.YtfcaaefdmabkhaaQ787P1
import Derived.Test.YtfcaaefdmabkhaaQ787LmRate
import Derived.Test.YtfcaaefdmabkhaaQ787P5
import Derived.Test.YtfcaaefdmabkhaaQ787P2
namespace Go.Proofs.Ytfcaaefdmabkhaa.Pr
open Go.RowKit Go.Proofs.Ytfcaaefdmabkhaa.Pr Go.Proofs.YtfcaaefdmabkhaaW.PrintWords Go.Proofs.YtfcaaefdmabkhaaW.PrintLast Go.Proofs.YtfcaaefdmabkhaaW.PrintMore
set_option linter.unusedVariables false
set_option linter.unusedSimpArgs false
abbrev Gp := S50
abbrev RGp := S100
theorem gp_rd (l : List Gp) (i : Nat) (h : i < l.length) : rd_T50 l (i : Int) = l[i] := by
 unfold rd_T50
 rw [Int.toNat_natCast, List.getD_eq_getElem?_getD, List.getElem?_eq_getElem h]
 rfl
theorem Qeg (l : List Gp) (i : Nat) (h : i < l.length) : l.drop i = rd_T50 l (i : Int) :: l.drop (i + 1) := by
 rw [List.drop_eq_getElem_cons h, gp_rd l i h]
theorem rgp_rd (l : List RGp) (i : Nat) (h : i < l.length) : Qas l (i : Int) = l[i] := by
 unfold Qas
 rw [Int.toNat_natCast, List.getD_eq_getElem?_getD, List.getElem?_eq_getElem h]
 rfl
theorem Qcn (l : List RGp) (i : Nat) (h : i < l.length) : l.drop i = Qas l (i : Int) :: l.drop (i + 1) := by
 rw [List.drop_eq_getElem_cons h, rgp_rd l i h]
def toR (g : Gp) : RGp := ⟨⟨g.f0.f0, g.f0.f1⟩, g.f1, g.f2, g.f3⟩
theorem Qdo (l : List Gp) (hl : l.length ≤ 1073741824) : ∀ n i k : Nat, i + n = l.length → 2 * n + 2 ≤ k → Qav.l0 k l (l.map toR) (i : Int) = some true := by
 intro n
 induction n with
 | zero =>
  intro i k hi hk
  obtain ⟨k, rfl⟩ : ∃ m, k = m + 2 := ⟨k - 2, by omega⟩
  rw [Qav.l0, if_neg (by omega), Qav.j1, if_neg (by simp), List.length_map, beq_self_eq_true]
 | succ n ih =>
  intro i k hi hk
  obtain ⟨k, rfl⟩ : ∃ m, k = m + 2 := ⟨k - 2, by omega⟩
  rw [Qav.l0, if_pos (by omega), List.length_map, decide_eq_true (show (i : Int) < (l.length : Int) by omega), Qav.j1, if_pos rfl, if_pos (by omega), if_pos (by omega), List.length_map, if_pos (by omega), rgp_rd (l.map toR) i (by simp; omega), List.getElem_map, gp_rd l i (by omega), nwrap (by omega) (by omega), show ((i : Int) + 1) = ((i + 1 : Nat) : Int) by omega]
  rw [if_neg (by simp [toR]), if_pos (show l[i].f1 = (toR l[i]).f1 from rfl), if_pos (show l[i].f2 = (toR l[i]).f2 from rfl), if_pos (show l[i].f3 = (toR l[i]).f3 from rfl), ih (i + 1) k (by omega) (by omega)]
theorem Qdp (l : List Gp) (hl : l.length ≤ 1073741824) (k : Nat) (hk : 2 * l.length + 2 ≤ k) : Qav.f k l (l.map toR) = some true := by
 unfold Qav.f
 rw [show (0 : Int) = ((0 : Nat) : Int) from rfl, Qdo l hl l.length 0 k (by omega) hk]
end Go.Proofs.Ytfcaaefdmabkhaa.Pr
