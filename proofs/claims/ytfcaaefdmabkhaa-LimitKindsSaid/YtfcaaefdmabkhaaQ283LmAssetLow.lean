/- Units: the least number that is worth so much, by the program and by the reference. -/
import Derived.Test.YtfcaaefdmabkhaaQ283LmAsset
import Derived.Test.YtfcaaefdmabkhaaQ283LmAssetMath
import Derived.Test.YtfcaaefdmabkhaaQ283LmCentsMul
import Derived.Test.YtfcaaefdmabkhaaQ283P0
import Derived.Test.YtfcaaefdmabkhaaQ283LmRate
import Derived.Test.YtfcaaefdmabkhaaQ283LmRate2
import Derived.Test.YtfcaaefdmabkhaaQ283LmRate3
import Derived.Test.YtfcaaefdmabkhaaQ283P3
import Derived.Test.YtfcaaefdmabkhaaQ283P2
import Derived.Test.YtfcaaefdmabkhaaQ283P4
namespace Go.Proofs.Ytfcaaefdmabkhaa.Pr
open Go.RowKit Go.Proofs.Ytfcaaefdmabkhaa.Pr Go.Proofs.YtfcaaefdmabkhaaW.PrintWords Go.Proofs.YtfcaaefdmabkhaaW.PrintLast Go.Proofs.YtfcaaefdmabkhaaW.PrintMore
set_option linter.unusedVariables false
set_option linter.unusedSimpArgs false
theorem worS_F (cu un hc q : Int) (l : List Rt) (h : chkR l = 0) (hcu : inR l cu) (hun : 1 ≤ un ∧ un ≤ 68719476736) (hh : 0 ≤ hc ∧ hc ≤ 1000) (hq : 0 ≤ q ∧ q ≤ 1152921504606846976) :
  worS 0 cu un hc q l = worthF un (rd_T98 l cu).f1 (rd_T98 l 0).f1 hc q := by
 have hl := Qd1 l h
 have h0 : inR l 0 := ⟨by omega, by omega⟩
 have rc := Qcb l h cu hcu
 have r0 := Qcb l h 0 h0
 have hn : 0 ≤ q * un := Int.mul_nonneg hq.1 (by omega)
 have hv : valS 0 un q = if 1152921504606846976 < q * un then (0, 3) else (q * un, 0) := by
  unfold valS mulS
  rw [if_pos rfl, if_pos hq, if_pos ⟨by unfold mdFits; omega, by unfold mdFits; omega⟩]
  by_cases c : 1152921504606846976 < q * un
  ·rw [if_pos c, if_neg (by unfold mdFits; omega)]
  rw [if_neg c, if_pos (by unfold mdFits; omega)]
 unfold worS worthF
 rw [hv]
 by_cases c : 1152921504606846976 < q * un
 ·rw [if_pos c, if_pos c]; rfl
 rw [if_neg c, if_neg c]
 simp only [if_true]
 rw [Qfh l (q * un) cu 0 3 h hcu h0 (by unfold mdFits; omega) (by omega), Qd5 _ _ _ hn (by omega) (by omega)]
 have hx : 0 ≤ q * un * (rd_T98 l cu).f1 / (rd_T98 l 0).f1 := Int.ediv_nonneg (Int.mul_nonneg hn (by omega)) (by omega)
 generalize q * un * (rd_T98 l cu).f1 / (rd_T98 l 0).f1 = X at hx ⊢
 by_cases d : 1152921504606846976 < X
 ·rw [if_pos d, if_pos d]; rfl
 rw [if_neg d, if_neg d]
 simp only [if_true]
 have hp := Qeo X hc hx hh
 unfold mdS
 rw [if_pos ⟨by unfold mdFits; omega, by unfold mdFits; omega, by unfold mdFits; omega, by omega, by omega⟩, if_neg (by omega), Qd5 _ _ _ hx (by omega) (by omega), if_neg (by omega)]
end Go.Proofs.Ytfcaaefdmabkhaa.Pr
