/- Units: the least number that is worth so much, by the program and by the reference. -/
import Derived.Test.YtfcaaefdmabkhaaQEB3LmAsset
import Derived.Test.YtfcaaefdmabkhaaQEB3LmAssetMath
import Derived.Test.YtfcaaefdmabkhaaQEB3LmCentsMul
import Derived.Test.YtfcaaefdmabkhaaQEB3P0
import Derived.Test.YtfcaaefdmabkhaaQEB3LmRate
import Derived.Test.YtfcaaefdmabkhaaQEB3LmRate2
import Derived.Test.YtfcaaefdmabkhaaQEB3LmRate3
import Derived.Test.YtfcaaefdmabkhaaQEB3P1
namespace Go.Proofs.Ytfcaaefdmabkhaa.Pr
open Go.RowKit Go.Proofs.Ytfcaaefdmabkhaa.Pr Go.Proofs.YtfcaaefdmabkhaaW.PrintWords Go.Proofs.YtfcaaefdmabkhaaW.PrintLast Go.Proofs.YtfcaaefdmabkhaaW.PrintMore
set_option linter.unusedVariables false
set_option linter.unusedSimpArgs false
theorem worS_F (cu un hc q : Int) (l : List Rt) (h : chkR l = 0) (hcu : inR l cu) (hun : 1 ≤ un ∧ un ≤ 68719476736) (hh : 0 ≤ hc ∧ hc ≤ 1000) (hq : 0 ≤ q ∧ q ≤ 1152921504606846976) :
  worS 0 cu un hc q l = worthF un (rd_T98 l cu).f1 (rd_T98 l 0).f1 hc q := by
 have hl := Qdk l h
 have h0 : inR l 0 := ⟨by omega, by omega⟩
 have rc := QbF l h cu hcu
 have r0 := QbF l h 0 h0
 have hn : 0 ≤ q * un := Int.mul_nonneg hq.1 (by omega)
 have hv : valS 0 un q = if 1152921504606846976 < q * un then (0, 3) else (q * un, 0) := by
  unfold valS mulS
  rw [if_pos rfl, if_pos hq, if_pos ⟨by unfold mdFits; omega, by unfold mdFits; omega⟩]
  by_cases c : 1152921504606846976 < q * un
  ·rw [if_pos c, if_neg (by unfold mdFits; omega)]
  rw [if_neg c, if_pos (by unfold mdFits; omega)]
 unfold worS worthF
 rw [hv]
 by_cases c : 1152921504606846976 < q * un
 ·rw [if_pos c, if_pos c]; rfl
 rw [if_neg c, if_neg c]
 simp only [if_true]
 rw [Qet l (q * un) cu 0 3 h hcu h0 (by unfold mdFits; omega) (by omega), QcB _ _ _ hn (by omega) (by omega)]
 have hx : 0 ≤ q * un * (rd_T98 l cu).f1 / (rd_T98 l 0).f1 := Int.ediv_nonneg (Int.mul_nonneg hn (by omega)) (by omega)
 generalize q * un * (rd_T98 l cu).f1 / (rd_T98 l 0).f1 = X at hx ⊢
 by_cases d : 1152921504606846976 < X
 ·rw [if_pos d, if_pos d]; rfl
 rw [if_neg d, if_neg d]
 simp only [if_true]
 have hp := QdH X hc hx hh
 unfold mdS
 rw [if_pos ⟨by unfold mdFits; omega, by unfold mdFits; omega, by unfold mdFits; omega, by omega, by omega⟩, if_neg (by omega), QcB _ _ _ hx (by omega) (by omega), if_neg (by omega)]
end Go.Proofs.Ytfcaaefdmabkhaa.Pr
