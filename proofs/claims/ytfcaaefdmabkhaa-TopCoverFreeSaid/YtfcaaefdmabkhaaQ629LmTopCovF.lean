/- What is free may be taken back: the law's loop over the two numbers. -/
import Derived.Test.YtfcaaefdmabkhaaQ629LmAsset
import Derived.Test.YtfcaaefdmabkhaaQ629LmLimit
import Derived.Test.YtfcaaefdmabkhaaQ629LmLimitF
import Derived.Test.YtfcaaefdmabkhaaQ629LmLimitFr
import Derived.Test.YtfcaaefdmabkhaaQ629LmName
import Derived.Test.YtfcaaefdmabkhaaQ629LmPledge
import Derived.Test.YtfcaaefdmabkhaaQ629LmPledge2
import Derived.Test.YtfcaaefdmabkhaaQ629LmPledge3
import Derived.Test.YtfcaaefdmabkhaaQ629LmPledgeW
import Derived.Test.YtfcaaefdmabkhaaQ629LmRate
import Derived.Test.YtfcaaefdmabkhaaQ629LmTopCov
import Derived.Test.YtfcaaefdmabkhaaQ629P9
import Derived.Test.YtfcaaefdmabkhaaQ629P0
namespace Go.Proofs.Ytfcaaefdmabkhaa.Pr
open Go.RowKit Go.Proofs.Ytfcaaefdmabkhaa.Pr Go.Proofs.YtfcaaefdmabkhaaW.PrintWords Go.Proofs.YtfcaaefdmabkhaaW.PrintLast Go.Proofs.YtfcaaefdmabkhaaW.PrintMore
set_option linter.unusedVariables false
set_option linter.unusedSimpArgs false
theorem Qd7 (a b : ByteArray) (x2 x3 x4 x5 x6 x7 n : Int) (l : List Pled) (L : List As) (R : List Rt) (s : ByteArray) (h : (pwS l a b L R).2 = 0) (hn : moneyN n) (v m : Int) (ys : List Int) (i : Nat) (hi : i < ys.length) (hl : ys.length ≤ 100) (hr : rd ys (i : Int) = m) (k : Nat) (hk : 9000 ≤ k)
  (hm : 1 ≤ m → m ≤ hadP (a, b, s) l → (Qbo l (a, b, s) n L R m ↔ m ≤ v)) :
  contangotop_TopCoverFree.l0 (k + 2) v (hadP (a, b, s) l) ys (ys.length : Int) (i : Int) a b x2 x3 x4 x5 x6 x7 n l L R s = contangotop_TopCoverFree.l0 k v (hadP (a, b, s) l) ys (ys.length : Int) ((i + 1 : Nat) : Int) a b x2 x3 x4 x5 x6 x7 n l L R s := by
 have hg := (QbR h).1
 have hbd := had_bd (q := (a, b, s)) hg
 rw [contangotop_TopCoverFree.l0, if_pos (by omega), if_pos (by omega), if_pos (by omega), hr]
 by_cases h1 : m < 1
 ·rw [if_pos h1, contangotop_TopCoverFree.j2, if_pos rfl, nwrap (x := (i : Int) + 1) (by omega) (by omega), show ((i : Int) + 1) = ((i + 1 : Nat) : Int) by omega]
 ·rw [if_neg h1]
  by_cases h2 : m > hadP (a, b, s) l
  ·rw [decide_eq_true h2, contangotop_TopCoverFree.j2, if_pos rfl, nwrap (x := (i : Int) + 1) (by omega) (by omega), show ((i : Int) + 1) = ((i + 1 : Nat) : Int) by omega]
  ·have ht := Qd1 l (a, b, s) m k (by omega)
   simp only at ht
   have hc := QcD (q := (a, b, s)) h hn m ⟨by omega, by omega⟩
   simp only at hc
   have hc2 : (covS (insP (a, b, s) (hadP (a, b, s) l - m) l) a b n L R).2 = 0 := by rw [hc]
   rw [decide_eq_false h2, contangotop_TopCoverFree.j2, if_neg (by simp), ht, Option.bind_some, Qd6 l (a, b, s) m hg ⟨by omega, by omega⟩ (by omega), gap_ok a b x2 x3 x4 x5 x6 x7 n l L R s _ k hk hc2, Option.bind_some, if_pos rfl, if_pos rfl, hc, nwrap (x := (i : Int) + 1) (by omega) (by omega), show ((i : Int) + 1) = ((i + 1 : Nat) : Int) by omega]
   have hz := hm (by omega) (by omega)
   have e : decide (mx (n - (baseC L R n (a, b, s) l + leftC L R n (a, b, s) (hadP (a, b, s) l - m))) 0 > 0) = decide (m > v) := by
    rw [decide_eq_decide]
    unfold Qbo at hz
    unfold mx
    split <;> omega
   show (if (!(decide (mx (n - (baseC L R n (a, b, s) l + leftC L R n (a, b, s) (hadP (a, b, s) l - m))) 0 > 0) == decide (m > v))) = true then _ else _) = _
   rw [e, if_neg (by simp)]
end Go.Proofs.Ytfcaaefdmabkhaa.Pr
