/- A gap can be closed: what covers behind a put. -/
import Derived.Test.YtfcaaefdmabkhaaQ1A6LmAsset
import Derived.Test.YtfcaaefdmabkhaaQ1A6LmAssetAll
import Derived.Test.YtfcaaefdmabkhaaQ1A6LmLimit
import Derived.Test.YtfcaaefdmabkhaaQ1A6LmLimitCap
import Derived.Test.YtfcaaefdmabkhaaQ1A6LmLimitF
import Derived.Test.YtfcaaefdmabkhaaQ1A6LmLimitFr
import Derived.Test.YtfcaaefdmabkhaaQ1A6LmPledge
import Derived.Test.YtfcaaefdmabkhaaQ1A6LmPledge3
import Derived.Test.YtfcaaefdmabkhaaQ1A6LmPledgeOf
import Derived.Test.YtfcaaefdmabkhaaQ1A6LmPledgeTop
import Derived.Test.YtfcaaefdmabkhaaQ1A6LmPledgeW
import Derived.Test.YtfcaaefdmabkhaaQ1A6LmRate
import Derived.Test.YtfcaaefdmabkhaaQ1A6P0
namespace Go.Proofs.Ytfcaaefdmabkhaa.Pr
open Go.RowKit Go.Proofs.Ytfcaaefdmabkhaa.Pr Go.Proofs.YtfcaaefdmabkhaaW.PrintWords Go.Proofs.YtfcaaefdmabkhaaW.PrintLast Go.Proofs.YtfcaaefdmabkhaaW.PrintMore
set_option linter.unusedVariables false
set_option linter.unusedSimpArgs false
theorem Qf5 {l : List Pled} {q : PK} {n : Int} {L : List As} {R : List Rt} (y : Int) (hy : y ≠ 0) (h : (covS (insP q y l) q.1 q.2.1 n L R).2 = 0) :
  (covS (insP q y l) q.1 q.2.1 n L R).1 = baseC L R n q l + cutP L R n (plOf q y) ∧ wokP L R (plOf q y) ∧ 0 ≤ baseC L R n q l ∧ moneyN n := by
 obtain ⟨p1, p2, p3, p4⟩ := cov_ok (QcD h)
 have hof : ofP q.1 q.2.1 (insP q y l) = ofP q.1 q.2.1 (loP q l) ++ ([plOf q y] ++ ofP q.1 q.2.1 (hiP q l)) := by
  unfold insP
  rw [Qck, Qck, if_neg hy]
  congr 2
  rw [QcM, if_pos ⟨rfl, rfl⟩]; rfl
 have hw := (Qb2 p1).1
 rw [hof] at hw
 have hlo := (QcF L R n p2 (ofP q.1 q.2.1 (loP q l)) (fun p hp => hw p (List.mem_append_left _ hp))).1
 have hhi := (QcF L R n p2 (ofP q.1 q.2.1 (hiP q l)) (fun p hp => hw p (List.mem_append_right _ (List.mem_append_right _ hp)))).1
 refine ⟨?_, hw _ (List.mem_append_right _ (List.mem_append_left _ (List.mem_singleton.2 rfl))), by unfold baseC; omega, p2⟩
 rw [p4, hof, QcN, QcN]
 unfold baseC
 show _ + ((cutP L R n (plOf q y) + 0) + _) = _
 omega
theorem closes {l : List Pled} {q : PK} {n : Int} {L : List As} {R : List Rt} (h : (pwS l q.1 q.2.1 L R).2 = 0) (hcap : (findA L q.2.2 0 L.length).2.2.2.2.2.1 = 1000) (x : Int) (hx : 1 ≤ x) (hwx : wokP L R (plOf q x)) (hen : n - (baseC L R n q l + leftC L R n q (hadP q l)) ≤ wvP L R (plOf q x)) (h2 : (covS (insP q (hadP q l + x) l) q.1 q.2.1 n L R).2 = 0) :
  n ≤ (covS (insP q (hadP q l + x) l) q.1 q.2.1 n L R).1 := by
 have hg := (Qb5 h).1
 have hbd := had_bd (q := q) hg
 obtain ⟨c1, c2, c3, c4⟩ := Qf5 (hadP q l + x) (by omega) h2
 rw [c1]
 have hcut : cutP L R n (plOf q (hadP q l + x)) = mn (wvP L R (plOf q (hadP q l + x))) n := by
  unfold cutP capP
  have e : (findA L (plOf q (hadP q l + x)).f1 0 L.length).2.2.2.2.2.1 = 1000 := hcap
  rw [e, Int.mul_ediv_cancel n (by decide)]
 have hmx : mn (wvP L R (plOf q (hadP q l + x))) n = n ∨ mn (wvP L R (plOf q (hadP q l + x))) n = wvP L R (plOf q (hadP q l + x)) := by
  unfold mn; split
  ·exact Or.inl rfl
  exact Or.inr rfl
 have hsup : leftC L R n q (hadP q l) + wvP L R (plOf q x) ≤ wvP L R (plOf q (hadP q l + x)) := by
  unfold leftC
  by_cases h0 : hadP q l = 0
  ·rw [if_pos h0, h0, Int.zero_add, Int.zero_add]; exact Int.le_refl _
  rw [if_neg h0]
  have hok : wokP L R (plOf q (hadP q l)) := (Qc4 (x := plOf q (hadP q l)) (z := plOf q (hadP q l + x)) rfl ⟨hbd.1, by show hadP q l ≤ hadP q l + x; omega⟩ c2).1
  have s := QfS L R (plOf q (hadP q l)) (plOf q x) (plOf q (hadP q l + x)) rfl rfl rfl hok hwx c2
  have := (cut_bd c4 hok).2.1
  omega
 rw [hcut]
 rcases hmx with e | e
 ·rw [e]; omega
 rw [e]; omega
end Go.Proofs.Ytfcaaefdmabkhaa.Pr
