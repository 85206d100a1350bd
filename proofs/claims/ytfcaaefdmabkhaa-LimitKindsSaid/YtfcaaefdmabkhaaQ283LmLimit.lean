/- Limits: how much of each pledge counts, and all together, by the program and by the reference. -/
import Derived.Test.YtfcaaefdmabkhaaQ283LmAsset
import Derived.Test.YtfcaaefdmabkhaaQ283LmAssetAll
import Derived.Test.YtfcaaefdmabkhaaQ283LmAssetMath
import Derived.Test.YtfcaaefdmabkhaaQ283LmCentsMd
import Derived.Test.YtfcaaefdmabkhaaQ283LmName
import Derived.Test.YtfcaaefdmabkhaaQ283LmPledge
import Derived.Test.YtfcaaefdmabkhaaQ283LmPledge2
import Derived.Test.YtfcaaefdmabkhaaQ283LmPledgeOf
import Derived.Test.YtfcaaefdmabkhaaQ283LmPledgeTop
import Derived.Test.YtfcaaefdmabkhaaQ283LmPledgeW
import Derived.Test.YtfcaaefdmabkhaaQ283LmRate
import Derived.Test.YtfcaaefdmabkhaaQ283LmSums
import Derived.Test.YtfcaaefdmabkhaaQ283P0
import Derived.Test.YtfcaaefdmabkhaaQ283P4
import Derived.Test.YtfcaaefdmabkhaaQ283P8
import Derived.Test.YtfcaaefdmabkhaaQ283P6
import Derived.Test.YtfcaaefdmabkhaaQ283P3
import Derived.Test.YtfcaaefdmabkhaaQ283P1
import Derived.Test.YtfcaaefdmabkhaaQ283P2
namespace Go.Proofs.Ytfcaaefdmabkhaa.Pr
open Go.RowKit Go.Proofs.Ytfcaaefdmabkhaa.Pr Go.Proofs.YtfcaaefdmabkhaaW.PrintWords Go.Proofs.YtfcaaefdmabkhaaW.PrintLast Go.Proofs.YtfcaaefdmabkhaaW.PrintMore
set_option linter.unusedVariables false
set_option linter.unusedSimpArgs false
theorem goes33 (k : Nat) (hk : 7000 ≤ k) : Qa0.f k = some true := QeM Qa0.mono (show 400 ≤ k by omega) (by decide +kernel)
theorem QfR (s : ByteArray) (kd cu un hc cp : Int) (h : chkA s kd cu un hc cp = 0) : (1 ≤ kd ∧ kd ≤ 3) ∧ (0 ≤ cp ∧ cp ≤ 1000) := by
 unfold chkA prt at h
 (repeat' split at h) <;> first | (cases h; done) | omega
theorem QeF (l : List Pled) (a b : ByteArray) (L : List As) (R : List Rt) (k : Nat) (hk : 7000 ≤ k) : QaW.f k l a b L R = some (pwS l a b L R) := by
 by_cases h : chkP l = 0
 ·by_cases h2 : chkAll L = 0
  ·have h3 := ((QcU l).1 h).1
   have h4 : L.length ≤ 1024 := by
    unfold chkAll at h2
    by_cases h5 : (L.length : Int) > 1024
    ·rw [if_pos h5] at h2; cases h2
    omega
   exact Qe5 l a b L R (by omega) (by omega) k hk
  unfold QaW.f pwS
  rw [QcY l k (by omega), Option.bind_some, if_pos h, if_pos h, Qc8 L k (by omega), Option.bind_some, if_neg h2, if_neg h2]
 unfold QaW.f pwS
 rw [QcY l k (by omega), Option.bind_some, if_neg h, if_neg h]
theorem Qdf (l : List Pled) (hbl : ∀ p ∈ l, bigOk p) (a b : ByteArray) (L : List As) (R : List Rt) (hb : ∀ a ∈ L, a.f0.size ≤ 9223372036854775807) (hr : ∀ r ∈ R, r.f0.size ≤ 9223372036854775807) (k : Nat) (hk : 7000 + szsP l + szA L + szR R ≤ k) : Qay.f k l a b L R = some (pwS l a b L R) := by
 by_cases h : chkP l = 0
 ·by_cases h2 : chkAll L = 0
  ·have h3 := ((QcU l).1 h).1
   have h4 : L.length ≤ 1024 := by
    unfold chkAll at h2
    by_cases h5 : (L.length : Int) > 1024
    ·rw [if_pos h5] at h2; cases h2
    omega
   exact QeK l hbl a b L R (by omega) (by omega) hb hr k hk
  unfold Qay.f pwS
  rw [QcO l hbl k (by omega), Option.bind_some, if_pos h, if_pos h, QcZ L hb k (by omega), Option.bind_some, if_neg h2, if_neg h2]
 unfold Qay.f pwS
 rw [QcO l hbl k (by omega), Option.bind_some, if_neg h, if_neg h]
theorem Qep {l : List Pled} {a b : ByteArray} {L : List As} {R : List Rt} (h : (pwS l a b L R).2 = 0) : goodP l ∧ L.length ≤ 1024 := by
 unfold pwS at h
 by_cases h1 : chkP l = 0
 ·rw [if_pos h1] at h
  by_cases h2 : chkAll L = 0
  ·refine ⟨(QcU l).1 h1, ?_⟩
   unfold chkAll at h2
   by_cases h5 : (L.length : Int) > 1024
   ·rw [if_pos h5] at h2; cases h2
   omega
  rw [if_neg h2] at h; exact absurd h h2
 rw [if_neg h1] at h; exact absurd h h1
def capP (L : List As) (p : Pled) : Int := (findA L p.f1 0 L.length).2.2.2.2.2.1
def kindP (L : List As) (p : Pled) : Int := (findA L p.f1 0 L.length).2.1
theorem Qc1 {L : List As} {R : List Rt} {p : Pled} (h : wokP L R p) : (1 ≤ kindP L p ∧ kindP L p ≤ 3) ∧ (0 ≤ capP L p ∧ capP L p ≤ 1000) ∧ (0 ≤ wvP L R p ∧ wvP L R p ≤ 1152921504606846976) := by
 unfold wokP at h
 unfold wvP capP kindP
 generalize findA L p.f1 0 L.length = a at *
 obtain ⟨_, h⟩ := h
 unfold worOf at *
 have hv : chkA a.1 a.2.1 a.2.2.1 a.2.2.2.1 a.2.2.2.2.1 a.2.2.2.2.2.1 = 0 := by
  unfold worS at h
  by_cases h1 : (valS (chkA a.1 a.2.1 a.2.2.1 a.2.2.2.1 a.2.2.2.2.1 a.2.2.2.2.2.1) a.2.2.2.1 p.f2).2 = 0
  ·exact (QcR h1).1
  rw [if_neg h1] at h; exact absurd h h1
 obtain ⟨_, hun, hh⟩ := Qdy _ _ _ _ _ _ hv
 obtain ⟨hk, hc⟩ := QfR _ _ _ _ _ _ hv
 rw [hv] at h ⊢
 exact ⟨hk, hc, wor_bd hun hh h⟩
def moneyN (n : Int) : Prop := 0 ≤ n ∧ n ≤ 1152921504606846976
instance (n : Int) : Decidable (moneyN n) := inferInstanceAs (Decidable (_ ∧ _))
end Go.Proofs.Ytfcaaefdmabkhaa.Pr
