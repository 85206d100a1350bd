/- Rates: rounding rises; there and back. -/
import Derived.Test.YtfcaaefdmabkhaaQEB3LmRate
import Derived.Test.YtfcaaefdmabkhaaQEB3LmRate2
import Derived.Test.YtfcaaefdmabkhaaQEB3P0
namespace Go.Proofs.Ytfcaaefdmabkhaa.Pr
open Go.RowKit Go.Proofs.Ytfcaaefdmabkhaa.Pr Go.Proofs.YtfcaaefdmabkhaaW.PrintWords Go.Proofs.YtfcaaefdmabkhaaW.PrintLast Go.Proofs.YtfcaaefdmabkhaaW.PrintMore
set_option linter.unusedVariables false
set_option linter.unusedSimpArgs false
theorem QcM (l : List Rt) : ∀ n i : Nat, tailS l i n = 0 → rateS l = 0
 | 0, i, h => h
 | n + 1, i, h => by
  rw [QcL] at h
  by_cases c : (findS (rd_T98 l (i : Int)).f0 l).1 = (i : Int)
  ·rw [if_pos c] at h; exact QcM l n (i + 1) h
  rw [if_neg c] at h; cases h
theorem QdP (l : List Rt) (h : chkR l = 0) : ∀ r ∈ l, 1 ≤ r.f1 ∧ r.f1 ≤ 1000000000000 := by
 unfold chkR at h
 by_cases c : l.length = 0 ∨ 8 < l.length
 ·rw [if_pos c] at h; cases h
 rw [if_neg c] at h
 by_cases d : l.any badN = true
 ·rw [if_pos d] at h; cases h
 rw [if_neg d] at h
 have hz := QcM l _ _ h
 unfold rateS at hz
 by_cases e : (rd_T98 l 0).f1 = 1000000
 ·rw [if_pos e] at hz
  by_cases f : l.any badM = true
  ·rw [if_pos f] at hz; cases hz
  intro r hr
  have : badM r = false := by
   cases hb : badM r with
   | false => rfl
   | true => exact absurd (List.any_eq_true.2 ⟨r, hr, hb⟩) f
  unfold badM at this
  simp at this
  omega
 rw [if_neg e] at hz; cases hz
theorem QbF (l : List Rt) (h : chkR l = 0) (i : Int) (hi : inR l i) : 1 ≤ (rd_T98 l i).f1 ∧ (rd_T98 l i).f1 ≤ 1000000000000 := by
 obtain ⟨j, rfl⟩ := Int.eq_ofNat_of_zero_le hi.1
 have := hi.2
 exact QdP l h _ (rt_mem l j (by omega))
def rnd (mode : Int) (below : Bool) (c X : Int) : Int := if 0 < X % c ∧ mdAway mode below (X / c) (X % c) c = true then X / c + 1 else X / c
theorem Qcu (a b c : Int) (hb : 0 < b) (hc : 0 < c) : Qbm a b c = decide (a < 0) := by
 unfold Qbm
 rw [decide_eq_false (show ¬ b < 0 by omega), decide_eq_false (show ¬ c < 0 by omega)]
 by_cases h : a < 0 <;> simp [h]
theorem Qfe (a b c m : Int) (hb : 0 < b) (hc : 0 < c) : mdQ a b c m = rnd m (decide (a < 0)) c ((a.natAbs : Int) * b) := by
 unfold mdQ rnd
 rw [Qcu a b c hb hc, show ((b.natAbs : Nat) : Int) = b by omega, show ((c.natAbs : Nat) : Int) = c by omega]
def mdV (a b c m : Int) : Int := if a < 0 then -(rnd m true c ((a.natAbs : Int) * b)) else rnd m false c ((a.natAbs : Int) * b)
theorem QeL (a b c m : Int) (hb : 0 < b) (hc : 0 < c) (h : (mdRes a b c m).2 = 0) : mdRes a b c m = (mdV a b c m, 0) := by
 unfold mdRes at *
 by_cases h1 : 1152921504606846976 < mdQ a b c m
 ·rw [if_pos h1] at h; cases h
 rw [if_neg h1, Qcu a b c hb hc, Qfe a b c m hb hc]
 unfold mdV
 by_cases h2 : a < 0
 ·simp [h2]
 simp [h2]
theorem Qeu (l : List Rt) (n a b m : Int) (h : (convS l n a b m).2 = 0) : chkR l = 0 ∧ inR l a ∧ inR l b ∧ mdFits n ∧ (1 ≤ m ∧ m ≤ 5) ∧ convS l n a b m = (mdV n (rd_T98 l a).f1 (rd_T98 l b).f1 m, 0) := by
 unfold convS at *
 by_cases h1 : chkR l = 0
 ·rw [if_pos h1] at h ⊢
  by_cases h2 : inR l a ∧ inR l b
  ·rw [if_pos h2] at h ⊢
   have ra := QbF l h1 a h2.1
   have rb := QbF l h1 b h2.2
   unfold mdS at *
   by_cases h3 : mdFits n ∧ mdFits (rd_T98 l a).f1 ∧ mdFits (rd_T98 l b).f1 ∧ 1 ≤ m ∧ m ≤ 5
   ·rw [if_pos h3, if_neg (by omega)] at h ⊢
    exact ⟨h1, h2.1, h2.2, h3.1, h3.2.2.2, QeL _ _ _ _ (by omega) (by omega) h⟩
   rw [if_neg h3] at h; cases h
  rw [if_neg h2] at h; cases h
 rw [if_neg h1] at h; exact absurd h h1
theorem Qet (l : List Rt) (n a b m : Int) (h1 : chkR l = 0) (ha : inR l a) (hb : inR l b) (hn : mdFits n) (hm : 1 ≤ m ∧ m ≤ 5) : convS l n a b m = mdRes n (rd_T98 l a).f1 (rd_T98 l b).f1 m := by
 have ra := QbF l h1 a ha
 have rb := QbF l h1 b hb
 unfold convS mdS
 rw [if_pos h1, if_pos ⟨ha, hb⟩, if_pos ⟨hn, by unfold mdFits; omega, by unfold mdFits; omega, hm⟩, if_neg (by omega)]
end Go.Proofs.Ytfcaaefdmabkhaa.Pr
