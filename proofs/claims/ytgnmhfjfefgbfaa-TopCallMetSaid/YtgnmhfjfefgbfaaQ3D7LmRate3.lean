/- Rates: rounding rises; there and back. -/
import Derived.Test.YtgnmhfjfefgbfaaQ3D7LmRate
import Derived.Test.YtgnmhfjfefgbfaaQ3D7LmRate2
import Derived.Test.YtgnmhfjfefgbfaaQ3D7P0
namespace Go.Proofs.Ytgnmhfjfefgbfaa.Pr
open Go.RowKit Go.Proofs.Ytgnmhfjfefgbfaa.Pr Go.Proofs.YtgnmhfjfefgbfaaW.PrintWords Go.Proofs.YtgnmhfjfefgbfaaW.PrintLast Go.Proofs.YtgnmhfjfefgbfaaW.PrintMore
set_option linter.unusedVariables false
set_option linter.unusedSimpArgs false
theorem QdG (l : List Rt) : ∀ n i : Nat, tailS l i n = 0 → rateS l = 0
 | 0, i, h => h
 | n + 1, i, h => by
  rw [QdF] at h
  by_cases c : (findS (Qa0 l (i : Int)).f0 l).1 = (i : Int)
  ·rw [if_pos c] at h; exact QdG l n (i + 1) h
  rw [if_neg c] at h; cases h
theorem QeK (l : List Rt) (h : chkR l = 0) : ∀ r ∈ l, 1 ≤ r.f1 ∧ r.f1 ≤ 1000000000000 := by
 unfold chkR at h
 by_cases c : l.length = 0 ∨ 8 < l.length
 ·rw [if_pos c] at h; cases h
 rw [if_neg c] at h
 by_cases d : l.any badN = true
 ·rw [if_pos d] at h; cases h
 rw [if_neg d] at h
 have hz := QdG l _ _ h
 unfold rateS at hz
 by_cases e : (Qa0 l 0).f1 = 1000000
 ·rw [if_pos e] at hz
  by_cases f : l.any badM = true
  ·rw [if_pos f] at hz; cases hz
  intro r hr
  have : badM r = false := by
   cases hb : badM r with
   | false => rfl
   | true => exact absurd (List.any_eq_true.2 ⟨r, hr, hb⟩) f
  unfold badM at this
  simp at this
  omega
 rw [if_neg e] at hz; cases hz
theorem QbZ (l : List Rt) (h : chkR l = 0) (i : Int) (hi : inR l i) : 1 ≤ (Qa0 l i).f1 ∧ (Qa0 l i).f1 ≤ 1000000000000 := by
 obtain ⟨j, rfl⟩ := Int.eq_ofNat_of_zero_le hi.1
 have := hi.2
 exact QeK l h _ (rt_mem l j (by omega))
def rnd (mode : Int) (below : Bool) (c X : Int) : Int := if 0 < X % c ∧ mdAway mode below (X / c) (X % c) c = true then X / c + 1 else X / c
theorem Qdl (a b c : Int) (hb : 0 < b) (hc : 0 < c) : QbH a b c = decide (a < 0) := by
 unfold QbH
 rw [decide_eq_false (show ¬ b < 0 by omega), decide_eq_false (show ¬ c < 0 by omega)]
 by_cases h : a < 0 <;> simp [h]
theorem Qgn (a b c m : Int) (hb : 0 < b) (hc : 0 < c) : mdQ a b c m = rnd m (decide (a < 0)) c ((a.natAbs : Int) * b) := by
 unfold mdQ rnd
 rw [Qdl a b c hb hc, show ((b.natAbs : Nat) : Int) = b by omega, show ((c.natAbs : Nat) : Int) = c by omega]
def mdV (a b c m : Int) : Int := if a < 0 then -(rnd m true c ((a.natAbs : Int) * b)) else rnd m false c ((a.natAbs : Int) * b)
theorem QfN (a b c m : Int) (hb : 0 < b) (hc : 0 < c) (h : (mdRes a b c m).2 = 0) : mdRes a b c m = (mdV a b c m, 0) := by
 unfold mdRes at *
 by_cases h1 : 1152921504606846976 < mdQ a b c m
 ·rw [if_pos h1] at h; cases h
 rw [if_neg h1, Qdl a b c hb hc, Qgn a b c m hb hc]
 unfold mdV
 by_cases h2 : a < 0
 ·simp [h2]
 simp [h2]
theorem QfA (l : List Rt) (n a b m : Int) (h : (convS l n a b m).2 = 0) : chkR l = 0 ∧ inR l a ∧ inR l b ∧ mdFits n ∧ (1 ≤ m ∧ m ≤ 5) ∧ convS l n a b m = (mdV n (Qa0 l a).f1 (Qa0 l b).f1 m, 0) := by
 unfold convS at *
 by_cases h1 : chkR l = 0
 ·rw [if_pos h1] at h ⊢
  by_cases h2 : inR l a ∧ inR l b
  ·rw [if_pos h2] at h ⊢
   have ra := QbZ l h1 a h2.1
   have rb := QbZ l h1 b h2.2
   unfold mdS at *
   by_cases h3 : mdFits n ∧ mdFits (Qa0 l a).f1 ∧ mdFits (Qa0 l b).f1 ∧ 1 ≤ m ∧ m ≤ 5
   ·rw [if_pos h3, if_neg (by omega)] at h ⊢
    exact ⟨h1, h2.1, h2.2, h3.1, h3.2.2.2, QfN _ _ _ _ (by omega) (by omega) h⟩
   rw [if_neg h3] at h; cases h
  rw [if_neg h2] at h; cases h
 rw [if_neg h1] at h; exact absurd h h1
theorem Qfz (l : List Rt) (n a b m : Int) (h1 : chkR l = 0) (ha : inR l a) (hb : inR l b) (hn : mdFits n) (hm : 1 ≤ m ∧ m ≤ 5) : convS l n a b m = mdRes n (Qa0 l a).f1 (Qa0 l b).f1 m := by
 have ra := QbZ l h1 a ha
 have rb := QbZ l h1 b hb
 unfold convS mdS
 rw [if_pos h1, if_pos ⟨ha, hb⟩, if_pos ⟨hn, by unfold mdFits; omega, by unfold mdFits; omega, hm⟩, if_neg (by omega)]
end Go.Proofs.Ytgnmhfjfefgbfaa.Pr
