/- Rates: rounding rises; there and back. -/
import Derived.Test.YtaembbndjpebhaaQ2A6LmRate
import Derived.Test.YtaembbndjpebhaaQ2A6LmRate2
import Derived.Test.YtaembbndjpebhaaQ2A6P0
namespace Go.Proofs.Ytaembbndjpebhaa.Pr
open Go.RowKit Go.Proofs.Ytaembbndjpebhaa.Pr Go.Proofs.YtaembbndjpebhaaW.PrintWords Go.Proofs.YtaembbndjpebhaaW.PrintLast Go.Proofs.YtaembbndjpebhaaW.PrintMore
set_option linter.unusedVariables false
set_option linter.unusedSimpArgs false
theorem tailS_zero (l : List Rt) : ∀ n i : Nat, tailS l i n = 0 → rateS l = 0
  | 0, i, h => h
  | n + 1, i, h => by
    rw [tailS_succ] at h
    by_cases c : (findS (rd_T87 l (i : Int)).f0 l).1 = (i : Int)
    · rw [if_pos c] at h; exact tailS_zero l n (i + 1) h
    · rw [if_neg c] at h; cases h
theorem chkR_rates (l : List Rt) (h : chkR l = 0) : ∀ r ∈ l, 1 ≤ r.f1 ∧ r.f1 ≤ 1000000000000 := by
  unfold chkR at h
  by_cases c : l.length = 0 ∨ 8 < l.length
  · rw [if_pos c] at h; cases h
  · rw [if_neg c] at h
    by_cases d : l.any badN = true
    · rw [if_pos d] at h; cases h
    · rw [if_neg d] at h
      have hz := tailS_zero l _ _ h
      unfold rateS at hz
      by_cases e : (rd_T87 l 0).f1 = 1000000
      · rw [if_pos e] at hz
        by_cases f : l.any badM = true
        · rw [if_pos f] at hz; cases hz
        · intro r hr
          have : badM r = false := by
            cases hb : badM r with
            | false => rfl
            | true => exact absurd (List.any_eq_true.2 ⟨r, hr, hb⟩) f
          unfold badM at this
          simp at this
          omega
      · rw [if_neg e] at hz; cases hz
theorem inR_rate (l : List Rt) (h : chkR l = 0) (i : Int) (hi : inR l i) : 1 ≤ (rd_T87 l i).f1 ∧ (rd_T87 l i).f1 ≤ 1000000000000 := by
  obtain ⟨j, rfl⟩ := Int.eq_ofNat_of_zero_le hi.1
  have := hi.2
  exact chkR_rates l h _ (rt_mem l j (by omega))
/-- A product that is not below 0, divided and rounded. -/
def rnd (mode : Int) (below : Bool) (c X : Int) : Int := if 0 < X % c ∧ mdAway mode below (X / c) (X % c) c = true then X / c + 1 else X / c
theorem rnd_mono (mode : Int) (below : Bool) (c X Y : Int) (hc : 0 < c) (h : X ≤ Y) : rnd mode below c X ≤ rnd mode below c Y := by
  have hq : X / c ≤ Y / c := Int.ediv_le_ediv hc h
  by_cases hlt : X / c < Y / c
  · unfold rnd
    (repeat' split) <;> omega
  · have he : X / c = Y / c := by omega
    have eX := Int.mul_ediv_add_emod X c
    have eY := Int.mul_ediv_add_emod Y c
    rw [he] at eX
    have hr : X % c ≤ Y % c := by omega
    have hYc := Int.emod_lt_of_pos Y hc
    unfold rnd
    by_cases a : 0 < X % c ∧ mdAway mode below (X / c) (X % c) c = true
    · have b : 0 < Y % c ∧ mdAway mode below (Y / c) (Y % c) c = true := by
        refine ⟨by omega, ?_⟩
        have a2 := a.2
        rw [he] at a2
        unfold mdAway at a2 ⊢
        simp only [Bool.or_eq_true, Bool.and_eq_true, decide_eq_true_eq] at a2 ⊢
        rcases a2 with ((a2 | a2) | a2) | ⟨a2, a3⟩
        · exact Or.inl (Or.inl (Or.inl a2))
        · exact Or.inl (Or.inl (Or.inr a2))
        · exact Or.inl (Or.inr a2)
        · refine Or.inr ⟨a2, ?_⟩
          rcases a3 with a3 | ⟨a3, a4⟩
          · left; omega
          · by_cases hh : X % c = Y % c
            · right; exact ⟨by omega, a4⟩
            · left; omega
      rw [if_pos a, if_pos b]
      omega
    · rw [if_neg a]
      split <;> omega
theorem rnd_nonneg (mode : Int) (below : Bool) (c X : Int) (hc : 0 < c) (h : 0 ≤ X) : 0 ≤ rnd mode below c X := by
  have := Int.ediv_nonneg h (Int.le_of_lt hc)
  unfold rnd
  split <;> omega
theorem mdBelow_pos (a b c : Int) (hb : 0 < b) (hc : 0 < c) : mdBelow a b c = decide (a < 0) := by
  unfold mdBelow
  rw [decide_eq_false (show ¬ b < 0 by omega), decide_eq_false (show ¬ c < 0 by omega)]
  by_cases h : a < 0 <;> simp [h]
theorem mdQ_rnd (a b c m : Int) (hb : 0 < b) (hc : 0 < c) : mdQ a b c m = rnd m (decide (a < 0)) c ((a.natAbs : Int) * b) := by
  unfold mdQ rnd
  rw [mdBelow_pos a b c hb hc, show ((b.natAbs : Nat) : Int) = b by omega, show ((c.natAbs : Nat) : Int) = c by omega]
/-- The signed result. -/
def mdV (a b c m : Int) : Int := if a < 0 then -(rnd m true c ((a.natAbs : Int) * b)) else rnd m false c ((a.natAbs : Int) * b)
theorem mdRes_ok (a b c m : Int) (hb : 0 < b) (hc : 0 < c) (h : (mdRes a b c m).2 = 0) : mdRes a b c m = (mdV a b c m, 0) := by
  unfold mdRes at *
  by_cases h1 : 1152921504606846976 < mdQ a b c m
  · rw [if_pos h1] at h; cases h
  · rw [if_neg h1, mdBelow_pos a b c hb hc, mdQ_rnd a b c m hb hc]
    unfold mdV
    by_cases h2 : a < 0
    · simp [h2]
    · simp [h2]
theorem mdV_mono (a a' b c m : Int) (h : a ≤ a') (hb : 0 < b) (hc : 0 < c) : mdV a b c m ≤ mdV a' b c m := by
  unfold mdV
  have nn : ∀ x : Int, 0 ≤ (x.natAbs : Int) * b := fun x => Int.mul_nonneg (by omega) (by omega)
  by_cases h1 : a < 0
  · rw [if_pos h1]
    by_cases h2 : a' < 0
    · rw [if_pos h2]
      have := rnd_mono m true c ((a'.natAbs : Int) * b) ((a.natAbs : Int) * b) hc (Int.mul_le_mul_of_nonneg_right (by omega) (by omega))
      omega
    · rw [if_neg h2]
      have h3 := rnd_nonneg m true c _ hc (nn a)
      have h4 := rnd_nonneg m false c _ hc (nn a')
      omega
  · rw [if_neg h1, if_neg (by omega)]
    exact rnd_mono m false c _ _ hc (Int.mul_le_mul_of_nonneg_right (by omega) (by omega))
theorem convS_ok (l : List Rt) (n a b m : Int) (h : (convS l n a b m).2 = 0) : chkR l = 0 ∧ inR l a ∧ inR l b ∧ mdFits n ∧ (1 ≤ m ∧ m ≤ 5) ∧ convS l n a b m = (mdV n (rd_T87 l a).f1 (rd_T87 l b).f1 m, 0) := by
  unfold convS at *
  by_cases h1 : chkR l = 0
  · rw [if_pos h1] at h ⊢
    by_cases h2 : inR l a ∧ inR l b
    · rw [if_pos h2] at h ⊢
      have ra := inR_rate l h1 a h2.1
      have rb := inR_rate l h1 b h2.2
      unfold mdS at *
      by_cases h3 : mdFits n ∧ mdFits (rd_T87 l a).f1 ∧ mdFits (rd_T87 l b).f1 ∧ 1 ≤ m ∧ m ≤ 5
      · rw [if_pos h3, if_neg (by omega)] at h ⊢
        exact ⟨h1, h2.1, h2.2, h3.1, h3.2.2.2, mdRes_ok _ _ _ _ (by omega) (by omega) h⟩
      · rw [if_neg h3] at h; cases h
    · rw [if_neg h2] at h; cases h
  · rw [if_neg h1] at h; exact absurd h h1
theorem convS_in (l : List Rt) (n a b m : Int) (h1 : chkR l = 0) (ha : inR l a) (hb : inR l b) (hn : mdFits n) (hm : 1 ≤ m ∧ m ≤ 5) : convS l n a b m = mdRes n (rd_T87 l a).f1 (rd_T87 l b).f1 m := by
  have ra := inR_rate l h1 a ha
  have rb := inR_rate l h1 b hb
  unfold convS mdS
  rw [if_pos h1, if_pos ⟨ha, hb⟩, if_pos ⟨hn, by unfold mdFits; omega, by unfold mdFits; omega, hm⟩, if_neg (by omega)]
theorem rnd_exact (m : Int) (below : Bool) (c x : Int) (hc : 0 < c) : rnd m below c (x * c) = x := by
  unfold rnd
  rw [Int.mul_emod_left, if_neg (by omega), Int.mul_ediv_cancel _ (by omega)]
theorem rnd_down (below : Bool) (c X : Int) : rnd 1 below c X = X / c := by
  unfold rnd mdAway
  simp
theorem mdRes_same (n c : Int) (hc : 0 < c) (hn : mdFits n) : mdRes n c c 5 = (n, 0) := by
  unfold mdFits at hn
  unfold mdRes
  rw [mdQ_rnd n c c 5 hc hc, mdBelow_pos n c c hc hc, rnd_exact _ _ c _ hc, if_neg (by omega)]
  by_cases h : n < 0
  · simp [h]; omega
  · simp [h]; omega
/-- Rounded down: the size alone. -/
theorem mdRes_down (n b c : Int) (hb : 0 < b) (hc : 0 < c) : mdRes n b c 1 = if 1152921504606846976 < (n.natAbs : Int) * b / c then (0, 3) else (if n < 0 then -((n.natAbs : Int) * b / c) else (n.natAbs : Int) * b / c, 0) := by
  unfold mdRes
  rw [mdQ_rnd n b c 1 hb hc, mdBelow_pos n b c hb hc, rnd_down]
  by_cases h : n < 0 <;> simp [h]
end Go.Proofs.Ytaembbndjpebhaa.Pr
