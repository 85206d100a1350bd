/- Rates: rounding rises; there and back. -/
import Derived.Test.YtaiekjimdjlgbaaQAC7LmRate
import Derived.Test.YtaiekjimdjlgbaaQAC7LmRate2
import Derived.Test.YtaiekjimdjlgbaaQAC7P0
namespace Go.Proofs.Ytaiekjimdjlgbaa.Pr
open Go.RowKit Go.Proofs.Ytaiekjimdjlgbaa.Pr Go.Proofs.YtaiekjimdjlgbaaW.PrintWords Go.Proofs.YtaiekjimdjlgbaaW.PrintLast Go.Proofs.YtaiekjimdjlgbaaW.PrintMore
set_option linter.unusedVariables false
set_option linter.unusedSimpArgs false
theorem tailS_zero (l : List Rt) : ∀ n i : Nat, tailS l i n = 0 → rateS l = 0
  | 0, i, h => h
  | n + 1, i, h => by
    rw [tailS_succ] at h
    by_cases c : (findS (rd_T94 l (i : Int)).f0 l).1 = (i : Int)
    · rw [if_pos c] at h; exact tailS_zero l n (i + 1) h
    · rw [if_neg c] at h; cases h
theorem chkR_rates (l : List Rt) (h : chkR l = 0) : ∀ r ∈ l, 1 ≤ r.f1 ∧ r.f1 ≤ 1000000000000 := by
  unfold chkR at h
  by_cases c : l.length = 0 ∨ 8 < l.length
  · rw [if_pos c] at h; cases h
  · rw [if_neg c] at h
    by_cases d : l.any badN = true
    · rw [if_pos d] at h; cases h
    · rw [if_neg d] at h
      have hz := tailS_zero l _ _ h
      unfold rateS at hz
      by_cases e : (rd_T94 l 0).f1 = 1000000
      · rw [if_pos e] at hz
        by_cases f : l.any badM = true
        · rw [if_pos f] at hz; cases hz
        · intro r hr
          have : badM r = false := by
            cases hb : badM r with
            | false => rfl
            | true => exact absurd (List.any_eq_true.2 ⟨r, hr, hb⟩) f
          unfold badM at this
          simp at this
          omega
      · rw [if_neg e] at hz; cases hz
theorem inR_rate (l : List Rt) (h : chkR l = 0) (i : Int) (hi : inR l i) : 1 ≤ (rd_T94 l i).f1 ∧ (rd_T94 l i).f1 ≤ 1000000000000 := by
  obtain ⟨j, rfl⟩ := Int.eq_ofNat_of_zero_le hi.1
  have := hi.2
  exact chkR_rates l h _ (rt_mem l j (by omega))
theorem convS_in (l : List Rt) (n a b m : Int) (h1 : chkR l = 0) (ha : inR l a) (hb : inR l b) (hn : mdFits n) (hm : 1 ≤ m ∧ m ≤ 5) : convS l n a b m = mdRes n (rd_T94 l a).f1 (rd_T94 l b).f1 m := by
  have ra := inR_rate l h1 a ha
  have rb := inR_rate l h1 b hb
  unfold convS mdS
  rw [if_pos h1, if_pos ⟨ha, hb⟩, if_pos ⟨hn, by unfold mdFits; omega, by unfold mdFits; omega, hm⟩, if_neg (by omega)]
end Go.Proofs.Ytaiekjimdjlgbaa.Pr
