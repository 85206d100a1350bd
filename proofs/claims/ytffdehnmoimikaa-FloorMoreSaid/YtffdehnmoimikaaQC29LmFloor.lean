/- Floor: what positions count, as sums; what the program and the reference answer. -/
import Derived.Test.YtffdehnmoimikaaQC29LmCents
import Derived.Test.YtffdehnmoimikaaQC29LmPos
import Derived.Test.YtffdehnmoimikaaQC29P0
import Derived.Test.YtffdehnmoimikaaQC29P1
namespace Go.Proofs.Ytffdehnmoimikaa.Pr
open Go.RowKit Go.Proofs.Ytffdehnmoimikaa.Pr Go.Proofs.YtffdehnmoimikaaW.PrintWords Go.Proofs.YtffdehnmoimikaaW.PrintLast Go.Proofs.YtffdehnmoimikaaW.PrintMore
set_option linter.unusedVariables false
set_option linter.unusedSimpArgs false
def cnt (g : Posn → Int) (j : Int) : List Posn → Int
  | [] => 0
  | p :: t => (if p.f0.f1 = j then g p else 0) + cnt g j t
theorem cnt_cons (g : Posn → Int) (j : Int) (p : Posn) (t : List Posn) : cnt g j (p :: t) = (if p.f0.f1 = j then g p else 0) + cnt g j t := rfl
theorem cnt_bd (g : Posn → Int) (j : Int) : ∀ l : List Posn, (∀ p ∈ l, 0 ≤ g p ∧ g p ≤ 1048576) → 0 ≤ cnt g j l ∧ cnt g j l ≤ 1048576 * (l.length : Int)
  | [], _ => by simp [cnt]
  | p :: t, h => by
    have ih := cnt_bd g j t (fun x hx => h x (List.mem_cons_of_mem _ hx))
    have hp := h p (by simp)
    unfold cnt
    rw [List.length_cons]
    split <;> omega
theorem cntW_go (g : Posn → Int) (j : Int) : ∀ (l : List Posn) (a : Int), 0 ≤ a → a + 1048576 * (l.length : Int) ≤ 1152921504606846976 → (∀ p ∈ l, 0 ≤ g p ∧ g p ≤ 1048576) → l.foldl (fun a p => if p.f0.f1 = j then wrap64 (a + g p) else a) a = a + cnt g j l
  | [], a, _, _, _ => by simp [cnt]
  | p :: t, a, h0, h1, h => by
    have hp := h p (by simp)
    rw [List.length_cons] at h1
    rw [List.foldl_cons]
    have ht := fun x hx => h x (List.mem_cons_of_mem p hx)
    by_cases e : p.f0.f1 = j
    · rw [if_pos e, IntWalk.wrap64_in _ (by omega), cntW_go g j t _ (by omega) (by omega) ht, cnt, if_pos e]
      omega
    · rw [if_neg e, cntW_go g j t _ (by omega) (by omega) ht, cnt, if_neg e]
      omega
theorem cntW_eq (g : Posn → Int) (j : Int) (l : List Posn) (hl : l.length ≤ 128) (h : ∀ p ∈ l, 0 ≤ g p ∧ g p ≤ 1048576) : cntW g j l = cnt g j l := by
  unfold cntW
  rw [cntW_go g j l 0 (by omega) (by omega) h]
  omega
theorem near_bd (day days b d e : Int) (hd : 0 ≤ d ∧ d ≤ 1048576) (he : 0 ≤ e ∧ e ≤ 1048576) : 0 ≤ nearOf day days b d e ∧ nearOf day days b d e ≤ 1048576 := by
  unfold nearOf mx
  rw [IntWalk.wrap64_in (d - e) (by omega), IntWalk.wrap64_in (e - d) (by omega)]
  (repeat' split) <;> omega
theorem short_bd {l : List Posn} (h : goodPos l) : ∀ p ∈ l, 0 ≤ S40.f2 p ∧ S40.f2 p ≤ 1048576 := fun p hp => (h.2.2 p hp).2.1
theorem nears_bd {l : List Posn} (h : goodPos l) (day days : Int) : ∀ p ∈ l, 0 ≤ (fun p : Posn => nearOf day days p.f0.f2 p.f1 p.f2) p ∧ (fun p : Posn => nearOf day days p.f0.f2 p.f1 p.f2) p ≤ 1048576 := fun p hp => near_bd _ _ _ _ _ (h.2.2 p hp).1 (h.2.2 p hp).2.1
/-- Short options. -/
def optS (l : List Posn) : Int := cnt S40.f2 2 l + cnt S40.f2 3 l
def shortsS (l : List Posn) : Int × Int := if chk l = 0 then (optS l, 0) else (0, chk l)
theorem optS_bd {l : List Posn} (h : goodPos l) : 0 ≤ optS l ∧ optS l ≤ 268435456 := by
  have a := cnt_bd S40.f2 2 l (short_bd h)
  have b := cnt_bd S40.f2 3 l (short_bd h)
  have := h.1
  unfold optS
  omega
theorem shorts_eq (l : List Posn) (k : Nat) (hk : 258 ≤ k) : floor_Shorts.f k l = some (shortsS l) := by
  unfold floor_Shorts.f shortsS
  rw [check_eq l k hk, Option.bind_some]
  by_cases h : chk l = 0
  · have hg := (chk_zero l).1 h
    have hb := optS_bd hg
    rw [if_pos h, if_pos h, cntW_eq _ _ l hg.1 (short_bd hg), cntW_eq _ _ l hg.1 (short_bd hg)]
    unfold optS at hb ⊢
    rw [IntWalk.wrap64_in _ (by omega)]
  · rw [if_neg h, if_neg h]
/-- A number that is not below 0 times a rate that may be. -/
theorem times_eq (a per : Int) (k : Nat) (hk : 20 ≤ k) (ha : 0 ≤ a ∧ a ≤ 268435456) (hp : 0 ≤ per ∧ per ≤ 68719476736) : cents_Mul.f k a per = contangoref26_times.f a per := by
  have hf : mdFits a := by unfold mdFits; omega
  have hg : mdFits per := by unfold mdFits; omega
  rw [mul_eq a per k (by omega)]
  unfold contangoref26_times.f mulS
  rw [if_pos ⟨hf, hg⟩]
  have hm : 0 ≤ a * per := Int.mul_nonneg ha.1 hp.1
  have hm2 : a * per ≤ 268435456 * 68719476736 := Int.le_trans (Int.mul_le_mul_of_nonneg_right ha.2 hp.1) (Int.mul_le_mul_of_nonneg_left hp.2 (by omega))
  by_cases h0 : per > 0
  · have hper : ¬ per = 0 := by omega
    have hq : (0 : Int) ≤ 1152921504606846976 / per := Int.ediv_nonneg (by omega) (by omega)
    have hq2 : (1152921504606846976 : Int) / per ≤ 1152921504606846976 := Int.ediv_le_self _ (by omega)
    have key : a > 1152921504606846976 / per ↔ a * per > 1152921504606846976 := by
      rw [gt_iff_lt, gt_iff_lt, Int.ediv_lt_iff_lt_mul h0]
    rw [Int.tdiv_eq_ediv_of_nonneg (by omega), IntWalk.wrap64_in (1152921504606846976 / per) ⟨by omega, by omega⟩]
    simp only [h0, hper, if_true, if_false]
    by_cases hz : a > 1152921504606846976 / per
    · have := key.1 hz
      have hn : ¬ mdFits (a * per) := by unfold mdFits; omega
      simp only [hz, hn, if_true, if_false]
    · have h1 : ¬ a * per > 1152921504606846976 := fun q => hz (key.2 q)
      have hn : mdFits (a * per) := by unfold mdFits; omega
      simp only [hz, hn, if_true, if_false]
      rw [IntWalk.wrap64_in (a * per) ⟨by omega, by omega⟩]
  · have e : per = 0 := by omega
    subst e
    have hn : mdFits (a * 0) := by unfold mdFits; omega
    rw [if_pos hn, if_neg h0, IntWalk.wrap64_in (a * 0) ⟨by omega, by omega⟩]
theorem rate26_eq (a : Int) : floor_rate.f a = some (decide (0 ≤ a ∧ a ≤ 68719476736)) := by
  unfold floor_rate.f
  split
  · congr 1; rw [decide_eq_decide]; omega
  · congr 1; exact (decide_eq_false (by omega)).symm
def leastS (l : List Posn) (per : Int) : Option (Int × Int) := if chk l = 0 then (if 0 ≤ per ∧ per ≤ 68719476736 then contangoref26_times.f (optS l) per else some (0, 2)) else some (0, chk l)
theorem opt_pair {α β : Type} (o : Option (α × β)) : (o.bind fun b => some (b.1, b.2)) = o := by cases o <;> rfl
theorem least_eq (l : List Posn) (per : Int) (k : Nat) (hk : 258 ≤ k) : floor_Least.f k l per = leastS l per := by
  unfold floor_Least.f leastS
  rw [shorts_eq l k hk, Option.bind_some]
  unfold shortsS
  by_cases h : chk l = 0
  · have hb := optS_bd ((chk_zero l).1 h)
    simp only [h, if_true, rate26_eq, Option.bind_some, decide_eq_true_eq, opt_pair]
    split
    · rename_i hp
      rw [times_eq _ _ k (by omega) (by omega) hp]
    · rfl
  · simp [h]
theorem fgoes (k : Nat) (hk : 20 ≤ k) : contangolaw26_goes.f k = some true := at_rounds contangolaw26_goes.mono hk (by decide +kernel)
/-- What futures near their end count. -/
abbrev nearP (day days : Int) : Posn → Int := fun p => nearOf day days p.f0.f2 p.f1 p.f2
theorem nearP_bd {l : List Posn} (h : goodPos l) (day days : Int) : ∀ p ∈ l, 0 ≤ nearP day days p ∧ nearP day days p ≤ 1048576 := fun p hp => near_bd _ _ _ _ _ (h.2.2 p hp).1 (h.2.2 p hp).2.1
def nearS (l : List Posn) (day days per : Int) : Option (Int × Int) :=
  if chk l = 0 then (if day < 0 ∨ 73048 < day then some (0, 15) else if days < 0 ∨ 73048 < days then some (0, 2) else if 0 ≤ per ∧ per ≤ 68719476736 then contangoref26_times.f (cnt (nearP day days) 1 l) per else some (0, 2)) else some (0, chk l)
theorem near_sum_bd {l : List Posn} (h : goodPos l) (day days : Int) : 0 ≤ cnt (nearP day days) 1 l ∧ cnt (nearP day days) 1 l ≤ 268435456 := by
  have a := cnt_bd (nearP day days) 1 l (nearP_bd h day days)
  have := h.1
  omega
theorem near_eq (l : List Posn) (day days per : Int) (k : Nat) (hk : 258 ≤ k) : floor_Near.f k l day days per = nearS l day days per := by
  unfold floor_Near.f nearS
  rw [check_eq l k hk, Option.bind_some]
  by_cases h : chk l = 0
  · have hg := (chk_zero l).1 h
    have hb := near_sum_bd hg day days
    rw [if_pos h, if_pos h, cntW_eq _ _ l hg.1 (nears_bd hg day days)]
    by_cases hp : 0 ≤ per ∧ per ≤ 68719476736
    · rw [times_eq _ _ k (by omega) hb hp]
    · simp only [hp, if_false]
  · rw [if_neg h, if_neg h]
end Go.Proofs.Ytffdehnmoimikaa.Pr
