/- Units: the least number that is worth so much, by the program and by the reference. -/
import Derived.Test.YtaiekjimdjlgbaaQ03ELmAsset
import Derived.Test.YtaiekjimdjlgbaaQ03ELmAssetMath
import Derived.Test.YtaiekjimdjlgbaaQ03ELmCentsMul
import Derived.Test.YtaiekjimdjlgbaaQ03ELmLeast
import Derived.Test.YtaiekjimdjlgbaaQ03ELmRate
import Derived.Test.YtaiekjimdjlgbaaQ03ELmRate2
import Derived.Test.YtaiekjimdjlgbaaQ03ELmRate3
import Derived.Test.YtaiekjimdjlgbaaQ03EP0
import Derived.Test.YtaiekjimdjlgbaaQ03EP3
import Derived.Test.YtaiekjimdjlgbaaQ03EP1
import Derived.Test.YtaiekjimdjlgbaaQ03EP4
namespace Go.Proofs.Ytaiekjimdjlgbaa.Pr
open Go.RowKit Go.Proofs.Ytaiekjimdjlgbaa.Pr Go.Proofs.YtaiekjimdjlgbaaW.PrintWords Go.Proofs.YtaiekjimdjlgbaaW.PrintLast Go.Proofs.YtaiekjimdjlgbaaW.PrintMore
set_option linter.unusedVariables false
set_option linter.unusedSimpArgs false
theorem worS_F (cu un hc q : Int) (l : List Rt) (h : chkR l = 0) (hcu : inR l cu) (hun : 1 ≤ un ∧ un ≤ 68719476736) (hh : 0 ≤ hc ∧ hc ≤ 1000) (hq : 0 ≤ q ∧ q ≤ 1152921504606846976) :
    worS 0 cu un hc q l = worthF un (rd_T94 l cu).f1 (rd_T94 l 0).f1 hc q := by
  have hl := chkR_len l h
  have h0 : inR l 0 := ⟨by omega, by omega⟩
  have rc := inR_rate l h cu hcu
  have r0 := inR_rate l h 0 h0
  have hn : 0 ≤ q * un := Int.mul_nonneg hq.1 (by omega)
  have hv : valS 0 un q = if 1152921504606846976 < q * un then (0, 3) else (q * un, 0) := by
    unfold valS mulS
    rw [if_pos rfl, if_pos hq, if_pos ⟨by unfold mdFits; omega, by unfold mdFits; omega⟩]
    by_cases c : 1152921504606846976 < q * un
    · rw [if_pos c, if_neg (by unfold mdFits; omega)]
    · rw [if_neg c, if_pos (by unfold mdFits; omega)]
  unfold worS worthF
  rw [hv]
  by_cases c : 1152921504606846976 < q * un
  · rw [if_pos c, if_pos c]; rfl
  · rw [if_neg c, if_neg c]
    simp only [if_true]
    rw [convS_in l (q * un) cu 0 3 h hcu h0 (by unfold mdFits; omega) (by omega), mdRes_nn _ _ _ hn (by omega) (by omega)]
    have hx : 0 ≤ q * un * (rd_T94 l cu).f1 / (rd_T94 l 0).f1 := Int.ediv_nonneg (Int.mul_nonneg hn (by omega)) (by omega)
    generalize q * un * (rd_T94 l cu).f1 / (rd_T94 l 0).f1 = X at hx ⊢
    by_cases d : 1152921504606846976 < X
    · rw [if_pos d, if_pos d]; rfl
    · rw [if_neg d, if_neg d]
      simp only [if_true]
      have hp := part_le X hc hx hh
      unfold mdS
      rw [if_pos ⟨by unfold mdFits; omega, by unfold mdFits; omega, by unfold mdFits; omega, by omega, by omega⟩, if_neg (by omega), mdRes_nn _ _ _ hx (by omega) (by omega), if_neg (by omega)]
theorem worS_out (cu un hc q : Int) (l : List Rt) (hq : ¬ (0 ≤ q ∧ q ≤ 1152921504606846976)) : worS 0 cu un hc q l = (0, 18) := by
  unfold worS valS
  rw [if_pos rfl, if_neg hq]
  rfl
def enS (cu un hc n : Int) (l : List Rt) (q : Int) : Prop := (worS 0 cu un hc q l).2 ≠ 0 ∨ n ≤ (worS 0 cu un hc q l).1
theorem enS_mono (cu un hc n : Int) (l : List Rt) (h : chkR l = 0) (hcu : inR l cu) (hun : 1 ≤ un ∧ un ≤ 68719476736) (hh : 0 ≤ hc ∧ hc ≤ 1000) (a b : Int) (ha : 0 ≤ a) (hab : a ≤ b) (he : enS cu un hc n l a) : enS cu un hc n l b := by
  have hl := chkR_len l h
  have rc := inR_rate l h cu hcu
  have r0 := inR_rate l h 0 ⟨by omega, by omega⟩
  unfold enS at *
  by_cases hb : b ≤ 1152921504606846976
  · rw [worS_F cu un hc b l h hcu hun hh ⟨by omega, hb⟩]
    rw [worS_F cu un hc a l h hcu hun hh ⟨ha, by omega⟩] at he
    exact enough_mono un _ _ hc n a b (by omega) (by omega) (by omega) hh hab he
  · rw [worS_out cu un hc b l (by omega)]
    left; decide
theorem enS_least (cu un hc n : Int) (l : List Rt) : ∃ L, isLeast (enS cu un hc n l) L ∧ L ≤ 1152921504606846977 := by
  have : enS cu un hc n l ((1152921504606846977 : Nat) : Int) := by
    unfold enS
    rw [worS_out cu un hc _ l (by omega)]
    left; decide
  obtain ⟨L, hL, hle⟩ := leastE_some (enS cu un hc n l) 1152921504606846977 this
  exact ⟨L, hL, by omega⟩
/-- The search's end. -/
def endS (cu un hc : Int) (l : List Rt) (L : Int) : Int × Int := if (worS 0 cu un hc L l).2 = 0 then (L, 0) else (0, 3)
theorem units_loop (s : ByteArray) (kd cu un hc cp n : Int) (l : List Rt) (hA : chkA s kd cu un hc cp = 0) (L : Int) (hE : ∀ q, 0 ≤ q → (enS cu un hc n l q ↔ L ≤ q)) (M : Int) (hM : M = if L ≤ 1152921504606846976 then L else 1152921504606846976) :
    ∀ j : Nat, ∀ k : Nat, j + 80 ≤ k → ∀ lo hi : Int, 0 ≤ lo → lo ≤ M → M ≤ hi → hi ≤ 1152921504606846976 → hi - lo < 2 ^ j → asset_Units.l0 k s kd cu un hc cp n l lo hi = some M := by
  intro j
  induction j with
  | zero =>
    intro k hk lo hi h0 h1 h2 h3 h4
    obtain ⟨k, rfl⟩ : ∃ m, k = m + 1 := ⟨k - 1, by omega⟩
    rw [asset_Units.l0, if_neg (by omega)]
    congr 1; omega
  | succ j ih =>
    intro k hk lo hi h0 h1 h2 h3 h4
    obtain ⟨k, rfl⟩ : ∃ m, k = m + 1 := ⟨k - 1, by omega⟩
    rw [asset_Units.l0]
    by_cases hlt : lo < hi
    · have hp : (2 : Int) ^ (j + 1) = 2 * 2 ^ j := by rw [Int.pow_succ, Int.mul_comm]
      rw [hp] at h4
      have hm : wrap64 (lo + (wrap64 (Int.tdiv (wrap64 (hi - lo)) 2))) = lo + (hi - lo) / 2 := by
        rw [IntWalk.wrap64_in (hi - lo) (by omega), Int.tdiv_eq_ediv_of_nonneg (by omega), IntWalk.wrap64_in ((hi - lo) / 2) (by omega), IntWalk.wrap64_in _ (by omega)]
      rw [if_pos hlt, hm, worth_eq s kd cu un hc cp _ l k (by omega), Option.bind_some, hA]
      have hc1 := hE (lo + (hi - lo) / 2) (by omega)
      unfold enS at hc1
      by_cases hc : (worS 0 cu un hc (lo + (hi - lo) / 2) l).2 ≠ 0 ∨ n ≤ (worS 0 cu un hc (lo + (hi - lo) / 2) l).1
      · rw [if_pos hc]
        have := hc1.1 hc
        exact ih k (by omega) _ _ h0 h1 (by rw [hM]; split <;> omega) (by omega) (by omega)
      · rw [if_neg hc, IntWalk.wrap64_in (lo + (hi - lo) / 2 + 1) (by omega)]
        have : ¬ L ≤ lo + (hi - lo) / 2 := fun z => hc (hc1.2 z)
        exact ih k (by omega) _ _ (by omega) (by rw [hM]; split <;> omega) h2 h3 (by omega)
    · rw [if_neg hlt]
      congr 1; omega
theorem shl_one : ∀ j : Fin 61, shl .i64 1 (IntKind.u64.wrap ((j.val : Nat) : Int)) = 2 ^ j.val := by decide +kernel
theorem runits_loop (s : ByteArray) (hs : s.size ≤ 9223372036854775807) (kd cu un hc cp n : Int) (l : List Rt) (hb : ∀ r ∈ l, r.f0.size ≤ 9223372036854775807) (hA : chkA s kd cu un hc cp = 0) (L : Int) (hE : ∀ q, 0 ≤ q → (enS cu un hc n l q ↔ L ≤ q)) (hL : 0 ≤ L ∧ L ≤ 1152921504606846977) :
    ∀ m : Nat, m ≤ 61 → ∀ k : Nat, m + s.size + szR l + 120 ≤ k → ∀ low : Int, -1 ≤ low → low < L → L ≤ low + 2 ^ m → contangoref31_Units.l0 k n l low ((m : Int) - 1) s kd cu un hc cp = some (endS cu un hc l L) := by
  intro m
  induction m with
  | zero =>
    intro _ k hk low h0 h1 h2
    obtain ⟨k, rfl⟩ : ∃ m, k = m + 1 := ⟨k - 1, by omega⟩
    have e : low + 1 = L := by
      have : (2 : Int) ^ 0 = 1 := rfl
      omega
    rw [contangoref31_Units.l0, if_neg (by omega), IntWalk.wrap64_in (low + 1) (by omega), rworth_eq s hs kd cu un hc cp _ l hb k (by omega), Option.bind_some, hA, e]
    unfold endS
    split <;> rfl
  | succ m ih =>
    intro hm k hk low h0 h1 h2
    obtain ⟨k, rfl⟩ : ∃ m, k = m + 1 := ⟨k - 1, by omega⟩
    have hp : (2 : Int) ^ (m + 1) = 2 * 2 ^ m := by rw [Int.pow_succ, Int.mul_comm]
    have he : ((2 ^ m : Nat) : Int) = (2 : Int) ^ m := by rw [Int.natCast_pow]; rfl
    have hg1 : 1 ≤ 2 ^ m := Nat.one_le_two_pow
    have hl1 : 2 ^ m ≤ 2 ^ 60 := Nat.pow_le_pow_right (by omega) (by omega)
    have hge : (1 : Int) ≤ 2 ^ m := by rw [← he]; omega
    have hle : (2 : Int) ^ m ≤ 1152921504606846976 := by rw [← he]; omega
    have hsh := shl_one ⟨m, by omega⟩
    simp only at hsh
    rw [contangoref31_Units.l0, show (((m + 1 : Nat) : Int) - 1) = (m : Int) by omega, if_pos (by omega), if_pos (by rw [IntKind.wrap_u64]; omega), hsh]
    rw [IntWalk.wrap64_in (low + 2 ^ m) (by omega), IntWalk.wrap64_in ((m : Int) - 1) (by omega), rworth_eq s hs kd cu un hc cp _ l hb k (by omega), Option.bind_some, hA]
    have hc1 := hE (low + 2 ^ m) (by omega)
    unfold enS at hc1
    have up : L ≤ low + 2 ^ m → contangoref31_Units.l0 k n l low ((m : Int) - 1) s kd cu un hc cp = some (endS cu un hc l L) := fun z => ih (by omega) k (by omega) low h0 h1 z
    by_cases c1 : low + 2 ^ m ≤ 1152921504606846976
    · rw [if_pos c1]
      by_cases c2 : (worS 0 cu un hc (low + 2 ^ m) l).2 = 0
      · rw [if_pos c2]
        by_cases c3 : (worS 0 cu un hc (low + 2 ^ m) l).1 < n
        · rw [if_pos c3]
          have : ¬ L ≤ low + 2 ^ m := fun z => by
            rcases hc1.2 z with z | z
            · exact z c2
            · omega
          exact ih (by omega) k (by omega) _ (by omega) (by omega) (by omega)
        · rw [if_neg c3]
          exact up (hc1.1 (Or.inr (by omega)))
      · rw [if_neg c2]
        exact up (hc1.1 (Or.inl c2))
    · rw [if_neg c1]
      exact up (by omega)
def unitsOk (c cu un hc n : Int) (l : List Rt) (r : Int × Int) : Prop :=
  (r.2 ≠ 0 → r.1 = 0) ∧ (r.2 = 0 → c = 0 ∧ (0 ≤ r.1 ∧ r.1 ≤ 1152921504606846976) ∧ (worS 0 cu un hc r.1 l).2 = 0 ∧ n ≤ (worS 0 cu un hc r.1 l).1 ∧ (r.1 ≠ 0 → (worS 0 cu un hc (r.1 - 1) l).2 = 0 ∧ (worS 0 cu un hc (r.1 - 1) l).1 < n))
theorem units_spec (s : ByteArray) (hs : s.size ≤ 9223372036854775807) (kd cu un hc cp n : Int) (l : List Rt) (hb : ∀ r ∈ l, r.f0.size ≤ 9223372036854775807) (k : Nat) (hk : s.size + szR l + 300 ≤ k) :
    ∃ r, asset_Units.f k s kd cu un hc cp n l = some r ∧ contangoref31_Units.f k s kd cu un hc cp n l = some r ∧ unitsOk (chkA s kd cu un hc cp) cu un hc n l r := by
  have bad : ∀ e : Int, e ≠ 0 → unitsOk (chkA s kd cu un hc cp) cu un hc n l (0, e) := fun e he => ⟨fun _ => rfl, fun z => absurd z he⟩
  unfold asset_Units.f contangoref31_Units.f
  rw [acheck_eq s kd cu un hc cp k (by omega), racheck_eq s hs kd cu un hc cp k (by omega), Option.bind_some, Option.bind_some]
  by_cases hA : chkA s kd cu un hc cp = 0
  · rw [if_pos hA, if_pos hA, rcheck_eq8 l k (by omega), rrcheck_eq8 l hb k (by omega), Option.bind_some, Option.bind_some]
    by_cases hR : chkR l = 0
    · rw [if_pos hR, if_pos hR]
      obtain ⟨hcu, hun, hhc⟩ := chkA_hc s kd cu un hc cp hA
      by_cases h1 : cu ≥ (l.length : Int)
      · rw [if_pos h1, if_pos h1]
        exact ⟨_, rfl, rfl, bad 25 (by decide)⟩
      · rw [if_neg h1, if_neg h1, money_eq, within31_eq, Option.bind_some, Option.bind_some]
        simp only [decide_eq_true_eq]
        by_cases h2 : 0 ≤ n ∧ n ≤ 1152921504606846976
        · rw [if_pos h2, if_pos h2]
          by_cases h3 : hc = 1000
          · rw [if_pos h3, if_pos h3]
            exact ⟨_, rfl, rfl, bad 4 (by decide)⟩
          · rw [if_neg h3, if_neg h3]
            have hin : inR l cu := ⟨by omega, by omega⟩
            obtain ⟨L, hL, hle⟩ := enS_least cu un hc n l
            have hE : ∀ q, 0 ≤ q → (enS cu un hc n l q ↔ L ≤ q) := fun q hq => least_iff _ L (fun a b ha hab he => enS_mono cu un hc n l hR hin hun hhc a b ha hab he) hL q hq
            have hp := units_loop s kd cu un hc cp n l hA L hE _ rfl 61 k (by omega) 0 1152921504606846976 (by omega) (by have := hL.1; split <;> omega) (by split <;> omega) (by omega) (by decide)
            have hr := runits_loop s hs kd cu un hc cp n l hb hA L hE ⟨hL.1, hle⟩ 61 (by omega) k (by omega) (-1) (by omega) (by have := hL.1; omega) (by have : (2 : Int) ^ 61 = 2305843009213693952 := by decide
                                                                                                                                                          omega)
            rw [hp, Option.bind_some, worth_eq s kd cu un hc cp _ l k (by omega), Option.bind_some, hA]
            refine ⟨endS cu un hc l L, ?_, hr, ?_⟩
            · unfold endS
              by_cases c1 : L ≤ 1152921504606846976
              · rw [if_pos c1]
                by_cases c2 : (worS 0 cu un hc L l).2 = 0
                · have c3 : ¬ ((worS 0 cu un hc L l).2 ≠ 0 ∨ (worS 0 cu un hc L l).1 < n) := by
                    rcases hL.2.1 with z | z
                    · exact absurd c2 z
                    · intro y
                      rcases y with y | y
                      · exact y c2
                      · omega
                  rw [if_neg c3, if_pos c2]
                · rw [if_pos (Or.inl c2), if_neg c2]
              · have hM := (not_congr (hE 1152921504606846976 (by omega))).2 c1
                rw [if_neg c1, worS_out cu un hc L l (by omega)]
                have : (worS 0 cu un hc 1152921504606846976 l).2 ≠ 0 ∨ (worS 0 cu un hc 1152921504606846976 l).1 < n := by
                  right
                  have := not_or.1 hM
                  omega
                rw [if_pos this]
                rfl
            · unfold endS
              by_cases c2 : (worS 0 cu un hc L l).2 = 0
              · rw [if_pos c2]
                refine ⟨fun z => absurd rfl z, fun _ => ⟨rfl, ?_, c2, ?_, ?_⟩⟩
                · by_cases c1 : L ≤ 1152921504606846976
                  · exact ⟨hL.1, c1⟩
                  · rw [worS_out cu un hc L l (by omega)] at c2; cases c2
                · rcases hL.2.1 with z | z
                  · exact absurd c2 z
                  · exact z
                · intro hz
                  simp only at hz ⊢
                  have h0 := hL.1
                  have := hL.2.2 (L - 1) (by omega) (by omega)
                  have := not_or.1 this
                  exact ⟨Decidable.not_not.1 this.1, by omega⟩
              · rw [if_neg c2]
                exact ⟨fun _ => rfl, fun z => by cases z⟩
        · rw [if_neg h2, if_neg h2]
          exact ⟨_, rfl, rfl, bad 2 (by decide)⟩
    · rw [if_neg hR, if_neg hR]
      exact ⟨_, rfl, rfl, bad _ hR⟩
  · rw [if_neg hA, if_neg hA]
    exact ⟨_, rfl, rfl, bad _ hA⟩
end Go.Proofs.Ytaiekjimdjlgbaa.Pr
