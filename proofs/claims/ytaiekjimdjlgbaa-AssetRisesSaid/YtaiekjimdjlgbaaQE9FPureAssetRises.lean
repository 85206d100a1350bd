/- AssetRises: more units are worth no less, and a haircut never increases the value. -/
import Derived.Test.YtaiekjimdjlgbaaQE9FLmAsset
import Derived.Test.YtaiekjimdjlgbaaQE9FLmAssetLow
import Derived.Test.YtaiekjimdjlgbaaQE9FLmAssetMath
import Derived.Test.YtaiekjimdjlgbaaQE9FLmName
import Derived.Test.YtaiekjimdjlgbaaQE9FLmRate
import Derived.Test.YtaiekjimdjlgbaaQE9FLmRate2
import Derived.Test.YtaiekjimdjlgbaaQE9FLmRate3
import Derived.Test.YtaiekjimdjlgbaaQE9FP0
import Derived.Test.YtaiekjimdjlgbaaQE9FP2
import Derived.Test.YtaiekjimdjlgbaaQE9FPrxDAssetRises
namespace Go.Proofs.Ytaiekjimdjlgbaa.Pure
open Go.RowKit Go.Proofs.Ytaiekjimdjlgbaa.Pr Go.Proofs.YtaiekjimdjlgbaaW.PrintWords Go.Proofs.YtaiekjimdjlgbaaW.PrintLast Go.Proofs.YtaiekjimdjlgbaaW.PrintMore
set_option linter.unusedVariables false
set_option linter.unusedSimpArgs false
theorem worS_zero (c cu un hc q : Int) (l : List Rt) (h : (worS c cu un hc q l).2 = 0) : c = 0 ∧ (0 ≤ q ∧ q ≤ 1152921504606846976) ∧ chkR l = 0 ∧ inR l cu := by
  unfold worS at h
  by_cases h1 : (valS c un q).2 = 0
  · rw [if_pos h1] at h
    obtain ⟨h2, h3, _⟩ := val_zero h1
    by_cases h4 : (convS l (valS c un q).1 cu 0 3).2 = 0
    · obtain ⟨hc, ha, _⟩ := convS_ok l _ _ _ _ h4
      exact ⟨h2, h3, hc, ha⟩
    · rw [if_neg h4] at h; exact absurd h h4
  · rw [if_neg h1] at h; exact absurd h h1
theorem chkA_plain (s : ByteArray) (kd cu un hc cp : Int) (h : chkA s kd cu un hc cp = 0) : chkA s kd cu un 0 cp = 0 := by
  unfold chkA prt at *
  by_cases h1 : nameOk s = true
  · rw [if_pos h1] at h ⊢
    by_cases h2 : 1 ≤ kd ∧ kd ≤ 3
    · rw [if_pos h2] at h ⊢
      by_cases h3 : 0 ≤ cu ∧ cu ≤ 7
      · rw [if_pos h3] at h ⊢
        by_cases h4 : (1 ≤ un ∧ un ≤ 68719476736) ∧ (kd = 1 → un = 1) ∧ (0 ≤ hc ∧ hc ≤ 1000) ∧ (0 ≤ cp ∧ cp ≤ 1000)
        · rw [if_pos ⟨h4.1, h4.2.1, by omega, h4.2.2.2⟩]
        · rw [if_neg h4] at h; cases h
      · rw [if_neg h3] at h; cases h
    · rw [if_neg h2] at h; cases h
  · rw [if_neg h1] at h; cases h
theorem rises_math (u rc r0 h q q' : Int) (hu : 0 < u) (hr : 0 < rc) (h0 : 0 < r0) (hh : 0 ≤ h ∧ h ≤ 1000) (hq : 0 ≤ q) (hqq : q ≤ q') (h2 : (worthF u rc r0 h q').2 = 0) :
    (worthF u rc r0 h q).1 ≤ (worthF u rc r0 h q').1 ∧ (worthF u rc r0 h q').1 ≤ (worthF u rc r0 0 q').1 ∧ (worthF u rc r0 0 q').2 = 0 ∧ (h < 1000 ∨ (worthF u rc r0 h q').1 = 0) := by
  obtain ⟨m1, m2⟩ := conv_mono u rc r0 q q' hu hr h0 hqq
  unfold worthF at *
  by_cases c1 : 1152921504606846976 < q' * u
  · rw [if_pos c1] at h2; cases h2
  · by_cases c2 : 1152921504606846976 < q' * u * rc / r0
    · rw [if_neg c1, if_pos c2] at h2; cases h2
    · rw [if_neg c1, if_neg c2, if_neg c1, if_neg c2, if_neg (by omega), if_neg (by omega)]
      have hX : 0 ≤ q' * u * rc / r0 := Int.ediv_nonneg (Int.mul_nonneg (Int.mul_nonneg (by omega) (by omega)) (by omega)) (by omega)
      generalize q' * u * rc / r0 = X at *
      generalize q * u * rc / r0 = Y at *
      have hp := part_le X h hX hh
      have h3 : Y * (1000 - h) ≤ X * (1000 - h) := Int.mul_le_mul_of_nonneg_right m2 (by omega)
      have h4 : Y * (1000 - h) / 1000 ≤ X * (1000 - h) / 1000 := Int.ediv_le_ediv (by omega) h3
      refine ⟨h4, ?_, rfl, ?_⟩
      · show X * (1000 - h) / 1000 ≤ X * (1000 - 0) / 1000
        have : X * (1000 - 0) / 1000 = X := by omega
        omega
      · by_cases c3 : h < 1000
        · exact Or.inl c3
        · right
          show X * (1000 - h) / 1000 = 0
          rw [show (1000 - h) = 0 by omega, Int.mul_zero]; rfl
theorem AssetRises : contangolaw31_AssetRises.Pure := by
  intro s kd cu un hc cp x y l hs _ _ _ _ _ _ _ _ _ hok
  have hb := rt_big hok
  obtain ⟨K, hK⟩ : ∃ K, K = szR l + 400 := ⟨_, rfl⟩
  refine ⟨K + 1, ?_⟩
  unfold contangolaw31_AssetRises.f
  rw [worth_eq s kd cu un hc cp _ l (K + 1) (by omega), Option.bind_some, worth_eq s kd cu un hc cp _ l (K + 1) (by omega), Option.bind_some]
  have hmn : mn x y ≤ mx x y := by unfold mn mx; (repeat' split) <;> omega
  have hT : ∀ a b : Int, contangolaw31_AssetRises.j0 (K + 1) l a b true s kd cu un hc cp x y = some true := by
    intro a b
    rw [contangolaw31_AssetRises.j0, if_pos rfl, agoes K (by omega)]; rfl
  by_cases h1 : (worS (chkA s kd cu un hc cp) cu un hc (mn x y) l).2 = 0
  · rw [if_pos h1]
    by_cases h2 : (worS (chkA s kd cu un hc cp) cu un hc (mx x y) l).2 = 0
    · obtain ⟨hA, hq1, hR, hin⟩ := worS_zero _ _ _ _ _ _ h1
      obtain ⟨_, hq2, _, _⟩ := worS_zero _ _ _ _ _ _ h2
      obtain ⟨hcu, hun, hhc⟩ := chkA_hc s kd cu un hc cp hA
      have hl := chkR_len l hR
      have rc := inR_rate l hR cu hin
      have r0 := inR_rate l hR 0 ⟨by omega, by omega⟩
      rw [hA] at h2 ⊢
      rw [worS_F cu un hc _ l hR hin hun hhc hq2] at h2 ⊢
      rw [worS_F cu un hc _ l hR hin hun hhc hq1]
      obtain ⟨m1, m2, m3, m4⟩ := rises_math un _ _ hc (mn x y) (mx x y) (by omega) (show 0 < (rd_T94 l cu).f1 by omega) (show 0 < (rd_T94 l 0).f1 by omega) hhc hq1.1 hmn h2
      have hbn : ((worthF un (rd_T94 l cu).f1 (rd_T94 l 0).f1 hc (mx x y)).2 != 0) = false := by rw [h2]; rfl
      rw [hbn, contangolaw31_AssetRises.j0, if_neg (by simp), worth_eq s kd cu un 0 cp _ l K (by omega), Option.bind_some, chkA_plain s kd cu un hc cp hA, worS_F cu un 0 _ l hR hin hun (by omega) hq2, if_pos m1, if_pos m2, if_pos m3, rrcheck_eq8 l hb K (by omega), Option.bind_some, hR, if_pos rfl, agoes K (by omega)]
      by_cases c : hc < 1000
      · rw [if_pos c]; rfl
      · rw [if_neg c, if_pos (m4.resolve_left c)]; rfl
    · have : ((worS (chkA s kd cu un hc cp) cu un hc (mx x y) l).2 != 0) = true := bne_iff_ne.2 h2
      rw [this]
      exact hT _ _
  · rw [if_neg h1]; exact hT _ _
end Go.Proofs.Ytaiekjimdjlgbaa.Pure
