/- TopPledgeUnits: the computed number of units is sufficient, and one unit less is not. -/
import Derived.Test.YtaiekjimdjlgbaaQ03ELmAsset
import Derived.Test.YtaiekjimdjlgbaaQ03ELmAssetAll
import Derived.Test.YtaiekjimdjlgbaaQ03ELmAssetLow
import Derived.Test.YtaiekjimdjlgbaaQ03ELmAssetMath
import Derived.Test.YtaiekjimdjlgbaaQ03ELmPledge
import Derived.Test.YtaiekjimdjlgbaaQ03ELmPledge2
import Derived.Test.YtaiekjimdjlgbaaQ03ELmPledge3
import Derived.Test.YtaiekjimdjlgbaaQ03ELmPledgeW
import Derived.Test.YtaiekjimdjlgbaaQ03ELmRate
import Derived.Test.YtaiekjimdjlgbaaQ03ELmRate2
import Derived.Test.YtaiekjimdjlgbaaQ03ELmRate3
import Derived.Test.YtaiekjimdjlgbaaQ03ELmSums
import Derived.Test.YtaiekjimdjlgbaaQ03EP0
import Derived.Test.YtaiekjimdjlgbaaQ03EP7
import Derived.Test.YtaiekjimdjlgbaaQ03EP8
import Derived.Test.YtaiekjimdjlgbaaQ03EPrxDTopPledgeUnits
namespace Go.Proofs.Ytaiekjimdjlgbaa.Pure
open Go.RowKit Go.Proofs.Ytaiekjimdjlgbaa.Pr Go.Proofs.YtaiekjimdjlgbaaW.PrintWords Go.Proofs.YtaiekjimdjlgbaaW.PrintLast Go.Proofs.YtaiekjimdjlgbaaW.PrintMore
set_option linter.unusedVariables false
set_option linter.unusedSimpArgs false
theorem tgoes16 (k : Nat) (hk : 7000 ≤ k) : contangotop_goes16.f k = some true := at_rounds contangotop_goes16.mono (show 400 ≤ k by omega) (by decide +kernel)
theorem one_find (s : ByteArray) (kd cu un hc cp : Int) : findA [⟨s, kd, cu, un, hc, cp⟩] s 0 1 = (s, kd, cu, un, hc, cp, true) := by
  have e : rd_T23 [⟨s, kd, cu, un, hc, cp⟩] ((0 : Nat) : Int) = ⟨s, kd, cu, un, hc, cp⟩ := rfl
  rw [findA_succ, e, if_pos rfl]
theorem one_all (s : ByteArray) (kd cu un hc cp : Int) (h : chkA s kd cu un hc cp = 0) : chkAll [⟨s, kd, cu, un, hc, cp⟩] = 0 := by
  unfold chkAll
  rw [if_neg (by simp), show ([⟨s, kd, cu, un, hc, cp⟩] : List As).length = 0 + 1 from rfl, allA_succ]
  have : chkOf (rd_T23 [⟨s, kd, cu, un, hc, cp⟩] ((0 : Nat) : Int)) = 0 := h
  rw [if_pos this, if_neg (by omega)]
  rfl
theorem sum_one (x : Int) (h : mdFits x) : sumS [x] = (x, 0) := by
  unfold sumS
  simp [h]
theorem sum_none : sumS [] = (0, 0) := by
  unfold sumS
  simp [mdFits]
theorem nil_ok : chkP [] = 0 := by unfold chkP chkLP; simp
theorem wor_ctx {cu un hc q : Int} {l : List Rt} (h : (worS 0 cu un hc q l).2 = 0) : chkR l = 0 ∧ inR l cu ∧ (0 ≤ q ∧ q ≤ 1152921504606846976) := by
  unfold worS at h
  by_cases h1 : (valS 0 un q).2 = 0
  · rw [if_pos h1] at h
    by_cases h2 : (convS l (valS 0 un q).1 cu 0 3).2 = 0
    · obtain ⟨c1, c2, _⟩ := convS_ok l _ _ _ _ h2
      exact ⟨c1, c2, (val_zero h1).2.1⟩
    · rw [if_neg h2] at h; exact absurd h h2
  · rw [if_neg h1] at h; exact absurd h h1
theorem wor_bd {cu un hc q : Int} {l : List Rt} (hun : 1 ≤ un ∧ un ≤ 68719476736) (hh : 0 ≤ hc ∧ hc ≤ 1000) (h : (worS 0 cu un hc q l).2 = 0) : 0 ≤ (worS 0 cu un hc q l).1 ∧ (worS 0 cu un hc q l).1 ≤ 1152921504606846976 := by
  obtain ⟨c1, c2, c3⟩ := wor_ctx h
  have hl := chkR_len l c1
  have rc := inR_rate l c1 cu c2
  have r0 := inR_rate l c1 0 ⟨by omega, by omega⟩
  rw [worS_F cu un hc q l c1 c2 hun hh c3] at h ⊢
  unfold worthF at *
  by_cases a1 : 1152921504606846976 < q * un
  · rw [if_pos a1] at h; cases h
  · rw [if_neg a1] at h ⊢
    by_cases a2 : 1152921504606846976 < q * un * (rd_T94 l cu).f1 / (rd_T94 l 0).f1
    · rw [if_pos a2] at h; cases h
    · rw [if_neg a2]
      have hx : 0 ≤ q * un * (rd_T94 l cu).f1 / (rd_T94 l 0).f1 := Int.ediv_nonneg (Int.mul_nonneg (Int.mul_nonneg c3.1 (by omega)) (by omega)) (by omega)
      have := part_le _ hc hx hh
      simp only
      omega
theorem one_worth (s : ByteArray) (kd cu un hc cp q : Int) (l : List Rt) (a b : ByteArray) (hA : chkA s kd cu un hc cp = 0) (hq : qName (a, b, s) = true) (h1 : 1 ≤ q ∧ q ≤ 1152921504606846976) (h : (worS 0 cu un hc q l).2 = 0) (k : Nat) (hk : 7000 ≤ k) :
    pledge_Worth.f k [plOf (a, b, s) q] a b [⟨s, kd, cu, un, hc, cp⟩] l = some ((worS 0 cu un hc q l).1, 0) := by
  obtain ⟨_, hun, hh⟩ := chkA_hc s kd cu un hc cp hA
  have hb := wor_bd hun hh h
  rw [pworth_eq _ a b _ l (by simp) (by simp) k hk]
  have hg : chkP [plOf (a, b, s) q] = 0 := (chkP_zero _).2 ⟨by simp, by unfold sortedP; simp, fun x hx => by
    rw [List.mem_singleton.1 hx]
    exact ⟨hq, (okQty_iff _).2 h1⟩⟩
  unfold pwS
  rw [if_pos hg, if_pos (one_all s kd cu un hc cp hA)]
  have ho : ofP a b [plOf (a, b, s) q] = [plOf (a, b, s) q] := by rw [ofP_cons, if_pos ⟨rfl, rfl⟩]; rfl
  rw [ho, wL_cons]
  have hf : findA [⟨s, kd, cu, un, hc, cp⟩] (plOf (a, b, s) q).f1 0 ([⟨s, kd, cu, un, hc, cp⟩] : List As).length = (s, kd, cu, un, hc, cp, true) := one_find s kd cu un hc cp
  rw [hf]
  have hw : worOf l (s, kd, cu, un, hc, cp, true) (plOf (a, b, s) q).f2 = worS 0 cu un hc q l := by
    unfold worOf
    simp only [hA]
    rfl
  rw [hw, if_pos rfl, if_pos h, List.nil_append, wL, sum_one _ (by unfold mdFits; omega)]
theorem TopPledgeUnits : contangotop_TopPledgeUnits.Pure := by
  intro s kd cu un hc cp n l a b hs _ _ _ _ _ _ _ hok ha hb
  have hbR := rt_big hok
  obtain ⟨K, hK⟩ : ∃ K, K = s.size + szR l + 8000 := ⟨_, rfl⟩
  refine ⟨K + 1, ?_⟩
  obtain ⟨r, h1, _, u1, u2⟩ := units_spec s hs kd cu un hc cp n l hbR (K + 1) (by omega)
  have g : ((contangotop_goes16.f K).bind fun t => some t) = some true := by rw [tgoes16 K (by omega)]; rfl
  unfold contangotop_TopPledgeUnits.f
  rw [h1, Option.bind_some]
  have hT : r.1 = 0 → contangotop_TopPledgeUnits.j0 (K + 1) r.1 true s kd cu un hc cp n l a b = some true := fun e => by
    rw [contangotop_TopPledgeUnits.j0, if_pos rfl, if_pos e, g]
  by_cases he : r.2 = 0
  · rw [if_pos he]
    by_cases hz : r.1 = 0
    · rw [show (r.1 == 0) = true from beq_iff_eq.2 hz]; exact hT hz
    · obtain ⟨hA, hq, e0, e1, e2⟩ := u2 he
      obtain ⟨e3, e4⟩ := e2 hz
      obtain ⟨_, hun, hh⟩ := chkA_hc s kd cu un hc cp hA
      have hb3 := wor_bd hun hh e3
      rw [show (r.1 == 0) = false from beq_eq_false_iff_ne.2 hz, contangotop_TopPledgeUnits.j0, if_neg (by simp)]
      have hp := pput_eq [] (a, b, s) r.1 K (by omega)
      simp only at hp
      rw [hp, Option.bind_some]
      by_cases hN : qName (a, b, s) = true
      · have hps : putS [] (a, b, s) r.1 = ([plOf (a, b, s) r.1], 0) := by
          unfold putS
          rw [if_pos nil_ok, if_pos hN, if_pos ((okQty_iff _).2 (by omega)), if_pos (by show (0 : Int) + r.1 ≤ _; omega), if_neg (by simp)]
          show (insP (a, b, s) (0 + r.1) [], (0 : Int)) = _
          unfold insP
          rw [if_neg (by omega), Int.zero_add]
          rfl
        have hg : goodP [plOf (a, b, s) r.1] := ⟨by simp, by unfold sortedP; simp, fun x hx => by
          rw [List.mem_singleton.1 hx]
          exact ⟨hN, (okQty_iff _).2 (show 1 ≤ r.1 ∧ r.1 ≤ 1152921504606846976 by omega)⟩⟩
        have hh1 : hadP (a, b, s) [plOf (a, b, s) r.1] = r.1 := by rw [had_cons, if_pos (show pkey (plOf (a, b, s) r.1) = (a, b, s) from rfl)]; rfl
        have ht := ptake_eq [plOf (a, b, s) r.1] (a, b, s) 1 K (by omega)
        simp only at ht
        rw [takeS_ok _ _ _ hg (by omega) (by rw [hh1]; omega), hh1] at ht
        have hi : insP (a, b, s) (r.1 - 1) [plOf (a, b, s) r.1] = if r.1 - 1 = 0 then [] else [plOf (a, b, s) (r.1 - 1)] := by
          unfold insP loP hiP
          simp [plOf, pkey, klt_self]
        rw [hps]
        simp only [if_true]
        rw [Option.bind_some, one_worth s kd cu un hc cp r.1 l a b hA hN (by omega) e0 K (by omega), Option.bind_some, ht, Option.bind_some, hi]
        have hw2 : pledge_Worth.f K (if r.1 - 1 = 0 then [] else [plOf (a, b, s) (r.1 - 1)]) a b [⟨s, kd, cu, un, hc, cp⟩] l = some (if r.1 - 1 = 0 then (0, 0) else ((worS 0 cu un hc (r.1 - 1) l).1, 0)) := by
          by_cases hq1 : r.1 - 1 = 0
          · rw [if_pos hq1, if_pos hq1, pworth_eq _ a b _ l (by simp) (by simp) K (by omega)]
            unfold pwS
            rw [if_pos nil_ok, if_pos (one_all s kd cu un hc cp hA)]
            show some (sumS []) = _
            rw [sum_none]
          · rw [if_neg hq1, if_neg hq1, one_worth s kd cu un hc cp (r.1 - 1) l a b hA hN (by omega) e3 K (by omega)]
        have hq2 := pqty_eq (a, b, s) (if r.1 - 1 = 0 then [] else [plOf (a, b, s) (r.1 - 1)]) (by split <;> simp) K (by split <;> simp <;> omega)
        simp only at hq2
        have hq3 : hadP (a, b, s) (if r.1 - 1 = 0 then [] else [plOf (a, b, s) (r.1 - 1)]) = r.1 - 1 := by
          by_cases hq1 : r.1 - 1 = 0
          · rw [if_pos hq1, hq1]; rfl
          · rw [if_neg hq1, had_cons, if_pos (show pkey (plOf (a, b, s) (r.1 - 1)) = (a, b, s) from rfl)]; rfl
        rw [hq3] at hq2
        rw [hw2, Option.bind_some, if_pos e1, hq2, Option.bind_some, IntWalk.wrap64_in (r.1 - 1) (by omega), if_pos rfl, g]
        by_cases hq1 : r.1 - 1 = 0
        · simp only [if_pos hq1, if_true]
          rw [if_pos (show (0 : Int) < n by omega)]
        · simp only [if_neg hq1, if_true]
          rw [if_pos e4]
      · have hps : putS [] (a, b, s) r.1 = ([], 10) := by
          unfold putS
          rw [if_pos nil_ok, if_neg hN]
        rw [hps]
        simp only [show ¬ ((10 : Int) = 0) by decide, if_false, if_true]
        exact g
  · rw [if_neg he]; exact hT (u1 he)
end Go.Proofs.Ytaiekjimdjlgbaa.Pure
