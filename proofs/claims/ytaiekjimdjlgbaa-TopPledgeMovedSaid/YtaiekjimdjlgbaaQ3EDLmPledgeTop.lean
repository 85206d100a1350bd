/- What pledges are worth when they are moved together. -/
import Derived.Test.YtaiekjimdjlgbaaQ3EDLmAsset
import Derived.Test.YtaiekjimdjlgbaaQ3EDLmAssetAll
import Derived.Test.YtaiekjimdjlgbaaQ3EDLmAssetLow
import Derived.Test.YtaiekjimdjlgbaaQ3EDLmAssetMath
import Derived.Test.YtaiekjimdjlgbaaQ3EDLmPledge
import Derived.Test.YtaiekjimdjlgbaaQ3EDLmPledge3
import Derived.Test.YtaiekjimdjlgbaaQ3EDLmPledgeMove
import Derived.Test.YtaiekjimdjlgbaaQ3EDLmPledgeOf
import Derived.Test.YtaiekjimdjlgbaaQ3EDLmPledgeOth
import Derived.Test.YtaiekjimdjlgbaaQ3EDLmPledgeW
import Derived.Test.YtaiekjimdjlgbaaQ3EDLmRate
import Derived.Test.YtaiekjimdjlgbaaQ3EDLmRate2
import Derived.Test.YtaiekjimdjlgbaaQ3EDLmRate3
import Derived.Test.YtaiekjimdjlgbaaQ3EDLmSums
import Derived.Test.YtaiekjimdjlgbaaQ3EDP0
import Derived.Test.YtaiekjimdjlgbaaQ3EDP4
namespace Go.Proofs.Ytaiekjimdjlgbaa.Pr
open Go.RowKit Go.Proofs.Ytaiekjimdjlgbaa.Pr Go.Proofs.YtaiekjimdjlgbaaW.PrintWords Go.Proofs.YtaiekjimdjlgbaaW.PrintLast Go.Proofs.YtaiekjimdjlgbaaW.PrintMore
set_option linter.unusedVariables false
set_option linter.unusedSimpArgs false
theorem tgoes16 (k : Nat) (hk : 7000 ≤ k) : contangotop_goes16.f k = some true := at_rounds contangotop_goes16.mono (show 400 ≤ k by omega) (by decide +kernel)
theorem wor_ctx {cu un hc q : Int} {l : List Rt} (h : (worS 0 cu un hc q l).2 = 0) : chkR l = 0 ∧ inR l cu ∧ (0 ≤ q ∧ q ≤ 1152921504606846976) := by
  unfold worS at h
  by_cases h1 : (valS 0 un q).2 = 0
  · rw [if_pos h1] at h
    by_cases h2 : (convS l (valS 0 un q).1 cu 0 3).2 = 0
    · obtain ⟨c1, c2, _⟩ := convS_ok l _ _ _ _ h2
      exact ⟨c1, c2, (val_zero h1).2.1⟩
    · rw [if_neg h2] at h; exact absurd h h2
  · rw [if_neg h1] at h; exact absurd h h1
theorem div_super (a b r : Int) (hr : 0 < r) : a / r + b / r ≤ (a + b) / r := by
  refine Int.le_ediv_of_mul_le hr ?_
  have h1 := Int.ediv_mul_le a (show r ≠ 0 by omega)
  have h2 := Int.ediv_mul_le b (show r ≠ 0 by omega)
  rw [Int.add_mul]; omega
theorem worth_super (u rc r0 h q q' : Int) (h0 : 0 < r0) (hh : 0 ≤ h ∧ h ≤ 1000) (h1 : (worthF u rc r0 h q).2 = 0) (h2 : (worthF u rc r0 h q').2 = 0) (h3 : (worthF u rc r0 h (q + q')).2 = 0) :
    (worthF u rc r0 h q).1 + (worthF u rc r0 h q').1 ≤ (worthF u rc r0 h (q + q')).1 := by
  unfold worthF at *
  by_cases a1 : 1152921504606846976 < q * u
  · rw [if_pos a1] at h1; cases h1
  by_cases a2 : 1152921504606846976 < q * u * rc / r0
  · rw [if_neg a1, if_pos a2] at h1; cases h1
  by_cases b1 : 1152921504606846976 < q' * u
  · rw [if_pos b1] at h2; cases h2
  by_cases b2 : 1152921504606846976 < q' * u * rc / r0
  · rw [if_neg b1, if_pos b2] at h2; cases h2
  by_cases c1 : 1152921504606846976 < (q + q') * u
  · rw [if_pos c1] at h3; cases h3
  by_cases c2 : 1152921504606846976 < (q + q') * u * rc / r0
  · rw [if_neg c1, if_pos c2] at h3; cases h3
  rw [if_neg a1, if_neg a2, if_neg b1, if_neg b2, if_neg c1, if_neg c2]
  have d1 := div_super (q * u * rc) (q' * u * rc) r0 h0
  rw [← Int.add_mul, ← Int.add_mul] at d1
  generalize q * u * rc / r0 = X at *
  generalize q' * u * rc / r0 = Y at *
  generalize (q + q') * u * rc / r0 = Z at *
  have d2 := div_super (X * (1000 - h)) (Y * (1000 - h)) 1000 (by omega)
  rw [← Int.add_mul] at d2
  have d3 : (X + Y) * (1000 - h) ≤ Z * (1000 - h) := Int.mul_le_mul_of_nonneg_right d1 (by omega)
  have d4 : (X + Y) * (1000 - h) / 1000 ≤ Z * (1000 - h) / 1000 := Int.ediv_le_ediv (by omega) d3
  show X * (1000 - h) / 1000 + Y * (1000 - h) / 1000 ≤ Z * (1000 - h) / 1000
  omega
def wvP (L : List As) (R : List Rt) (p : Pled) : Int := (worOf R (findA L p.f1 0 L.length) p.f2).1
def wokP (L : List As) (R : List Rt) (p : Pled) : Prop := (findA L p.f1 0 L.length).2.2.2.2.2.2 = true ∧ (worOf R (findA L p.f1 0 L.length) p.f2).2 = 0
theorem wv_super (L : List As) (R : List Rt) (x y z : Pled) (h1 : x.f1 = z.f1) (h2 : y.f1 = z.f1) (h3 : z.f2 = x.f2 + y.f2) (hx : wokP L R x) (hy : wokP L R y) (hz : wokP L R z) : wvP L R x + wvP L R y ≤ wvP L R z := by
  unfold wvP wokP at *
  rw [h1] at hx ⊢
  rw [h2] at hy ⊢
  rw [h3] at hz ⊢
  generalize findA L z.f1 0 L.length = a at *
  unfold worOf at *
  obtain ⟨_, hx⟩ := hx
  obtain ⟨_, hy⟩ := hy
  obtain ⟨_, hz⟩ := hz
  have hv : chkA a.1 a.2.1 a.2.2.1 a.2.2.2.1 a.2.2.2.2.1 a.2.2.2.2.2.1 = 0 := by
    unfold worS at hx
    by_cases h : (valS (chkA a.1 a.2.1 a.2.2.1 a.2.2.2.1 a.2.2.2.2.1 a.2.2.2.2.2.1) a.2.2.2.1 x.f2).2 = 0
    · exact (val_zero h).1
    · rw [if_neg h] at hx; exact absurd hx h
  obtain ⟨_, hun, hh⟩ := chkA_hc _ _ _ _ _ _ hv
  rw [hv] at hx hy hz ⊢
  obtain ⟨c1, c2, q1⟩ := wor_ctx hx
  obtain ⟨_, _, q2⟩ := wor_ctx hy
  obtain ⟨_, _, q3⟩ := wor_ctx hz
  have hl := chkR_len R c1
  have r0 := inR_rate R c1 0 ⟨by omega, by omega⟩
  rw [worS_F _ _ _ _ R c1 c2 hun hh q1] at hx ⊢
  rw [worS_F _ _ _ _ R c1 c2 hun hh q2] at hy ⊢
  rw [worS_F _ _ _ _ R c1 c2 hun hh q3] at hz ⊢
  exact worth_super _ _ _ _ _ _ (by omega) hh hx hy hz
def sumW (L : List As) (R : List Rt) : List Pled → Int
  | [] => 0
  | p :: t => wvP L R p + sumW L R t
theorem sumW_append (L : List As) (R : List Rt) : ∀ l m : List Pled, sumW L R (l ++ m) = sumW L R l + sumW L R m
  | [], m => by show _ = 0 + _; rw [List.nil_append]; omega
  | p :: t, m => by rw [List.cons_append, sumW, sumW, sumW_append L R t m]; omega
theorem sumS_zero {l : List Int} (h : (sumS l).2 = 0) : (sumS l).1 = l.sum := by
  unfold sumS at *
  by_cases h1 : ∀ x ∈ l, mdFits x
  · rw [if_pos h1] at h ⊢
    by_cases h2 : mdFits l.sum
    · rw [if_pos h2]
    · rw [if_neg h2] at h; cases h
  · rw [if_neg h1] at h; cases h
theorem wL_zero (L : List As) (R : List Rt) : ∀ (l : List Pled) (acc : List Int), (wL L R acc l).2 = 0 → (∀ p ∈ l, wokP L R p) ∧ (wL L R acc l).1 = acc.sum + sumW L R l
  | [], acc, h => ⟨(fun p hp => by cases hp), by
      have : wL L R acc [] = sumS acc := rfl
      rw [this] at h ⊢
      rw [sumS_zero h]
      show _ = _ + (0 : Int)
      omega⟩
  | p :: t, acc, h => by
    rw [wL_cons] at h ⊢
    by_cases h1 : (findA L p.f1 0 L.length).2.2.2.2.2.2 = true
    · rw [if_pos h1] at h ⊢
      by_cases h2 : (worOf R (findA L p.f1 0 L.length) p.f2).2 = 0
      · rw [if_pos h2] at h ⊢
        obtain ⟨i1, i2⟩ := wL_zero L R t _ h
        refine ⟨fun x hx => ?_, ?_⟩
        · rcases List.mem_cons.1 hx with rfl | hx
          · exact ⟨h1, h2⟩
          · exact i1 x hx
        · rw [i2, sumW, List.sum_append, List.sum_cons, List.sum_nil]
          show _ + ((worOf R (findA L p.f1 0 L.length) p.f2).1 + 0) + _ = _ + (wvP L R p + _)
          unfold wvP
          omega
      · rw [if_neg h2] at h; exact absurd h h2
    · rw [if_neg h1] at h; cases h
theorem pwS_zero {l : List Pled} {a b : ByteArray} {L : List As} {R : List Rt} (h : (pwS l a b L R).2 = 0) : (∀ p ∈ ofP a b l, wokP L R p) ∧ (pwS l a b L R).1 = sumW L R (ofP a b l) := by
  unfold pwS at *
  by_cases h1 : chkP l = 0
  · rw [if_pos h1] at h ⊢
    by_cases h2 : chkAll L = 0
    · rw [if_pos h2] at h ⊢
      obtain ⟨i1, i2⟩ := wL_zero L R _ _ h
      exact ⟨i1, by rw [i2]; show (0 : Int) + _ = _; omega⟩
    · rw [if_neg h2] at h; exact absurd h h2
  · rw [if_neg h1] at h; exact absurd h h1
theorem ins_keep {q : PK} {n : Int} {l : List Pled} {x : Pled} (hx : x ∈ l) (h : pkey x ≠ q) : x ∈ insP q n l := by
  unfold insP
  cases h1 : klt (pkey x) q with
  | true => exact List.mem_append_left _ (List.mem_filter.2 ⟨hx, h1⟩)
  | false => exact List.mem_append_right _ (List.mem_append_right _ (List.mem_filter.2 ⟨hx, klt_tri _ _ h1 h⟩))
theorem ins_self {q : PK} {n : Int} {l : List Pled} (h : n ≠ 0) : plOf q n ∈ insP q n l := by
  unfold insP
  rw [if_neg h]
  exact List.mem_append_right _ (List.mem_append_left _ (List.mem_singleton.2 rfl))
theorem mvF_keep (c d : ByteArray) (x : Pled) : ∀ r out : List Pled, x ∈ out → (∀ p ∈ r, pkey x ≠ (c, d, p.f1)) → x ∈ mvF c d out r
  | [], _, h, _ => h
  | p :: r, out, h, hr => by
    rw [mvF]
    exact mvF_keep c d x r _ (ins_keep h (hr p List.mem_cons_self)) (fun y hy => hr y (List.mem_cons_of_mem _ hy))
theorem mvF_worth (L : List As) (R : List Rt) (a b c d : ByteArray) : ∀ r out : List Pled, sortedP out → sortedP r → (∀ p ∈ r, isOf a b p = true) → (∀ p ∈ out, 1 ≤ p.f2) → (∀ p ∈ r, 1 ≤ p.f2) → (∀ p ∈ ofP c d out, wokP L R p) → (∀ p ∈ r, wokP L R p) → (∀ p ∈ ofP c d (mvF c d out r), wokP L R p) →
    sumW L R (ofP c d out) + sumW L R r ≤ sumW L R (ofP c d (mvF c d out r))
  | [], out, _, _, _, _, _, _, _, _ => by rw [mvF]; show _ + (0 : Int) ≤ _; omega
  | p :: r, out, hs, hr, hi, ho, hp, wo, wr, wf => by
    rw [mvF] at wf ⊢
    have hp1 := hp p List.mem_cons_self
    have hh : 0 ≤ hadP (c, d, p.f1) out := had_prop (fun n => 0 ≤ n) _ out (by omega) (fun x hx => by have := ho x hx; omega)
    have hm : hadP (c, d, p.f1) out + p.f2 ≠ 0 := by omega
    have hw := wr p List.mem_cons_self
    have hz : wokP L R (plOf (c, d, p.f1) (hadP (c, d, p.f1) out + p.f2)) := by
      refine wf _ (List.mem_filter.2 ⟨mvF_keep c d _ r _ (ins_self hm) (fun x hx e => ?_), isOf_of_key (pled_key _ _)⟩)
      rw [pled_key] at e
      simp only [Prod.mk.injEq, true_and] at e
      exact key_ne (hi p List.mem_cons_self) (hi x (List.mem_cons_of_mem _ hx)) ((List.pairwise_cons.1 hr).1 x hx) e.symm
    have wo' : ∀ x ∈ ofP c d (insP (c, d, p.f1) (hadP (c, d, p.f1) out + p.f2) out), wokP L R x := by
      intro x hx
      obtain ⟨x1, x2⟩ := List.mem_filter.1 hx
      rcases mem_ins x1 with x3 | ⟨_, rfl⟩
      · exact wo x (List.mem_filter.2 ⟨x3, x2⟩)
      · exact hz
    have ih := mvF_worth L R a b c d r _ (sorted_ins _ _ _ hs) (List.pairwise_cons.1 hr).2 (fun x hx => hi x (List.mem_cons_of_mem _ hx)) (ins_prop (fun n => 1 ≤ n) ho (by omega)) (fun x hx => hp x (List.mem_cons_of_mem _ hx)) wo' (fun x hx => wr x (List.mem_cons_of_mem _ hx)) wf
    have e1 : sumW L R (ofP c d out) = sumW L R ((loP (c, d, p.f1) out).filter (isOf c d)) + (sumW L R ((midP (c, d, p.f1) out).filter (isOf c d)) + sumW L R ((hiP (c, d, p.f1) out).filter (isOf c d))) := by
      have e := congrArg (fun z => sumW L R (ofP c d z)) (split3 (c, d, p.f1) out hs)
      simp only [ofP_is, List.filter_append, sumW_append] at e ⊢
      exact e
    have e2 : sumW L R (ofP c d (insP (c, d, p.f1) (hadP (c, d, p.f1) out + p.f2) out)) = sumW L R ((loP (c, d, p.f1) out).filter (isOf c d)) + (wvP L R (plOf (c, d, p.f1) (hadP (c, d, p.f1) out + p.f2)) + sumW L R ((hiP (c, d, p.f1) out).filter (isOf c d))) := by
      unfold insP
      rw [if_neg hm, ofP_is, List.filter_append, List.filter_append, sumW_append, sumW_append, List.filter_cons_of_pos (isOf_of_key (pled_key _ _)), List.filter_nil, sumW, sumW]
      omega
    have e3 : sumW L R ((midP (c, d, p.f1) out).filter (isOf c d)) + wvP L R p ≤ wvP L R (plOf (c, d, p.f1) (hadP (c, d, p.f1) out + p.f2)) := by
      rcases mid_cases (c, d, p.f1) out hs with hmi | ⟨x, hmi, hx⟩
      · have h0 : hadP (c, d, p.f1) out = 0 := by unfold hadP; rw [hmi]
        rw [hmi, h0, Int.zero_add]
        show (0 : Int) + wvP L R p ≤ wvP L R (plOf (c, d, p.f1) p.f2)
        have : wvP L R (plOf (c, d, p.f1) p.f2) = wvP L R p := rfl
        omega
      · have h0 : hadP (c, d, p.f1) out = x.f2 := by unfold hadP; rw [hmi]
        have hxm : x ∈ midP (c, d, p.f1) out := by rw [hmi]; exact List.mem_singleton.2 rfl
        have hxi : isOf c d x = true := isOf_of_key hx
        have hxw := wo x (List.mem_filter.2 ⟨(List.mem_filter.1 hxm).1, hxi⟩)
        rw [hmi, List.filter_cons_of_pos hxi, List.filter_nil, sumW, sumW, Int.add_zero]
        refine wv_super L R x p _ ?_ rfl ?_ hxw hw hz
        · show x.f1 = p.f1
          unfold pkey at hx
          simp only [Prod.mk.injEq] at hx
          exact hx.2.2
        · show hadP (c, d, p.f1) out + p.f2 = x.f2 + p.f2
          rw [h0]
    rw [sumW]
    omega
theorem mvL_zero (a b c d : ByteArray) : ∀ r out : List Pled, sortedP out → sortedP r → (∀ p ∈ r, isOf a b p = true) → (mvL c d out r).2 = 0 → mvL c d out r = (mvF c d out r, 0) ∧ ∀ p ∈ r, hadP (c, d, p.f1) out + p.f2 ≤ 1152921504606846976
  | [], _, _, _, _, _ => ⟨rfl, fun p hp => by cases hp⟩
  | p :: r, out, hs, hr, hi, h => by
    rw [mvL] at h ⊢
    rw [mvF]
    by_cases h1 : hadP (c, d, p.f1) out + p.f2 ≤ 1152921504606846976
    · rw [if_pos h1] at h ⊢
      obtain ⟨i1, i2⟩ := mvL_zero a b c d r _ (sorted_ins _ _ _ hs) (List.pairwise_cons.1 hr).2 (fun x hx => hi x (List.mem_cons_of_mem _ hx)) h
      refine ⟨i1, fun x hx => ?_⟩
      rcases List.mem_cons.1 hx with rfl | hx
      · exact h1
      · have hk := key_ne (hi p List.mem_cons_self) (hi x (List.mem_cons_of_mem _ hx)) ((List.pairwise_cons.1 hr).1 x hx)
        have := i2 x hx
        rw [had_ins_ne _ _ _ _ hs (fun e => hk (by simp only [Prod.mk.injEq] at e; exact e.2.2))] at this
        exact this
    · rw [if_neg h1] at h; cases h
end Go.Proofs.Ytaiekjimdjlgbaa.Pr
