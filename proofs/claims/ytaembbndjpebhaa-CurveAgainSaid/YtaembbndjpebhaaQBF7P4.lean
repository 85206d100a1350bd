/- Functions' values and contracts, as the print wrote them. -/
import Derived.Test.YtaembbndjpebhaaQBF7P0
import Derived.Test.YtaembbndjpebhaaQBF7P1
import Derived.Test.YtaembbndjpebhaaQBF7P2
import Derived.Test.YtaembbndjpebhaaQBF7P3
namespace Go.Proofs.Ytaembbndjpebhaa.Pr
open Bool renaming true → T
open Go.RowKit Go.Proofs.YtaembbndjpebhaaW.PrintWords Go.Proofs.YtaembbndjpebhaaW.PrintLast Go.Proofs.YtaembbndjpebhaaW.PrintMore
attribute [local go_sem] QaK QaM QaQ QaR QaI QaJ QaL QaN   -- for this text's walks alone
set_option linter.unusedVariables false
set_option linter.unusedSimpArgs false
attribute [local go_sem high] eqA56
mutual
def contangolaw19_CurveAgain.j0 : Nat → List (S56) → Int → List (S56) → Bool → Option (Bool)
 | 0, _, _, _, _ => none
 | k + 1, x0, x1, x5, x49 => if x49 = T then (none) else (contangolaw19_CurveAgain.l0 k x0 x1 x5 (x5.length : Int) 0)
def contangolaw19_CurveAgain.l0 : Nat → List (S56) → Int → List (S56) → Int → Int → Option (Bool)
 | 0, _, _, _, _, _ => none
 | k + 1, x0, x1, x5, x51, x52 => if x52 < x51 then (if 0 ≤ x52 then (if x52 < (x0.length : Int) then ((QaC.f k x0 ((rd_T56 x0 x52).f0) x1).bind fun bt363 => (if bt363.2 = 0 then (if x52 < (x5.length : Int) then (if ((rd_T56 x5 x52).f2 = T) then (if ((rd_T56 x5 x52).f0) = ((rd_T56 x0 x52).f0) then (if ((rd_T56 x5 x52).f1) = bt363.1 then (if (rd_T56 x0 x52).f2 = T then (if (!(((rd_T56 x5 x52).f0) == ((rd_T56 x0 x52).f0)) || (!(((rd_T56 x5 x52).f1) == ((rd_T56 x0 x52).f1)) || (!(((rd_T56 x5 x52).f2) == ((rd_T56 x0 x52).f2))))) = T then (none) else (contangolaw19_CurveAgain.l0 k x0 x1 x5 x51 (wrap64 (x52 + 1)))) else (contangolaw19_CurveAgain.l0 k x0 x1 x5 x51 (wrap64 (x52 + 1)))) else (none)) else (none)) else (none)) else (none)) else (none))) else (none)) else (none)) else ((Qag.f k).bind fun t372 => (some t372))
end
def contangolaw19_CurveAgain.f (k : Nat) (l0 : List (S56)) (a1 : Int) : Option (Bool) := (Qak.f k l0 a1 0).bind fun bt348 => ((Qau.f k bt348.1 bt348.2.1).bind fun bt353 => ((Qau.f k bt353.1 bt348.2.1).bind fun bt357 => (if bt353.2 = 0 then (if bt357.2 = 0 then (if (bt353.1.length : Int) = (bt348.1.length : Int) then ((Qae.f k bt353.1 bt357.1).bind fun t361 => (contangolaw19_CurveAgain.j0 k bt348.1 bt348.2.1 bt353.1 (!t361))) else (contangolaw19_CurveAgain.j0 k bt348.1 bt348.2.1 bt353.1 T)) else (contangolaw19_CurveAgain.j0 k bt348.1 bt348.2.1 bt353.1 T)) else (contangolaw19_CurveAgain.j0 k bt348.1 bt348.2.1 bt353.1 T))))
theorem contangolaw19_CurveAgain.mono_l : ∀ k, (∀ y0 y1 y2 y3, LeO (contangolaw19_CurveAgain.j0 k y0 y1 y2 y3) (contangolaw19_CurveAgain.j0 (k + 1) y0 y1 y2 y3)) ∧ (∀ y0 y1 y2 y3 y4, LeO (contangolaw19_CurveAgain.l0 k y0 y1 y2 y3 y4) (contangolaw19_CurveAgain.l0 (k + 1) y0 y1 y2 y3 y4))
 | 0 => ⟨fun _ _ _ _ r h => by simp [contangolaw19_CurveAgain.j0] at h, fun _ _ _ _ _ r h => by simp [contangolaw19_CurveAgain.l0] at h⟩
 | k + 1 => by
  obtain ⟨ih0, ih1⟩ := contangolaw19_CurveAgain.mono_l k
  refine ⟨?_, ?_⟩
  ·intro y0 y1 y2 y3
   unfold contangolaw19_CurveAgain.j0
   exact ZM7 ih0 ih1 Qak.mono Qag.mono Qae.mono QaC.mono Qau.mono
  intro y0 y1 y2 y3 y4
  unfold contangolaw19_CurveAgain.l0
  exact ZM7 ih0 ih1 Qak.mono Qag.mono Qae.mono QaC.mono Qau.mono
theorem contangolaw19_CurveAgain.mono : ∀ a0 a1 k, LeO (contangolaw19_CurveAgain.f k a0 a1) (contangolaw19_CurveAgain.f (k + 1) a0 a1) := by
 intro a0 a1 k
 obtain ⟨ih0, ih1⟩ := contangolaw19_CurveAgain.mono_l k
 unfold contangolaw19_CurveAgain.f
 exact ZM7 ih0 ih1 Qak.mono Qag.mono Qae.mono QaC.mono Qau.mono
set_option maxHeartbeats 8000000 in
set_option maxRecDepth 100000 in
theorem contangolaw19_CurveAgain.calls (k : Nat) (A0 : Option Addr) (c0 : Nat) (l0 : List (S56)) (a1 : Int) (r : Bool) (w : World) (hr0 : Kd.C k56 w A0 l0.length l0) (hc0 : l0.length ≤ c0) (h : contangolaw19_CurveAgain.f k l0 a1 = some r) :
  Calls Try.prog 10 #[.slice A0 l0.length c0, .int .i64 a1] w fun e w' => e = .returned (.bool r) ∧ Below w.heap.size w w' := by
 have hu56 := Try.underlying56
 have HR0 := Aside0.mk hr0
 have HC0 := Aside0.mk hc0
 clear hr0 hc0
 have HB := Aside0.mk (Below.refl w.heap.size w)
 have H : ((Qak.f k l0 a1 0).bind fun bt348 => ((Qau.f k bt348.1 bt348.2.1).bind fun bt353 => ((Qau.f k bt353.1 bt348.2.1).bind fun bt357 => (if bt353.2 = 0 then (if bt357.2 = 0 then (if (bt353.1.length : Int) = (bt348.1.length : Int) then ((Qae.f k bt353.1 bt357.1).bind fun t361 => (contangolaw19_CurveAgain.j0 k bt348.1 bt348.2.1 bt353.1 (!t361))) else (contangolaw19_CurveAgain.j0 k bt348.1 bt348.2.1 bt353.1 T)) else (contangolaw19_CurveAgain.j0 k bt348.1 bt348.2.1 bt353.1 T)) else (contangolaw19_CurveAgain.j0 k bt348.1 bt348.2.1 bt353.1 T))))) = some r := h
 clear h
 replace H := Option.bind_eq_some_iff.mp H
 obtain ⟨⟨t348, t349, t350⟩, A30, H⟩ := H
 replace H : ((Qau.f k t348 t349).bind fun bt353 => ((Qau.f k bt353.1 t349).bind fun bt357 => (if bt353.2 = 0 then (if bt357.2 = 0 then (if (bt353.1.length : Int) = (t348.length : Int) then ((Qae.f k bt353.1 bt357.1).bind fun t361 => (contangolaw19_CurveAgain.j0 k t348 t349 bt353.1 (!t361))) else (contangolaw19_CurveAgain.j0 k t348 t349 bt353.1 T)) else (contangolaw19_CurveAgain.j0 k t348 t349 bt353.1 T)) else (contangolaw19_CurveAgain.j0 k t348 t349 bt353.1 T)))) = some r := H
 have A3 := Aside0.mk A30
 clear A30
 replace H := Option.bind_eq_some_iff.mp H
 obtain ⟨⟨t353, t354⟩, A40, H⟩ := H
 replace H : ((Qau.f k t353 t349).bind fun bt357 => (if t354 = 0 then (if bt357.2 = 0 then (if (t353.length : Int) = (t348.length : Int) then ((Qae.f k t353 bt357.1).bind fun t361 => (contangolaw19_CurveAgain.j0 k t348 t349 t353 (!t361))) else (contangolaw19_CurveAgain.j0 k t348 t349 t353 T)) else (contangolaw19_CurveAgain.j0 k t348 t349 t353 T)) else (contangolaw19_CurveAgain.j0 k t348 t349 t353 T))) = some r := H
 have A4 := Aside0.mk A40
 clear A40
 replace H := Option.bind_eq_some_iff.mp H
 obtain ⟨⟨t357, t358⟩, A50, H⟩ := H
 replace H : (if t354 = 0 then (if t358 = 0 then (if (t353.length : Int) = (t348.length : Int) then ((Qae.f k t353 t357).bind fun t361 => (contangolaw19_CurveAgain.j0 k t348 t349 t353 (!t361))) else (contangolaw19_CurveAgain.j0 k t348 t349 t353 T)) else (contangolaw19_CurveAgain.j0 k t348 t349 t353 T)) else (contangolaw19_CurveAgain.j0 k t348 t349 t353 T)) = some r := H
 have A5 := Aside0.mk A50
 clear A50
 have HC6 := Aside0.mk H
 clear H
 go_enter Try.func10, Try.ntmps10
 go_upto_region 4 with (first | (go_at_call 34; (with_reducible refine (Qak.calls k _ _ l0 a1 0 t348 t349 t350 _ ?side1 ?side2 A3.out).mono ?_); (case side1 => exact Zv HR0.out); (case side2 => exact HC0.out); rintro e w7 ⟨v351, rfl, ho0, hb⟩; have HO352 := Aside0.mk (Kd.R_lower ho0 (Qay (Zb))); replace HB := Aside0.mk (Qat (Zb) hb); (try clear hb); (try clear hb2); (try clear hk); (try clear hi); (try clear ho0); obtain ⟨Ao8, co8, eo8⟩ := Kd.R_slice HO352.out; subst eo8) | (go_at_call 35; (with_reducible refine (Qau.calls k _ _ t348 t349 t353 t354 _ ?side1 ?side2 A4.out).mono ?_); (case side1 => exact Zv (Kd.R_reads' HO352.out).2.2); (case side2 => exact (Kd.R_reads' HO352.out).2.1); rintro e w9 ⟨v355, rfl, ho0, hb⟩; have HO356 := Aside0.mk (Kd.R_lower (Kd.R_new' ho0 (Kd.R_lt (Zr HO352.out))) (Qay (Zb))); replace HO352 := Aside0.mk (Kd.R_elder' (Zr HO352.out) (Kd.R_base ho0) hb); replace HB := Aside0.mk (Qat (Zb) hb); (try clear hb); (try clear hb2); (try clear hk); (try clear hi); (try clear ho0); obtain ⟨Ao10, co10, eo10⟩ := Kd.R_slice HO356.out; subst eo10) | (go_at_call 35; (with_reducible refine (Qau.calls k _ _ t353 t349 t357 t358 _ ?side1 ?side2 A5.out).mono ?_); (case side1 => exact Zv (Kd.R_reads' HO356.out).2.2); (case side2 => exact (Kd.R_reads' HO356.out).2.1); rintro e w11 ⟨v359, rfl, ho0, hb⟩; have HO360 := Aside0.mk (Kd.R_lower (Kd.R_new' (Kd.R_new' ho0 (Kd.R_lt (Zr HO352.out))) (Kd.R_lt (Zr HO356.out))) (Qay (Zb))); replace HO352 := Aside0.mk (Kd.R_elder' (Zr HO352.out) (Kd.R_base ho0) hb); replace HO356 := Aside0.mk (Kd.R_elder' (Zr HO356.out) (Kd.R_base ho0) hb); replace HB := Aside0.mk (Qat (Zb) hb); (try clear hb); (try clear hb2); (try clear hk); (try clear hi); (try clear ho0)))
 repeat (go_quiet (first | (go_at_call 34; (with_reducible refine (Qak.calls k _ _ l0 a1 0 t348 t349 t350 _ ?side1 ?side2 A3.out).mono ?_); (case side1 => exact Zv HR0.out); (case side2 => exact HC0.out); rintro e w7 ⟨v351, rfl, ho0, hb⟩; have HO352 := Aside0.mk (Kd.R_lower ho0 (Qay (Zb))); replace HB := Aside0.mk (Qat (Zb) hb); (try clear hb); (try clear hb2); (try clear hk); (try clear hi); (try clear ho0); obtain ⟨Ao8, co8, eo8⟩ := Kd.R_slice HO352.out; subst eo8) | (go_at_call 35; (with_reducible refine (Qau.calls k _ _ t348 t349 t353 t354 _ ?side1 ?side2 A4.out).mono ?_); (case side1 => exact Zv (Kd.R_reads' HO352.out).2.2); (case side2 => exact (Kd.R_reads' HO352.out).2.1); rintro e w9 ⟨v355, rfl, ho0, hb⟩; have HO356 := Aside0.mk (Kd.R_lower (Kd.R_new' ho0 (Kd.R_lt (Zr HO352.out))) (Qay (Zb))); replace HO352 := Aside0.mk (Kd.R_elder' (Zr HO352.out) (Kd.R_base ho0) hb); replace HB := Aside0.mk (Qat (Zb) hb); (try clear hb); (try clear hb2); (try clear hk); (try clear hi); (try clear ho0); obtain ⟨Ao10, co10, eo10⟩ := Kd.R_slice HO356.out; subst eo10) | (go_at_call 35; (with_reducible refine (Qau.calls k _ _ t353 t349 t357 t358 _ ?side1 ?side2 A5.out).mono ?_); (case side1 => exact Zv (Kd.R_reads' HO356.out).2.2); (case side2 => exact (Kd.R_reads' HO356.out).2.1); rintro e w11 ⟨v359, rfl, ho0, hb⟩; have HO360 := Aside0.mk (Kd.R_lower (Kd.R_new' (Kd.R_new' ho0 (Kd.R_lt (Zr HO352.out))) (Kd.R_lt (Zr HO356.out))) (Qay (Zb))); replace HO352 := Aside0.mk (Kd.R_elder' (Zr HO352.out) (Kd.R_base ho0) hb); replace HO356 := Aside0.mk (Kd.R_elder' (Zr HO356.out) (Kd.R_base ho0) hb); replace HB := Aside0.mk (Qat (Zb) hb); (try clear hb); (try clear hb2); (try clear hk); (try clear hi); (try clear ho0))); go_upto_region 4 with (first | (go_at_call 34; (with_reducible refine (Qak.calls k _ _ l0 a1 0 t348 t349 t350 _ ?side1 ?side2 A3.out).mono ?_); (case side1 => exact Zv HR0.out); (case side2 => exact HC0.out); rintro e w7 ⟨v351, rfl, ho0, hb⟩; have HO352 := Aside0.mk (Kd.R_lower ho0 (Qay (Zb))); replace HB := Aside0.mk (Qat (Zb) hb); (try clear hb); (try clear hb2); (try clear hk); (try clear hi); (try clear ho0); obtain ⟨Ao8, co8, eo8⟩ := Kd.R_slice HO352.out; subst eo8) | (go_at_call 35; (with_reducible refine (Qau.calls k _ _ t348 t349 t353 t354 _ ?side1 ?side2 A4.out).mono ?_); (case side1 => exact Zv (Kd.R_reads' HO352.out).2.2); (case side2 => exact (Kd.R_reads' HO352.out).2.1); rintro e w9 ⟨v355, rfl, ho0, hb⟩; have HO356 := Aside0.mk (Kd.R_lower (Kd.R_new' ho0 (Kd.R_lt (Zr HO352.out))) (Qay (Zb))); replace HO352 := Aside0.mk (Kd.R_elder' (Zr HO352.out) (Kd.R_base ho0) hb); replace HB := Aside0.mk (Qat (Zb) hb); (try clear hb); (try clear hb2); (try clear hk); (try clear hi); (try clear ho0); obtain ⟨Ao10, co10, eo10⟩ := Kd.R_slice HO356.out; subst eo10) | (go_at_call 35; (with_reducible refine (Qau.calls k _ _ t353 t349 t357 t358 _ ?side1 ?side2 A5.out).mono ?_); (case side1 => exact Zv (Kd.R_reads' HO356.out).2.2); (case side2 => exact (Kd.R_reads' HO356.out).2.1); rintro e w11 ⟨v359, rfl, ho0, hb⟩; have HO360 := Aside0.mk (Kd.R_lower (Kd.R_new' (Kd.R_new' ho0 (Kd.R_lt (Zr HO352.out))) (Kd.R_lt (Zr HO356.out))) (Qay (Zb))); replace HO352 := Aside0.mk (Kd.R_elder' (Zr HO352.out) (Kd.R_base ho0) hb); replace HO356 := Aside0.mk (Kd.R_elder' (Zr HO356.out) (Kd.R_base ho0) hb); replace HB := Aside0.mk (Qat (Zb) hb); (try clear hb); (try clear hb2); (try clear hk); (try clear hi); (try clear ho0))))
 (try simp only [Act.put, Zj, Zk, Zm])
 go_cut [49] (fun v49 wc => ∃ (kq : Nat) (x49_5 : Bool), v49 = .bool x49_5 ∧ Aside0 (contangolaw19_CurveAgain.j0 kq t348 t349 t353 x49_5 = some r) ∧ Aside0 (kq ≤ k) ∧ Aside0 (Kd.R k56 56 wc w.heap.size (fun k_ => some k_ ≠ ((.slice Ao10 t353.length co10) : Value).ownBlock) (.slice Ao8 t348.length co8) t348) ∧ Aside0 (Kd.R k56 56 wc w.heap.size (fun k_ => some k_ ≠ ((.slice Ao8 t348.length co8) : Value).ownBlock) (.slice Ao10 t353.length co10) t353) ∧ Aside0 (Below w.heap.size w wc))
 case first =>
  have H := HC6.out
  clear HC6
  by_cases c12 : t354 = 0
  ·rw [if_pos c12] at H
   have c12b0 : (t354 == 0) = T := beq_iff_eq.mpr c12
   have c12b1 : (t354 != 0) = false := bne_eq_false_iff_eq.mpr c12
   clear c12
   by_cases c13 : t358 = 0
   ·rw [if_pos c13] at H
    have c13b0 : (t358 == 0) = T := beq_iff_eq.mpr c13
    have c13b1 : (t358 != 0) = false := bne_eq_false_iff_eq.mpr c13
    clear c13
    by_cases c14 : (t353.length : Int) = (t348.length : Int)
    ·rw [if_pos c14] at H
     have c14b0 : ((t353.length : Int) == (t348.length : Int)) = T := beq_iff_eq.mpr c14
     have c14b1 : ((t353.length : Int) != (t348.length : Int)) = false := bne_eq_false_iff_eq.mpr c14
     have c14b2 : (t353.length == t348.length) = T := by first | simpa using c14 | (simp at c14 ⊢; omega)
     clear c14
     replace H := Option.bind_eq_some_iff.mp H
     obtain ⟨t361, A150, H⟩ := H
     replace H : (contangolaw19_CurveAgain.j0 k t348 t349 t353 (!t361)) = some r := H
     have A15 := Aside0.mk A150
     clear A150
     have H' := Aside0.mk H
     clear H
     obtain ⟨Ao16, co16, eo16⟩ := Kd.R_slice HO360.out
     subst eo16
     go_wp2_with (first | (go_at_call 33; (with_reducible refine (Qae.calls k _ _ t353 _ _ t357 t361 _ ?side1 ?side2 ?side3 ?side4 A15.out).mono ?_); (case side1 => exact Zv (Kd.R_reads' HO356.out).2.2); (case side2 => exact (Kd.R_reads' HO356.out).2.1); (case side3 => exact Zv (Kd.R_reads' HO360.out).2.2); (case side4 => exact (Kd.R_reads' HO360.out).2.1); rintro e w' ⟨rfl, ⟨nd, rfl⟩⟩; (try first | exact ⟨rfl, _, World.drewN_drewN _ _ _⟩ | exact ⟨rfl, _, Eq.trans (World.drewN_drewN _ _ _) (congrArg (World.drewN _) (Nat.add_assoc _ _ _))⟩)))
     repeat (go_quiet (first | (go_at_call 33; (with_reducible refine (Qae.calls k _ _ t353 _ _ t357 t361 _ ?side1 ?side2 ?side3 ?side4 A15.out).mono ?_); (case side1 => exact Zv (Kd.R_reads' HO356.out).2.2); (case side2 => exact (Kd.R_reads' HO356.out).2.1); (case side3 => exact Zv (Kd.R_reads' HO360.out).2.2); (case side4 => exact (Kd.R_reads' HO360.out).2.1); rintro e w' ⟨rfl, ⟨nd, rfl⟩⟩; (try first | exact ⟨rfl, _, World.drewN_drewN _ _ _⟩ | exact ⟨rfl, _, Eq.trans (World.drewN_drewN _ _ _) (congrArg (World.drewN _) (Nat.add_assoc _ _ _))⟩))); try go_wp2_with (first | (go_at_call 33; (with_reducible refine (Qae.calls k _ _ t353 _ _ t357 t361 _ ?side1 ?side2 ?side3 ?side4 A15.out).mono ?_); (case side1 => exact Zv (Kd.R_reads' HO356.out).2.2); (case side2 => exact (Kd.R_reads' HO356.out).2.1); (case side3 => exact Zv (Kd.R_reads' HO360.out).2.2); (case side4 => exact (Kd.R_reads' HO360.out).2.1); rintro e w' ⟨rfl, ⟨nd, rfl⟩⟩; (try first | exact ⟨rfl, _, World.drewN_drewN _ _ _⟩ | exact ⟨rfl, _, Eq.trans (World.drewN_drewN _ _ _) (congrArg (World.drewN _) (Nat.add_assoc _ _ _))⟩))))
     go_meet
     case rel => exact ⟨_, (!t361), (Zs), H', ⟨by first | omega | exact Nat.le_refl _⟩, ⟨by (with_reducible repeat (first | apply Kd.R_alloc | apply Kd.R_drewN | apply Kd.R_drew)); exact Kd.R_mono HO352.out (fun _ hk => hk.1.2)⟩, ⟨by (with_reducible repeat (first | apply Kd.R_alloc | apply Kd.R_drewN | apply Kd.R_drew)); exact Kd.R_mono HO356.out (fun _ hk => hk.1.2)⟩, ⟨Zb⟩⟩
    rw [if_neg c14] at H
    have c14b0 : ((t353.length : Int) == (t348.length : Int)) = false := beq_eq_false_iff_ne.mpr c14
    have c14b1 : ((t353.length : Int) != (t348.length : Int)) = T := bne_iff_ne.mpr c14
    have c14b2 : (t353.length == t348.length) = false := by first | simpa using c14 | (simp at c14 ⊢; omega)
    have H' := Aside0.mk H
    clear H
    go_wp2
    repeat (go_quiet (fail); try go_wp2)
    go_meet
    case rel => exact ⟨_, (T), (Zs), H', ⟨by first | omega | exact Nat.le_refl _⟩, ⟨by (with_reducible repeat (first | apply Kd.R_alloc | apply Kd.R_drewN | apply Kd.R_drew)); exact Kd.R_mono HO352.out (fun _ hk => hk.1.2)⟩, ⟨by (with_reducible repeat (first | apply Kd.R_alloc | apply Kd.R_drewN | apply Kd.R_drew)); exact Kd.R_mono HO356.out (fun _ hk => hk.1.2)⟩, ⟨Zb⟩⟩
   rw [if_neg c13] at H
   have c13b0 : (t358 == 0) = false := beq_eq_false_iff_ne.mpr c13
   have c13b1 : (t358 != 0) = T := bne_iff_ne.mpr c13
   have H' := Aside0.mk H
   clear H
   go_wp2
   repeat (go_quiet (fail); try go_wp2)
   go_meet
   case rel => exact ⟨_, (T), (Zs), H', ⟨by first | omega | exact Nat.le_refl _⟩, ⟨by (with_reducible repeat (first | apply Kd.R_alloc | apply Kd.R_drewN | apply Kd.R_drew)); exact Kd.R_mono HO352.out (fun _ hk => hk.1.2)⟩, ⟨by (with_reducible repeat (first | apply Kd.R_alloc | apply Kd.R_drewN | apply Kd.R_drew)); exact Kd.R_mono HO356.out (fun _ hk => hk.1.2)⟩, ⟨Zb⟩⟩
  rw [if_neg c12] at H
  have c12b0 : (t354 == 0) = false := beq_eq_false_iff_ne.mpr c12
  have c12b1 : (t354 != 0) = T := bne_iff_ne.mpr c12
  have H' := Aside0.mk H
  clear H
  go_wp2
  repeat (go_quiet (fail); try go_wp2)
  go_meet
  case rel => exact ⟨_, (T), (Zs), H', ⟨by first | omega | exact Nat.le_refl _⟩, ⟨by (with_reducible repeat (first | apply Kd.R_alloc | apply Kd.R_drewN | apply Kd.R_drew)); exact Kd.R_mono HO352.out (fun _ hk => hk.1.2)⟩, ⟨by (with_reducible repeat (first | apply Kd.R_alloc | apply Kd.R_drewN | apply Kd.R_drew)); exact Kd.R_mono HO356.out (fun _ hk => hk.1.2)⟩, ⟨Zb⟩⟩
 case rest =>
  clear HC6
  try clear c1
  try clear p2
  try clear c10
  try clear c12
  try clear c12b0
  try clear c12b1
  try clear c13
  try clear c13b0
  try clear c13b1
  try clear c14
  try clear c14b0
  try clear c14b1
  try clear c14b2
  obtain ⟨kq, x49_5, rfl, HA, HJ5, HO_0, HO_5, HB⟩ := hcut
  cases kq with
  | zero => exact absurd HA.out (by simp [contangolaw19_CurveAgain.j0])
  | succ kj5 =>
   have H := HA.out
   clear HA
   simp only [contangolaw19_CurveAgain.j0] at H
   by_cases c17 : x49_5 = T
   ·subst c17
    have H1 : (none) = some r := by rw [if_pos rfl] at H; exact H
    clear H
    have H := H1
    clear H1
    exact absurd H (by simp)
   replace c17 := Bool.eq_false_iff.mpr c17
   subst c17
   have H1 : (contangolaw19_CurveAgain.l0 kj5 t348 t349 t353 (t353.length : Int) 0) = some r := by rw [if_neg (show ¬ (false = T) by decide)] at H; exact H
   clear H
   have H := H1
   clear H1
   have H' := Aside0.mk H
   clear H
   go_wp2
   repeat (go_quiet (fail); try go_wp2)
   go_loopg [52] kj5 (fun kq v52 w' => ∃ (x52_2 : Int), v52 = .int .i64 x52_2 ∧ Aside0 (contangolaw19_CurveAgain.l0 kq t348 t349 t353 (t353.length : Int) x52_2 = some r) ∧ Aside0 (kq ≤ kj5) ∧ Aside0 (Kd.R k56 56 w' w.heap.size (fun k_ => some k_ ≠ ((.slice Ao10 t353.length co10) : Value).ownBlock) (.slice Ao8 t348.length co8) t348) ∧ Aside0 (Kd.R k56 56 w' w.heap.size (fun k_ => some k_ ≠ ((.slice Ao8 t348.length co8) : Value).ownBlock) (.slice Ao10 t353.length co10) t353) ∧ Aside0 (Below w.heap.size w w'))
   case atStart => exact ⟨(0), (Zs), H', ⟨Nat.le_refl _⟩, ⟨Zr HO_0.out⟩, ⟨Zr HO_5.out⟩, ⟨Zb⟩⟩
   case round =>
    clear H'
    try clear c1
    try clear p2
    try clear c10
    try clear c12
    try clear c12b0
    try clear c12b1
    try clear c13
    try clear c13b0
    try clear c13b1
    try clear c14
    try clear c14b0
    try clear c14b1
    try clear c14b2
    try clear c17
    try clear p2
    obtain ⟨x52_2, rfl, HA, HK2, HO_0, HO_5, HB⟩ := hrel
    cases gk with
    | zero => exact absurd HA.out (by simp [contangolaw19_CurveAgain.l0])
    | succ k2 =>
     have H := HA.out
     clear HA
     simp only [contangolaw19_CurveAgain.l0] at H
     by_cases c18 : x52_2 < (t353.length : Int)
     ·rw [if_pos c18] at H
      have c18b0 : decide (x52_2 < (t353.length : Int)) = T := decide_eq_true c18
      clear c18
      (try simp only [c18b0])
      (try (have cx_ : ((rd_T56 t353 x52_2).f1 == (rd_T56 t348 x52_2).f1) = T := (by have h_ := c18b0; rw [c27b0] at h_; simpa using h_); simp only [cx_, Bool.not_true]))
      by_cases c19 : 0 ≤ x52_2
      ·rw [if_pos c19] at H
       have c19b0 : decide (0 ≤ x52_2) = T := decide_eq_true c19
       clear c19
       by_cases c20 : x52_2 < (t348.length : Int)
       ·rw [if_pos c20] at H
        have c20b0 : decide (x52_2 < (t348.length : Int)) = T := decide_eq_true c20
        clear c20
        replace H := Option.bind_eq_some_iff.mp H
        obtain ⟨⟨t363, t364⟩, A210, H⟩ := H
        replace H : (if t364 = 0 then (if x52_2 < (t353.length : Int) then (if ((rd_T56 t353 x52_2).f2 = T) then (if ((rd_T56 t353 x52_2).f0) = ((rd_T56 t348 x52_2).f0) then (if ((rd_T56 t353 x52_2).f1) = t363 then (if (rd_T56 t348 x52_2).f2 = T then (if (!(((rd_T56 t353 x52_2).f0) == ((rd_T56 t348 x52_2).f0)) || (!(((rd_T56 t353 x52_2).f1) == ((rd_T56 t348 x52_2).f1)) || (!(((rd_T56 t353 x52_2).f2) == ((rd_T56 t348 x52_2).f2))))) = T then (none) else (contangolaw19_CurveAgain.l0 k2 t348 t349 t353 (t353.length : Int) (wrap64 (x52_2 + 1)))) else (contangolaw19_CurveAgain.l0 k2 t348 t349 t353 (t353.length : Int) (wrap64 (x52_2 + 1)))) else (none)) else (none)) else (none)) else (none)) else (none)) = some r := H
        have A21 := Aside0.mk A210
        clear A210
        have p362 : 0 ≤ (x52_2 : Int) := Ze
        have q362 : x52_2 < (t348.length : Int) := Ze
        obtain ⟨ad362, e362, hx362_0, hx362_1, hx362_2⟩ := at_T56 (Kd.R_reads' HO_0.out).2.2 x52_2 p362 q362
        cases e362
        replace p362 := eq_true p362
        replace q362 := eq_true q362
        go_upto_region 10 with (first | (go_at_call 29; (with_reducible refine (QaC.calls k2 _ _ t348 ((rd_T56 t348 x52_2).f0) t349 t363 t364 _ ?side1 ?side2 A21.out).mono ?_); (case side1 => exact Zv (Kd.R_reads' HO_0.out).2.2); (case side2 => exact (Kd.R_reads' HO_0.out).2.1); rintro e w22 ⟨rfl, hb⟩; replace HO_0 := Aside0.mk (Kd.R_below (Zr HO_0.out) hb); replace HO_5 := Aside0.mk (Kd.R_below (Zr HO_5.out) hb); replace HB := Aside0.mk (Qat (Zb) hb); (try clear hb); (try clear hb2); (try clear hk); (try clear hi)))
        repeat (go_quiet (first | (go_at_call 29; (with_reducible refine (QaC.calls k2 _ _ t348 ((rd_T56 t348 x52_2).f0) t349 t363 t364 _ ?side1 ?side2 A21.out).mono ?_); (case side1 => exact Zv (Kd.R_reads' HO_0.out).2.2); (case side2 => exact (Kd.R_reads' HO_0.out).2.1); rintro e w22 ⟨rfl, hb⟩; replace HO_0 := Aside0.mk (Kd.R_below (Zr HO_0.out) hb); replace HO_5 := Aside0.mk (Kd.R_below (Zr HO_5.out) hb); replace HB := Aside0.mk (Qat (Zb) hb); (try clear hb); (try clear hb2); (try clear hk); (try clear hi))); go_upto_region 10 with (first | (go_at_call 29; (with_reducible refine (QaC.calls k2 _ _ t348 ((rd_T56 t348 x52_2).f0) t349 t363 t364 _ ?side1 ?side2 A21.out).mono ?_); (case side1 => exact Zv (Kd.R_reads' HO_0.out).2.2); (case side2 => exact (Kd.R_reads' HO_0.out).2.1); rintro e w22 ⟨rfl, hb⟩; replace HO_0 := Aside0.mk (Kd.R_below (Zr HO_0.out) hb); replace HO_5 := Aside0.mk (Kd.R_below (Zr HO_5.out) hb); replace HB := Aside0.mk (Qat (Zb) hb); (try clear hb); (try clear hb2); (try clear hk); (try clear hi))))
        (try simp only [Act.put, Zj, Zk, Zm])
        by_cases c23 : t364 = 0
        ·rw [if_pos c23] at H
         have c23b0 : (t364 == 0) = T := beq_iff_eq.mpr c23
         have c23b1 : (t364 != 0) = false := bne_eq_false_iff_eq.mpr c23
         clear c23
         (try simp only [c23b0, c23b1])
         by_cases c24 : x52_2 < (t353.length : Int)
         ·rw [if_pos c24] at H
          have c24b0 : decide (x52_2 < (t353.length : Int)) = T := decide_eq_true c24
          clear c24
          obtain ⟨bq25, hbq25⟩ : ∃ b_ : Bool, b_ = ((rd_T56 t353 x52_2).f2) := ⟨_, rfl⟩
          replace H : (if (bq25 = T) then (if ((rd_T56 t353 x52_2).f0) = ((rd_T56 t348 x52_2).f0) then (if ((rd_T56 t353 x52_2).f1) = t363 then (if (rd_T56 t348 x52_2).f2 = T then (if (!(((rd_T56 t353 x52_2).f0) == ((rd_T56 t348 x52_2).f0)) || (!(((rd_T56 t353 x52_2).f1) == ((rd_T56 t348 x52_2).f1)) || (!((bq25) == ((rd_T56 t348 x52_2).f2))))) = T then (none) else (contangolaw19_CurveAgain.l0 k2 t348 t349 t353 (t353.length : Int) (wrap64 (x52_2 + 1)))) else (contangolaw19_CurveAgain.l0 k2 t348 t349 t353 (t353.length : Int) (wrap64 (x52_2 + 1)))) else (none)) else (none)) else (none)) = some r := by rw [← hbq25] at H; exact H
          have Nbq25 := Aside0.mk hbq25
          clear hbq25
          by_cases c26 : (bq25 = T)
          ·subst c26
           have H1 : (if ((rd_T56 t353 x52_2).f0) = ((rd_T56 t348 x52_2).f0) then (if ((rd_T56 t353 x52_2).f1) = t363 then (if (rd_T56 t348 x52_2).f2 = T then (if (!(((rd_T56 t353 x52_2).f0) == ((rd_T56 t348 x52_2).f0)) || (!(((rd_T56 t353 x52_2).f1) == ((rd_T56 t348 x52_2).f1)) || (!((T) == ((rd_T56 t348 x52_2).f2))))) = T then (none) else (contangolaw19_CurveAgain.l0 k2 t348 t349 t353 (t353.length : Int) (wrap64 (x52_2 + 1)))) else (contangolaw19_CurveAgain.l0 k2 t348 t349 t353 (t353.length : Int) (wrap64 (x52_2 + 1)))) else (none)) else (none)) = some r := by rw [if_pos rfl] at H; exact H
           clear H
           have H := H1
           clear H1
           by_cases c27 : ((rd_T56 t353 x52_2).f0) = ((rd_T56 t348 x52_2).f0)
           ·rw [if_pos c27] at H
            have c27b0 : (((rd_T56 t353 x52_2).f0) == ((rd_T56 t348 x52_2).f0)) = T := beq_iff_eq.mpr c27
            have c27b1 : (((rd_T56 t353 x52_2).f0) != ((rd_T56 t348 x52_2).f0)) = false := bne_eq_false_iff_eq.mpr c27
            clear c27
            by_cases c28 : ((rd_T56 t353 x52_2).f1) = t363
            ·rw [if_pos c28] at H
             have c28b0 : (((rd_T56 t353 x52_2).f1) == t363) = T := beq_iff_eq.mpr c28
             have c28b1 : (((rd_T56 t353 x52_2).f1) != t363) = false := bne_eq_false_iff_eq.mpr c28
             clear c28
             obtain ⟨bq29, hbq29⟩ : ∃ b_ : Bool, b_ = ((rd_T56 t348 x52_2).f2) := ⟨_, rfl⟩
             replace H : (if bq29 = T then (if (!(((rd_T56 t353 x52_2).f0) == ((rd_T56 t348 x52_2).f0)) || (!(((rd_T56 t353 x52_2).f1) == ((rd_T56 t348 x52_2).f1)) || (!((T) == (bq29))))) = T then (none) else (contangolaw19_CurveAgain.l0 k2 t348 t349 t353 (t353.length : Int) (wrap64 (x52_2 + 1)))) else (contangolaw19_CurveAgain.l0 k2 t348 t349 t353 (t353.length : Int) (wrap64 (x52_2 + 1)))) = some r := by rw [← hbq29] at H; exact H
             have Nbq29 := Aside0.mk hbq29
             clear hbq29
             by_cases c30 : bq29 = T
             ·subst c30
              have H1 : (if (!(((rd_T56 t353 x52_2).f0) == ((rd_T56 t348 x52_2).f0)) || (!(((rd_T56 t353 x52_2).f1) == ((rd_T56 t348 x52_2).f1)) || (!((T) == (T))))) = T then (none) else (contangolaw19_CurveAgain.l0 k2 t348 t349 t353 (t353.length : Int) (wrap64 (x52_2 + 1)))) = some r := by rw [if_pos rfl] at H; exact H
              clear H
              have H := H1
              clear H1
              have p365 : 0 ≤ (x52_2 : Int) := Ze
              have q365 : x52_2 < (t353.length : Int) := Ze
              obtain ⟨ad365, e365, hx365_0, hx365_1, hx365_2⟩ := at_T56 (Kd.R_reads' HO_5.out).2.2 x52_2 p365 q365
              (try rw [← Nbq25.out] at hx365_2); (try rw [← Nbq25.out] at hw365_2)
              (try rw [← Nbq29.out] at hx365_2); (try rw [← Nbq29.out] at hw365_2)
              cases e365
              replace p365 := eq_true p365
              replace q365 := eq_true q365
              have p366 : 0 ≤ (x52_2 : Int) := Ze
              have q366 : x52_2 < (t353.length : Int) := Ze
              obtain ⟨ad366, e366, hx366_0, hx366_1, hx366_2⟩ := at_T56 (Kd.R_reads' HO_5.out).2.2 x52_2 p366 q366
              (try rw [← Nbq25.out] at hx366_2); (try rw [← Nbq25.out] at hw366_2)
              (try rw [← Nbq29.out] at hx366_2); (try rw [← Nbq29.out] at hw366_2)
              obtain rfl : ad365 = ad366 := (by injection e366)
              replace p366 := eq_true p366
              replace q366 := eq_true q366
              have p367 : 0 ≤ (x52_2 : Int) := Ze
              have q367 : x52_2 < (t348.length : Int) := Ze
              obtain ⟨ad367, e367, hx367_0, hx367_1, hx367_2⟩ := at_T56 (Kd.R_reads' HO_0.out).2.2 x52_2 p367 q367
              (try rw [← Nbq25.out] at hx367_2); (try rw [← Nbq25.out] at hw367_2)
              (try rw [← Nbq29.out] at hx367_2); (try rw [← Nbq29.out] at hw367_2)
              obtain rfl : ad362 = ad367 := (by injection e367)
              replace p367 := eq_true p367
              replace q367 := eq_true q367
              have p368 : 0 ≤ (x52_2 : Int) := Ze
              have q368 : x52_2 < (t353.length : Int) := Ze
              obtain ⟨ad368, e368, hx368_0, hx368_1, hx368_2⟩ := at_T56 (Kd.R_reads' HO_5.out).2.2 x52_2 p368 q368
              (try rw [← Nbq25.out] at hx368_2); (try rw [← Nbq25.out] at hw368_2)
              (try rw [← Nbq29.out] at hx368_2); (try rw [← Nbq29.out] at hw368_2)
              obtain rfl : ad365 = ad368 := (by injection e368)
              replace p368 := eq_true p368
              replace q368 := eq_true q368
              have p369 : 0 ≤ (x52_2 : Int) := Ze
              have q369 : x52_2 < (t348.length : Int) := Ze
              obtain ⟨ad369, e369, hx369_0, hx369_1, hx369_2⟩ := at_T56 (Kd.R_reads' HO_0.out).2.2 x52_2 p369 q369
              (try rw [← Nbq25.out] at hx369_2); (try rw [← Nbq25.out] at hw369_2)
              (try rw [← Nbq29.out] at hx369_2); (try rw [← Nbq29.out] at hw369_2)
              obtain rfl : ad362 = ad369 := (by injection e369)
              replace p369 := eq_true p369
              replace q369 := eq_true q369
              have p370 : 0 ≤ (x52_2 : Int) := Ze
              have q370 : x52_2 < (t353.length : Int) := Ze
              obtain ⟨ad370, e370, hx370_0, hx370_1, hx370_2⟩ := at_T56 (Kd.R_reads' HO_5.out).2.2 x52_2 p370 q370
              (try rw [← Nbq25.out] at hx370_2); (try rw [← Nbq25.out] at hw370_2)
              (try rw [← Nbq29.out] at hx370_2); (try rw [← Nbq29.out] at hw370_2)
              obtain rfl : ad365 = ad370 := (by injection e370)
              replace p370 := eq_true p370
              replace q370 := eq_true q370
              have p371 : 0 ≤ (x52_2 : Int) := Ze
              have q371 : x52_2 < (t348.length : Int) := Ze
              obtain ⟨ad371, e371, hx371_0, hx371_1, hx371_2⟩ := at_T56 (Kd.R_reads' HO_0.out).2.2 x52_2 p371 q371
              (try rw [← Nbq25.out] at hx371_2); (try rw [← Nbq25.out] at hw371_2)
              (try rw [← Nbq29.out] at hx371_2); (try rw [← Nbq29.out] at hw371_2)
              obtain rfl : ad362 = ad371 := (by injection e371)
              replace p371 := eq_true p371
              replace q371 := eq_true q371
              go_upto_if 115 with (fail)
              repeat (go_quiet (fail); go_upto_if 115 with (fail))
              (try rw [← Nbq25.out])
              (try rw [← Nbq29.out])
              by_cases c31 : (!(((rd_T56 t353 x52_2).f0) == ((rd_T56 t348 x52_2).f0)) || (!(((rd_T56 t353 x52_2).f1) == ((rd_T56 t348 x52_2).f1)) || (!((T) == (T))))) = T
              ·rw [if_pos c31] at H
               exact absurd H (by simp)
              rw [if_neg c31] at H
              have c31b0 : (!(((rd_T56 t353 x52_2).f0) == ((rd_T56 t348 x52_2).f0)) || (!(((rd_T56 t353 x52_2).f1) == ((rd_T56 t348 x52_2).f1)) || (!((T) == (T))))) = false := by simpa using c31
              clear c31
              (try simp only [c31b0])
              (try (have cx_ : ((rd_T56 t353 x52_2).f1 == (rd_T56 t348 x52_2).f1) = T := (by have h_ := c31b0; rw [c27b0] at h_; simpa using h_); simp only [cx_, Bool.not_true]))
              have H' := Aside0.mk H
              clear H
              go_wp2
              repeat (go_quiet (fail); try go_wp2)
              go_roundg k2
              case measure => have := HJ5.out; have := HK2.out; omega
              case rel => exact ⟨(wrap64 (x52_2 + 1)), (Zs), H', ⟨by have := HJ5.out; have := HK2.out; omega⟩, ⟨Zr HO_0.out⟩, ⟨Zr HO_5.out⟩, ⟨Zb⟩⟩
             replace c30 := Bool.eq_false_iff.mpr c30
             subst c30
             have H1 : (contangolaw19_CurveAgain.l0 k2 t348 t349 t353 (t353.length : Int) (wrap64 (x52_2 + 1))) = some r := by rw [if_neg (show ¬ (false = T) by decide)] at H; exact H
             clear H
             have H := H1
             clear H1
             have H' := Aside0.mk H
             clear H
             have p365 : 0 ≤ (x52_2 : Int) := Ze
             have q365 : x52_2 < (t353.length : Int) := Ze
             obtain ⟨ad365, e365, hx365_0, hx365_1, hx365_2⟩ := at_T56 (Kd.R_reads' HO_5.out).2.2 x52_2 p365 q365
             (try rw [← Nbq25.out] at hx365_2); (try rw [← Nbq25.out] at hw365_2)
             (try rw [← Nbq29.out] at hx365_2); (try rw [← Nbq29.out] at hw365_2)
             cases e365
             replace p365 := eq_true p365
             replace q365 := eq_true q365
             have p366 : 0 ≤ (x52_2 : Int) := Ze
             have q366 : x52_2 < (t353.length : Int) := Ze
             obtain ⟨ad366, e366, hx366_0, hx366_1, hx366_2⟩ := at_T56 (Kd.R_reads' HO_5.out).2.2 x52_2 p366 q366
             (try rw [← Nbq25.out] at hx366_2); (try rw [← Nbq25.out] at hw366_2)
             (try rw [← Nbq29.out] at hx366_2); (try rw [← Nbq29.out] at hw366_2)
             obtain rfl : ad365 = ad366 := (by injection e366)
             replace p366 := eq_true p366
             replace q366 := eq_true q366
             have p367 : 0 ≤ (x52_2 : Int) := Ze
             have q367 : x52_2 < (t348.length : Int) := Ze
             obtain ⟨ad367, e367, hx367_0, hx367_1, hx367_2⟩ := at_T56 (Kd.R_reads' HO_0.out).2.2 x52_2 p367 q367
             (try rw [← Nbq25.out] at hx367_2); (try rw [← Nbq25.out] at hw367_2)
             (try rw [← Nbq29.out] at hx367_2); (try rw [← Nbq29.out] at hw367_2)
             obtain rfl : ad362 = ad367 := (by injection e367)
             replace p367 := eq_true p367
             replace q367 := eq_true q367
             have p368 : 0 ≤ (x52_2 : Int) := Ze
             have q368 : x52_2 < (t353.length : Int) := Ze
             obtain ⟨ad368, e368, hx368_0, hx368_1, hx368_2⟩ := at_T56 (Kd.R_reads' HO_5.out).2.2 x52_2 p368 q368
             (try rw [← Nbq25.out] at hx368_2); (try rw [← Nbq25.out] at hw368_2)
             (try rw [← Nbq29.out] at hx368_2); (try rw [← Nbq29.out] at hw368_2)
             obtain rfl : ad365 = ad368 := (by injection e368)
             replace p368 := eq_true p368
             replace q368 := eq_true q368
             have p369 : 0 ≤ (x52_2 : Int) := Ze
             have q369 : x52_2 < (t348.length : Int) := Ze
             obtain ⟨ad369, e369, hx369_0, hx369_1, hx369_2⟩ := at_T56 (Kd.R_reads' HO_0.out).2.2 x52_2 p369 q369
             (try rw [← Nbq25.out] at hx369_2); (try rw [← Nbq25.out] at hw369_2)
             (try rw [← Nbq29.out] at hx369_2); (try rw [← Nbq29.out] at hw369_2)
             obtain rfl : ad362 = ad369 := (by injection e369)
             replace p369 := eq_true p369
             replace q369 := eq_true q369
             go_wp2
             repeat (go_quiet (fail); try go_wp2)
             go_roundg k2
             case measure => have := HJ5.out; have := HK2.out; omega
             case rel => exact ⟨(wrap64 (x52_2 + 1)), (Zs), H', ⟨by have := HJ5.out; have := HK2.out; omega⟩, ⟨Zr HO_0.out⟩, ⟨Zr HO_5.out⟩, ⟨Zb⟩⟩
            rw [if_neg c28] at H
            exact absurd H (by simp)
           rw [if_neg c27] at H
           exact absurd H (by simp)
          replace c26 := Bool.eq_false_iff.mpr c26
          subst c26
          have H1 : (none) = some r := by rw [if_neg (show ¬ (false = T) by decide)] at H; exact H
          clear H
          have H := H1
          clear H1
          exact absurd H (by simp)
         rw [if_neg c24] at H
         exact absurd H (by simp)
        rw [if_neg c23] at H
        exact absurd H (by simp)
       rw [if_neg c20] at H
       exact absurd H (by simp)
      rw [if_neg c19] at H
      exact absurd H (by simp)
     rw [if_neg c18] at H
     have c18b0 : decide (x52_2 < (t353.length : Int)) = false := decide_eq_false c18
     clear c18
     (try simp only [c18b0])
     (try (have cx_ : ((rd_T56 t353 x52_2).f1 == (rd_T56 t348 x52_2).f1) = T := (by have h_ := c18b0; rw [c27b0] at h_; simpa using h_); simp only [cx_, Bool.not_true]))
     replace H := Option.bind_eq_some_iff.mp H
     obtain ⟨t372, A320, H⟩ := H
     replace H : (some t372) = some r := H
     have A32 := Aside0.mk A320
     clear A320
     obtain rfl := Option.some.inj H
     go_wp2_with (first | (go_at_call 28; (with_reducible refine (Qag.calls k2  t372 _ A32.out).mono ?_); rintro e w33 ⟨rfl, hb⟩; replace HO_0 := Aside0.mk (Kd.R_below (Zr HO_0.out) hb); replace HO_5 := Aside0.mk (Kd.R_below (Zr HO_5.out) hb); replace HB := Aside0.mk (Qat (Zb) hb); (try clear hb); (try clear hb2); (try clear hk); (try clear hi)))
     repeat (go_quiet (first | (go_at_call 28; (with_reducible refine (Qag.calls k2  t372 _ A32.out).mono ?_); rintro e w33 ⟨rfl, hb⟩; replace HO_0 := Aside0.mk (Kd.R_below (Zr HO_0.out) hb); replace HO_5 := Aside0.mk (Kd.R_below (Zr HO_5.out) hb); replace HB := Aside0.mk (Qat (Zb) hb); (try clear hb); (try clear hb2); (try clear hk); (try clear hi))); try go_wp2_with (first | (go_at_call 28; (with_reducible refine (Qag.calls k2  t372 _ A32.out).mono ?_); rintro e w33 ⟨rfl, hb⟩; replace HO_0 := Aside0.mk (Kd.R_below (Zr HO_0.out) hb); replace HO_5 := Aside0.mk (Kd.R_below (Zr HO_5.out) hb); replace HB := Aside0.mk (Qat (Zb) hb); (try clear hb); (try clear hb2); (try clear hk); (try clear hi))))
     go_ret
     exact ⟨Zq, Zb⟩
end Go.Proofs.Ytaembbndjpebhaa.Pr
