/- Functions' values and contracts, as the print wrote them. -/
import Derived.Test.YtaembbndjpebhaaQBF7P0
import Derived.Test.YtaembbndjpebhaaQBF7P1
import Derived.Test.YtaembbndjpebhaaQBF7P2
namespace Go.Proofs.Ytaembbndjpebhaa.Pr
open Bool renaming true → T
open Bool renaming false → F
open Go.RowKit Go.Proofs.YtaembbndjpebhaaW.PrintWords Go.Proofs.YtaembbndjpebhaaW.PrintLast Go.Proofs.YtaembbndjpebhaaW.PrintMore
attribute [local go_sem] QaK QaM QaQ QaR QaI QaJ QaL QaN   -- for this text's walks alone
set_option linter.unusedVariables false
set_option linter.unusedSimpArgs false
set_option maxRecDepth 100000
set_option maxHeartbeats 8000000
def contangolaw19_CurveAts.f (k : Nat) (l0 : List (S56)) (a1 : Int) (a2 : Int) : Option (Bool) := if (l0.length : Int) > 300 then ((Qag.f k).bind fun t309 => (some t309)) else ((some (([] : List (S56)) : List (S56))).bind fun y310 => (if y310.length + l0.length < 5864062014805 then ((some (y310 ++ l0 : List (S56))).bind fun y313 => ((QaC.f k y313 a1 a2).bind fun bt316 => ((QaB.f k l0 a1 a2).bind fun bt318 => ((Qal.f k y313).bind fun t320 => ((Qad.f k l0).bind fun t321 => (if t320 = t321 then (if bt316.1 = bt318.1 then (if bt316.2 = bt318.2 then ((Qae.f k y313 l0).bind fun t322 => (if t322 = T then ((Qag.f k).bind fun t323 => (some t323)) else (none))) else (none)) else (none)) else (none))))))) else (none)))
theorem contangolaw19_CurveAts.mono : ∀ a0 a1 a2 k, LeO (contangolaw19_CurveAts.f k a0 a1 a2) (contangolaw19_CurveAts.f (k + 1) a0 a1 a2) := by
 intro a0 a1 a2 k
 unfold contangolaw19_CurveAts.f
 exact ZM6 Qag.mono QaB.mono Qad.mono Qae.mono QaC.mono Qal.mono
theorem contangolaw19_CurveAts.calls (k : Nat) (A0 : Option Addr) (c0 : Nat) (l0 : List (S56)) (a1 : Int) (a2 : Int) (r : Bool) (w : World) (hr0 : Kd.C k56 w A0 l0.length l0) (hc0 : l0.length ≤ c0) (h : contangolaw19_CurveAts.f k l0 a1 a2 = some r) :
  Calls Try.prog 8 #[.slice A0 l0.length c0, .int .i64 a1, .int .i64 a2] w fun e w' => e = .returned (.bool r) ∧ Below w.heap.size w w' := by
 have HR0 := Aside0.mk hr0
 have HC0 := Aside0.mk hc0
 clear hr0 hc0
 have HB := Aside0.mk (Below.refl w.heap.size w)
 have H : (if (l0.length : Int) > 300 then ((Qag.f k).bind fun t309 => (some t309)) else ((some (([] : List (S56)) : List (S56))).bind fun y310 => (if y310.length + l0.length < 5864062014805 then ((some (y310 ++ l0 : List (S56))).bind fun y313 => ((QaC.f k y313 a1 a2).bind fun bt316 => ((QaB.f k l0 a1 a2).bind fun bt318 => ((Qal.f k y313).bind fun t320 => ((Qad.f k l0).bind fun t321 => (if t320 = t321 then (if bt316.1 = bt318.1 then (if bt316.2 = bt318.2 then ((Qae.f k y313 l0).bind fun t322 => (if t322 = T then ((Qag.f k).bind fun t323 => (some t323)) else (none))) else (none)) else (none)) else (none))))))) else (none)))) = some r := h
 clear h
 by_cases c4 : (l0.length : Int) > 300
 ·rw [if_pos c4] at H
  have c4b0 : decide (300 < (l0.length : Int)) = T := decide_eq_true c4
  have c4b1 : decide (300 < l0.length) = T := decide_eq_true (by omega)
  clear c4
  replace H := Option.bind_eq_some_iff.mp H
  obtain ⟨t309, A50, H⟩ := H
  replace H : (some t309) = some r := H
  have A5 := Aside0.mk A50
  clear A50
  obtain rfl := Option.some.inj H
  go_enter Try.func8, Try.ntmps8
  go_wp2_with (first | ((with_reducible refine QaD (f := 28) rfl ?_); refine goesL_ (some 15) rfl rfl Try.func28 (by kernel_rfl) rfl #[] rfl (Zl) ?_; (with_reducible refine (Qag.calls k  t309 _ A5.out).mono ?_); rintro e w6 ⟨rfl, hb⟩; refine ⟨_, rfl, ?_⟩; replace HB := Aside0.mk (Qat (Zb) hb); (try clear hb); (try clear hb2); (try clear hk); (try clear hi)))
  go_ret
  exact ⟨Zq, Zb⟩
 rw [if_neg c4] at H
 have c4b0 : decide (300 < (l0.length : Int)) = F := decide_eq_false c4
 have c4b1 : decide (300 < l0.length) = F := decide_eq_false (by omega)
 clear c4
 obtain ⟨y310, hy310⟩ : ∃ y_ : List (S56), y_ = (([] : List (S56))) := ⟨_, rfl⟩
 replace H : (if y310.length + l0.length < 5864062014805 then ((some (y310 ++ l0 : List (S56))).bind fun y313 => ((QaC.f k y313 a1 a2).bind fun bt316 => ((QaB.f k l0 a1 a2).bind fun bt318 => ((Qal.f k y313).bind fun t320 => ((Qad.f k l0).bind fun t321 => (if t320 = t321 then (if bt316.1 = bt318.1 then (if bt316.2 = bt318.2 then ((Qae.f k y313 l0).bind fun t322 => (if t322 = T then ((Qag.f k).bind fun t323 => (some t323)) else (none))) else (none)) else (none)) else (none))))))) else (none)) = some r := by first | (rw [hy310]; with_reducible exact H) | (have H2_ := (Option.bind_some _ _).symm.trans H; rw [hy310]; with_reducible exact H2_) | (have H2_ := (Option.bind_some _ _).symm.trans H; with_reducible exact H2_) | with_reducible exact H | (rw [hy310]; exact H) | exact H
 have Ny310 := Aside0.mk hy310
 clear hy310
 by_cases c7 : y310.length + l0.length < 5864062014805
 ·rw [if_pos c7] at H
  have LMc7 := Aside0.mk c7
  clear c7
  obtain ⟨y313, hy313⟩ : ∃ y_ : List (S56), y_ = (y310 ++ l0) := ⟨_, rfl⟩
  replace H : ((QaC.f k y313 a1 a2).bind fun bt316 => ((QaB.f k l0 a1 a2).bind fun bt318 => ((Qal.f k y313).bind fun t320 => ((Qad.f k l0).bind fun t321 => (if t320 = t321 then (if bt316.1 = bt318.1 then (if bt316.2 = bt318.2 then ((Qae.f k y313 l0).bind fun t322 => (if t322 = T then ((Qag.f k).bind fun t323 => (some t323)) else (none))) else (none)) else (none)) else (none)))))) = some r := by first | (rw [hy313]; with_reducible exact H) | (have H2_ := (Option.bind_some _ _).symm.trans H; rw [hy313]; with_reducible exact H2_) | (have H2_ := (Option.bind_some _ _).symm.trans H; with_reducible exact H2_) | with_reducible exact H | (rw [hy313]; exact H) | exact H
  have Ny313 := Aside0.mk hy313
  clear hy313
  replace H := Option.bind_eq_some_iff.mp H
  obtain ⟨⟨t316, t317⟩, A80, H⟩ := H
  replace H : ((QaB.f k l0 a1 a2).bind fun bt318 => ((Qal.f k y313).bind fun t320 => ((Qad.f k l0).bind fun t321 => (if t320 = t321 then (if t316 = bt318.1 then (if t317 = bt318.2 then ((Qae.f k y313 l0).bind fun t322 => (if t322 = T then ((Qag.f k).bind fun t323 => (some t323)) else (none))) else (none)) else (none)) else (none))))) = some r := H
  have A8 := Aside0.mk A80
  clear A80
  replace H := Option.bind_eq_some_iff.mp H
  obtain ⟨⟨t318, t319⟩, A90, H⟩ := H
  replace H : ((Qal.f k y313).bind fun t320 => ((Qad.f k l0).bind fun t321 => (if t320 = t321 then (if t316 = t318 then (if t317 = t319 then ((Qae.f k y313 l0).bind fun t322 => (if t322 = T then ((Qag.f k).bind fun t323 => (some t323)) else (none))) else (none)) else (none)) else (none)))) = some r := H
  have A9 := Aside0.mk A90
  clear A90
  go_enter Try.func8, Try.ntmps8
  go_upto_region 6 with (first | ((with_reducible refine QaZ (N := 16) rfl ?_); refine Kd.R_lit k56 _ 56 ?hg (N := 16) ?hd (xs := ([] : List (S56))) (inner := []) (ok := fun _ => True) (okp := fun _ => True) ?hr ?hp (fun _ hk => hk) trivial (Below.refl _ _) (Nat.le_refl _) (by simp) ?_; (case hd => rfl); (case hg => rfl); (case hr => first | (go_simp; done) | (go_simp; rfl)); (case hp => exact (Reps.none _ _)); intro v311 w10 ho11 hb hg_ hnew_; clear hg_ hnew_; (first | rw [← Ny310.out] at ho11 | (simp only [Int.reduceToNat] at ho11; rw [← Ny310.out] at ho11)); have HO312 := Aside0.mk (Kd.R_lower ho11 (Qay (Zb))); replace HB := Aside0.mk (Qat (Zb) hb); clear hb ho11) | ((with_reducible refine Qa5 (b := .append) (xs := #[.tmp 16, .tmp 17]) rfl ?_); at_builtin; refine Kd.R_append_rows k56 (w0 := w) w.heap.size rfl (.tmp 16) (.tmp 17) 48 56 (.agg #[(.int .i64 0), (.int .i64 0), (.bool F)]) 24 rfl Try.underlying48 info56 rfl (by decide) (by omega) v311 y310 l0 _ _ _ (fun _ => True) (fun _ => False) rfl rfl ?aO ?aR (fun _ _ h => h) (fun _ h => h.elim) ?aF ?aB ?aS ?aL ?_; (case aR => exact Zv (Kd.C_below HR0.out HB.out)); (case aB => exact (Zb)); (case aF => exact (fun _ _ => trivial)); (case aO => exact (Zr HO312.out)); (case aS => exact (Qay (Zb))); (case aL => have := LMc7.out; omega); intro v314 w12 ho hb hg hat; rw [← Ny313.out] at ho; have HO315 := Aside0.mk (ho); replace HB := Aside0.mk (hb); clear HO312; clear ho hb hg hat; obtain ⟨Ao13, co13, eo13⟩ := Kd.R_slice HO315.out; subst eo13) | ((with_reducible refine QaD (f := 29) rfl ?_); refine goesL_ (some 23) rfl rfl Try.func29 (by kernel_rfl) rfl #[.slice Ao13 y313.length co13, .int .i64 a1, .int .i64 a2] rfl (Zl) ?_; (with_reducible refine (QaC.calls k _ _ y313 a1 a2 t316 t317 _ ?side1 ?side2 A8.out).mono ?_); (case side1 => exact Zv (Kd.R_reads' HO315.out).2.2); (case side2 => exact (Kd.R_reads' HO315.out).2.1); rintro e w14 ⟨rfl, hb⟩; refine ⟨_, rfl, ?_⟩; replace HO315 := Aside0.mk (Kd.R_below (Zr HO315.out) hb); replace HB := Aside0.mk (Qat (Zb) hb); (try clear hb); (try clear hb2); (try clear hk); (try clear hi)) | ((with_reducible refine QaD (f := 30) rfl ?_); refine goesL_ (some 30) rfl rfl Try.func30 (by kernel_rfl) rfl #[.slice A0 l0.length c0, .int .i64 a1, .int .i64 a2] rfl (Zl) ?_; (with_reducible refine (QaB.calls k _ _ l0 a1 a2 t318 t319 _ ?side1 ?side2 A9.out).mono ?_); (case side1 => exact Zv (Kd.C_below HR0.out HB.out)); (case side2 => exact HC0.out); rintro e w' ⟨rfl, ⟨nd, rfl⟩⟩; refine ⟨_, rfl, ?_⟩))
  (try simp only [Act.put, Zj, Zk, Zm])
  replace H := Option.bind_eq_some_iff.mp H
  obtain ⟨t320, A150, H⟩ := H
  replace H : ((Qad.f k l0).bind fun t321 => (if t320 = t321 then (if t316 = t318 then (if t317 = t319 then ((Qae.f k y313 l0).bind fun t322 => (if t322 = T then ((Qag.f k).bind fun t323 => (some t323)) else (none))) else (none)) else (none)) else (none))) = some r := H
  have A15 := Aside0.mk A150
  clear A150
  replace H := Option.bind_eq_some_iff.mp H
  obtain ⟨t321, A160, H⟩ := H
  replace H : (if t320 = t321 then (if t316 = t318 then (if t317 = t319 then ((Qae.f k y313 l0).bind fun t322 => (if t322 = T then ((Qag.f k).bind fun t323 => (some t323)) else (none))) else (none)) else (none)) else (none)) = some r := H
  have A16 := Aside0.mk A160
  clear A160
  by_cases c17 : t320 = t321
  ·rw [if_pos c17] at H
   have c17b0 : (t320 == t321) = T := beq_iff_eq.mpr c17
   have c17b1 : (t320 != t321) = F := bne_eq_false_iff_eq.mpr c17
   clear c17
   (try simp only [c17b0, c17b1])
   by_cases c18 : t316 = t318
   ·rw [if_pos c18] at H
    have c18b0 : (t316 == t318) = T := beq_iff_eq.mpr c18
    have c18b1 : (t316 != t318) = F := bne_eq_false_iff_eq.mpr c18
    clear c18
    by_cases c19 : t317 = t319
    ·rw [if_pos c19] at H
     have c19b0 : (t317 == t319) = T := beq_iff_eq.mpr c19
     have c19b1 : (t317 != t319) = F := bne_eq_false_iff_eq.mpr c19
     clear c19
     replace H := Option.bind_eq_some_iff.mp H
     obtain ⟨t322, A200, H⟩ := H
     replace H : (if t322 = T then ((Qag.f k).bind fun t323 => (some t323)) else (none)) = some r := H
     have A20 := Aside0.mk A200
     clear A200
     by_cases c21 : t322 = T
     ·subst c21
      have H1 : ((Qag.f k).bind fun t323 => (some t323)) = some r := by rw [if_pos rfl] at H; exact H
      clear H
      have H := H1
      clear H1
      replace H := Option.bind_eq_some_iff.mp H
      obtain ⟨t323, A220, H⟩ := H
      replace H : (some t323) = some r := H
      have A22 := Aside0.mk A220
      clear A220
      obtain rfl := Option.some.inj H
      go_wp2_with (first | ((with_reducible refine QaD (f := 31) rfl ?_); refine goesL_ (some 34) rfl rfl Try.func31 (by kernel_rfl) rfl #[.slice Ao13 y313.length co13] rfl (Zl) ?_; (with_reducible refine (Qal.calls k _ _ y313 t320 _ ?side1 ?side2 A15.out).mono ?_); (case side1 => exact Zv (Kd.R_reads' HO315.out).2.2); (case side2 => exact (Kd.R_reads' HO315.out).2.1); rintro e w23 ⟨rfl, hb⟩; refine ⟨_, rfl, ?_⟩; replace HO315 := Aside0.mk (Kd.R_below (Zr HO315.out) hb); replace HB := Aside0.mk (Qat (Zb) hb); (try clear hb); (try clear hb2); (try clear hk); (try clear hi)) | ((with_reducible refine QaD (f := 32) rfl ?_); refine goesL_ (some 36) rfl rfl Try.func32 (by kernel_rfl) rfl #[.slice A0 l0.length c0] rfl (Zl) ?_; (with_reducible refine (Qad.calls k _ _ l0 t321 _ ?side1 ?side2 A16.out).mono ?_); (case side1 => exact Zv (Kd.C_below HR0.out HB.out)); (case side2 => exact HC0.out); rintro e w' ⟨rfl, ⟨nd, rfl⟩⟩; refine ⟨_, rfl, ?_⟩) | (go_at_call 33; (with_reducible refine (Qae.calls k _ _ y313 _ _ l0 T _ ?side1 ?side2 ?side3 ?side4 A20.out).mono ?_); (case side1 => exact Zv (Kd.R_reads' HO315.out).2.2); (case side2 => exact (Kd.R_reads' HO315.out).2.1); (case side3 => exact Zv (Kd.C_below HR0.out (Zb))); (case side4 => exact HC0.out); rintro e w' ⟨rfl, ⟨nd, rfl⟩⟩) | (go_at_call 28; (with_reducible refine (Qag.calls k  t323 _ A22.out).mono ?_); rintro e w24 ⟨rfl, hb⟩; replace HO315 := Aside0.mk (Kd.R_below (Zr HO315.out) hb); replace HB := Aside0.mk (Qat (Zb) hb); (try clear hb); (try clear hb2); (try clear hk); (try clear hi)))
      go_ret
      exact ⟨Zq, Zb⟩
     replace c21 := Bool.eq_false_iff.mpr c21
     subst c21
     have H1 : (none) = some r := by rw [if_neg (show ¬ (F = T) by decide)] at H; exact H
     clear H
     have H := H1
     clear H1
     exact absurd H (by simp)
    rw [if_neg c19] at H
    exact absurd H (by simp)
   rw [if_neg c18] at H
   exact absurd H (by simp)
  rw [if_neg c17] at H
  exact absurd H (by simp)
 rw [if_neg c7] at H
 exact absurd H (by simp)
mutual
def Qaf.j0 : Nat → List (S56) → Int → Int → Int → Bool → Option ((List (S56)) × Int)
 | 0, _, _, _, _, _ => none
 | k + 1, x0, x1, x2, x3, x34 => if x34 = T then (some (([] : List (S56)), 2)) else (Qaf.l0 k x0 x1 x2 x3 (([] : List (S56))) 0)
def Qaf.l0 : Nat → List (S56) → Int → Int → Int → List (S56) → Int → Option ((List (S56)) × Int)
 | 0, _, _, _, _, _, _ => none
 | k + 1, x0, x1, x2, x3, x11, x12 => if x12 < (x0.length : Int) then (if 0 ≤ x12 then (if (rd_T56 x0 x12).f2 = T then (if x11.length < 5864062014805 then (Qaf.l0 k x0 x1 x2 x3 (x11 ++ [(⟨(rd_T56 x0 x12).f0, mn (mx (wrap64 (((rd_T56 x0 x12).f1) + x1)) x2) x3, (rd_T56 x0 x12).f2⟩ : S56)]) (wrap64 (x12 + 1))) else (none)) else (if x11.length < 5864062014805 then (Qaf.l0 k x0 x1 x2 x3 (x11 ++ [(⟨(rd_T56 x0 x12).f0, (rd_T56 x0 x12).f1, (rd_T56 x0 x12).f2⟩ : S56)]) (wrap64 (x12 + 1))) else (none))) else (none)) else (some (x11, 0))
end
def Qaf.f (k : Nat) (l0 : List (S56)) (a1 : Int) (a2 : Int) (a3 : Int) : Option ((List (S56)) × Int) := (Qad.f k l0).bind fun t401 => (if t401 = 0 then ((QaE.f a1).bind fun t402 => (if t402 = T then (if a2 > a3 then (Qaf.j0 k l0 a1 a2 a3 T) else ((QaE.f a2).bind fun t403 => (if t403 = T then ((QaE.f a3).bind fun t404 => (Qaf.j0 k l0 a1 a2 a3 (!t404))) else (Qaf.j0 k l0 a1 a2 a3 T)))) else (some (([] : List (S56)), 17)))) else (some (([] : List (S56)), t401)))
theorem Qaf.mono_l : ∀ k, (∀ y0 y1 y2 y3 y4, LeO (Qaf.j0 k y0 y1 y2 y3 y4) (Qaf.j0 (k + 1) y0 y1 y2 y3 y4)) ∧ (∀ y0 y1 y2 y3 y4 y5, LeO (Qaf.l0 k y0 y1 y2 y3 y4 y5) (Qaf.l0 (k + 1) y0 y1 y2 y3 y4 y5))
 | 0 => ⟨fun _ _ _ _ _ r h => by simp [Qaf.j0] at h, fun _ _ _ _ _ _ r h => by simp [Qaf.l0] at h⟩
 | k + 1 => by
  obtain ⟨ih0, ih1⟩ := Qaf.mono_l k
  refine ⟨?_, ?_⟩
  ·intro y0 y1 y2 y3 y4
   unfold Qaf.j0
   exact ZM3 ih0 ih1 Qad.mono
  intro y0 y1 y2 y3 y4 y5
  unfold Qaf.l0
  exact ZM3 ih0 ih1 Qad.mono
theorem Qaf.mono : ∀ a0 a1 a2 a3 k, LeO (Qaf.f k a0 a1 a2 a3) (Qaf.f (k + 1) a0 a1 a2 a3) := by
 intro a0 a1 a2 a3 k
 obtain ⟨ih0, ih1⟩ := Qaf.mono_l k
 unfold Qaf.f
 exact ZM3 ih0 ih1 Qad.mono
theorem Qaf.calls (k : Nat) (A0 : Option Addr) (c0 : Nat) (l0 : List (S56)) (a1 : Int) (a2 : Int) (a3 : Int) (r1 : List (S56)) (r2 : Int) (w : World) (hr0 : Kd.C k56 w A0 l0.length l0) (hc0 : l0.length ≤ c0) (h : Qaf.f k l0 a1 a2 a3 = some (r1, r2)) :
  Calls Try.prog 38 #[.slice A0 l0.length c0, .int .i64 a1, .int .i64 a2, .int .i64 a3] w fun e w' => ∃ v0_ : Value, e = .returned (.tuple #[v0_, .int .i64 r2]) ∧ Kd.R k56 56 w' w.heap.size (fun _ => True) v0_ r1 ∧ Below w.heap.size w w' := by
 have hu56 := Try.underlying56
 have HR0 := Aside0.mk hr0
 have HC0 := Aside0.mk hc0
 clear hr0 hc0
 have HB := Aside0.mk (Below.refl w.heap.size w)
 have H : ((Qad.f k l0).bind fun t401 => (if t401 = 0 then ((QaE.f a1).bind fun t402 => (if t402 = T then (if a2 > a3 then (Qaf.j0 k l0 a1 a2 a3 T) else ((QaE.f a2).bind fun t403 => (if t403 = T then ((QaE.f a3).bind fun t404 => (Qaf.j0 k l0 a1 a2 a3 (!t404))) else (Qaf.j0 k l0 a1 a2 a3 T)))) else (some (([] : List (S56)), 17)))) else (some (([] : List (S56)), t401)))) = some (r1, r2) := h
 clear h
 replace H := Option.bind_eq_some_iff.mp H
 obtain ⟨t401, A50, H⟩ := H
 replace H : (if t401 = 0 then ((QaE.f a1).bind fun t402 => (if t402 = T then (if a2 > a3 then (Qaf.j0 k l0 a1 a2 a3 T) else ((QaE.f a2).bind fun t403 => (if t403 = T then ((QaE.f a3).bind fun t404 => (Qaf.j0 k l0 a1 a2 a3 (!t404))) else (Qaf.j0 k l0 a1 a2 a3 T)))) else (some (([] : List (S56)), 17)))) else (some (([] : List (S56)), t401))) = some (r1, r2) := H
 have A5 := Aside0.mk A50
 clear A50
 go_enter Try.func38, Try.ntmps38
 go_upto_if 17 with (first | ((with_reducible refine QaD (f := 32) rfl ?_); refine goesL_ (some 15) rfl rfl Try.func32 (by kernel_rfl) rfl #[.slice A0 l0.length c0] rfl (Zl) ?_; (with_reducible refine (Qad.calls k _ _ l0 t401 _ ?side1 ?side2 A5.out).mono ?_); (case side1 => exact Zv HR0.out); (case side2 => exact HC0.out); rintro e w' ⟨rfl, ⟨nd, rfl⟩⟩; refine ⟨_, rfl, ?_⟩))
 (try simp only [Act.put, Zj, Zk, Zm])
 by_cases c6 : t401 = 0
 ·rw [if_pos c6] at H
  have c6b0 : (t401 == 0) = T := beq_iff_eq.mpr c6
  have c6b1 : (t401 != 0) = F := bne_eq_false_iff_eq.mpr c6
  clear c6
  (try simp only [c6b0, c6b1])
  replace H := Option.bind_eq_some_iff.mp H
  obtain ⟨t402, A70, H⟩ := H
  replace H : (if t402 = T then (if a2 > a3 then (Qaf.j0 k l0 a1 a2 a3 T) else ((QaE.f a2).bind fun t403 => (if t403 = T then ((QaE.f a3).bind fun t404 => (Qaf.j0 k l0 a1 a2 a3 (!t404))) else (Qaf.j0 k l0 a1 a2 a3 T)))) else (some (([] : List (S56)), 17))) = some (r1, r2) := H
  have A7 := Aside0.mk A70
  clear A70
  go_upto_if 21 with (first | ((with_reducible refine QaD (f := 62) rfl ?_); refine goesL_ (some 20) rfl rfl Try.func62 (by kernel_rfl) rfl #[.int .i64 a1] rfl (Zl) ?_; (with_reducible refine (QaE.calls a1 t402 _ A7.out).mono ?_); rintro e w' ⟨rfl, ⟨nd, rfl⟩⟩; refine ⟨_, rfl, ?_⟩))
  (try simp only [Act.put, Zj, Zk, Zm])
  by_cases c8 : t402 = T
  ·subst c8
   have H1 : (if a2 > a3 then (Qaf.j0 k l0 a1 a2 a3 T) else ((QaE.f a2).bind fun t403 => (if t403 = T then ((QaE.f a3).bind fun t404 => (Qaf.j0 k l0 a1 a2 a3 (!t404))) else (Qaf.j0 k l0 a1 a2 a3 T)))) = some (r1, r2) := by rw [if_pos rfl] at H; exact H
   clear H
   have H := H1
   clear H1
   have HC9 := Aside0.mk H
   clear H
   go_upto_region 6 with (fail)
   go_cut [34] (fun v34 wc => ∃ (kq : Nat) (x34_8 : Bool), v34 = .bool x34_8 ∧ Aside0 (Qaf.j0 kq l0 a1 a2 a3 x34_8 = some (r1, r2)) ∧ Aside0 (kq ≤ k) ∧ Aside0 (Below w.heap.size w wc))
   case first =>
    have H := HC9.out
    clear HC9
    by_cases c10 : a2 > a3
    ·rw [if_pos c10] at H
     have c10b0 : decide (a3 < a2) = T := decide_eq_true c10
     clear c10
     have H' := Aside0.mk H
     clear H
     go_wp2
     go_meet
     case rel => exact ⟨_, (T), (Zs), H', ⟨by first | omega | exact Nat.le_refl _⟩, ⟨Zb⟩⟩
    rw [if_neg c10] at H
    have c10b0 : decide (a3 < a2) = F := decide_eq_false c10
    clear c10
    replace H := Option.bind_eq_some_iff.mp H
    obtain ⟨t403, A110, H⟩ := H
    replace H : (if t403 = T then ((QaE.f a3).bind fun t404 => (Qaf.j0 k l0 a1 a2 a3 (!t404))) else (Qaf.j0 k l0 a1 a2 a3 T)) = some (r1, r2) := H
    have A11 := Aside0.mk A110
    clear A110
    by_cases c12 : t403 = T
    ·subst c12
     have H1 : ((QaE.f a3).bind fun t404 => (Qaf.j0 k l0 a1 a2 a3 (!t404))) = some (r1, r2) := by rw [if_pos rfl] at H; exact H
     clear H
     have H := H1
     clear H1
     replace H := Option.bind_eq_some_iff.mp H
     obtain ⟨t404, A130, H⟩ := H
     replace H : (Qaf.j0 k l0 a1 a2 a3 (!t404)) = some (r1, r2) := H
     have A13 := Aside0.mk A130
     clear A130
     have H' := Aside0.mk H
     clear H
     go_wp2_with (first | (go_at_call 62; (with_reducible refine (QaE.calls a2 T _ A11.out).mono ?_); rintro e w' ⟨rfl, ⟨nd, rfl⟩⟩) | (go_at_call 62; (with_reducible refine (QaE.calls a3 t404 _ A13.out).mono ?_); rintro e w' ⟨rfl, ⟨nd, rfl⟩⟩))
     go_meet
     case rel => exact ⟨_, (!t404), (Zs), H', ⟨by first | omega | exact Nat.le_refl _⟩, ⟨Zb⟩⟩
    replace c12 := Bool.eq_false_iff.mpr c12
    subst c12
    have H1 : (Qaf.j0 k l0 a1 a2 a3 T) = some (r1, r2) := by rw [if_neg (show ¬ (F = T) by decide)] at H; exact H
    clear H
    have H := H1
    clear H1
    have H' := Aside0.mk H
    clear H
    go_wp2_with (first | (go_at_call 62; (with_reducible refine (QaE.calls a2 F _ A11.out).mono ?_); rintro e w' ⟨rfl, ⟨nd, rfl⟩⟩))
    go_meet
    case rel => exact ⟨_, (T), (Zs), H', ⟨by first | omega | exact Nat.le_refl _⟩, ⟨Zb⟩⟩
   case rest =>
    clear HC9
    try clear c1
    try clear p2
    try clear c3
    try clear c6
    try clear c6b0
    try clear c6b1
    try clear c8
    try clear c10
    try clear c10b0
    try clear c12
    obtain ⟨kq, x34_8, rfl, HA, HJ8, HB⟩ := hcut
    cases kq with
    | zero => exact absurd HA.out (by simp [Qaf.j0])
    | succ kj8 =>
     have H := HA.out
     clear HA
     simp only [Qaf.j0] at H
     by_cases c14 : x34_8 = T
     ·subst c14
      have H1 : (some (([] : List (S56)), 2)) = some (r1, r2) := by rw [if_pos rfl] at H; exact H
      clear H
      have H := H1
      clear H1
      simp only [Option.some.injEq, Prod.mk.injEq] at H
      obtain ⟨rfl, rfl⟩ := H
      go_wp2
      go_ret2
      exact ⟨_, Zq, by first | exact Kd.R_nil _ _ _ _ _ | exact Kd.N_nil _ _ _ _ _ | exact Kd.V_nil _ _ _ _ _ | exact Kd.Q_nil _ _ _ _ _ | exact Kd.S_nil _ _ _ _ _, Zb⟩
     replace c14 := Bool.eq_false_iff.mpr c14
     subst c14
     have H1 : (Qaf.l0 kj8 l0 a1 a2 a3 (([] : List (S56))) 0) = some (r1, r2) := by rw [if_neg (show ¬ (F = T) by decide)] at H; exact H
     clear H
     have H := H1
     clear H1
     obtain ⟨y405, hy405⟩ : ∃ y_ : List (S56), y_ = (([] : List (S56))) := ⟨_, rfl⟩
     replace H : (Qaf.l0 kj8 l0 a1 a2 a3 y405 0) = some (r1, r2) := by first | (rw [hy405]; with_reducible exact H) | (have H2_ := (Option.bind_some _ _).symm.trans H; rw [hy405]; with_reducible exact H2_) | (have H2_ := (Option.bind_some _ _).symm.trans H; with_reducible exact H2_) | with_reducible exact H | (rw [hy405]; exact H) | exact H
     have Ny405 := Aside0.mk hy405
     clear hy405
     have H' := Aside0.mk H
     clear H
     go_wp2_with (first | ((with_reducible refine QaZ (N := 35) rfl ?_); refine Kd.R_lit k56 _ 56 ?hg (N := 35) ?hd (xs := ([] : List (S56))) (inner := []) (ok := fun _ => True) (okp := fun _ => True) ?hr ?hp (fun _ hk => hk) trivial (Below.refl _ _) (Nat.le_refl _) (by simp) ?_; (case hd => rfl); (case hg => rfl); (case hr => first | (go_simp; done) | (go_simp; rfl)); (case hp => exact (Reps.none _ _)); intro v406 w15 ho16 hb hg_ hnew_; clear hg_ hnew_; (first | rw [← Ny405.out] at ho16 | (simp only [Int.reduceToNat] at ho16; rw [← Ny405.out] at ho16)); have HO407 := Aside0.mk (Kd.R_lower ho16 (Qay (Zb))); replace HB := Aside0.mk (Qat (Zb) hb); clear hb ho16))
     go_loopg [11, 12] kj8 (fun kq v11 v12 w' => ∃ (x11_2 : List (S56)) (x12_2 : Int), v12 = .int .i64 x12_2 ∧ Aside0 (Qaf.l0 kq l0 a1 a2 a3 x11_2 x12_2 = some (r1, r2)) ∧ Aside0 (kq ≤ kj8) ∧ Aside0 (Kd.R k56 56 w' w.heap.size (fun _ => True) v11 x11_2) ∧ Aside0 (Below w.heap.size w w'))
     case atStart => exact ⟨(y405), (0), (Zs), H', ⟨Nat.le_refl _⟩, ⟨Zr HO407.out⟩, ⟨Zb⟩⟩
     case round =>
      clear H'
      try clear c1
      try clear p2
      try clear c3
      try clear c6
      try clear c6b0
      try clear c6b1
      try clear c8
      try clear c10
      try clear c10b0
      try clear c12
      try clear c14
      try clear p2
      obtain ⟨x11_2, x12_2, rfl, HA, HK2, HO_11, HB⟩ := hrel
      cases gk with
      | zero => exact absurd HA.out (by simp [Qaf.l0])
      | succ k2 =>
       have H := HA.out
       clear HA
       simp only [Qaf.l0] at H
       by_cases c17 : x12_2 < (l0.length : Int)
       ·rw [if_pos c17] at H
        have c17b0 : decide (x12_2 < (l0.length : Int)) = T := decide_eq_true c17
        clear c17
        (try simp only [c17b0])
        by_cases c18 : 0 ≤ x12_2
        ·rw [if_pos c18] at H
         have c18b0 : decide (0 ≤ x12_2) = T := decide_eq_true c18
         clear c18
         have p408 : 0 ≤ (x12_2 : Int) := Ze
         have q408 : x12_2 < (l0.length : Int) := Ze
         obtain ⟨ad408, e408, hx408_0, hx408_1, hx408_2⟩ := at_T56 HR0.out x12_2 p408 q408
         cases e408
         replace hx408_0 := Zx HB.out hx408_0
         replace hx408_1 := Zx HB.out hx408_1
         replace hx408_2 := Zx HB.out hx408_2
         replace p408 := eq_true p408
         replace q408 := eq_true q408
         go_upto_if 47 with (first | ((with_reducible refine QaZ (N := 13) rfl ?_); refine Zbx (N := 13) (cs := #[.int .i64 0, .int .i64 0, .bool F]) (t := 56) ?_; intro gb409 hg w19 hbox hb; have BK409 := Aside0.mk (hbox); have GW409 := Aside0.mk (Zt w hg (Zb)); have GE409 := GW409; replace HO_11 := Aside0.mk (Kd.R_below (Kd.R_elderB (Zr HO_11.out) gb409 (Nat.le_of_eq hg.symm)) hb); replace HB := Aside0.mk (Qat (Zb) hb); clear hb hbox hg; have hcz20_0 : w19.cell? ⟨gb409, 0, none⟩ = some (.int .i64 0) := (Qap BK409.out 0).trans (by first | rfl | (rw [← Nbq23.out]; rfl)); have hcz20_1 : w19.cell? ⟨gb409, 1, none⟩ = some (.int .i64 0) := (Qap BK409.out 1).trans (by first | rfl | (rw [← Nbq23.out]; rfl)); have hcz20_2 : w19.cell? ⟨gb409, 2, none⟩ = some (.bool F) := (Qap BK409.out 2).trans (by first | rfl | (rw [← Nbq23.out]; rfl)); have hfz20_0 := Qaj BK409.out 0; have hfz20_1 := Qaj BK409.out 1; have hfz20_2 := Qaj BK409.out 2) | ((with_reducible refine Qbs (t := 56) (p := 13) rfl ?_); refine Qbn (t := 56) (p := 13) (v := ?vo_w21) (w1 := (((w19.setCell ⟨gb409, 0, none⟩ (.int .i64 ((rd_T56 l0 x12_2).f0))).setCell ⟨gb409, 1, none⟩ (.int .i64 ((rd_T56 l0 x12_2).f1))).setCell ⟨gb409, 2, none⟩ (.bool ((rd_T56 l0 x12_2).f2)))) ?hg ?ho ?hn ?hr ?_; (case ho => rfl); (case hg => rfl); (case hn => rfl); (case hr => first | (exact Qbp (cs := #[.int .i64 0, .int .i64 0, .bool F]) (seg := [.int .i64 ((rd_T56 l0 x12_2).f0), .int .i64 ((rd_T56 l0 x12_2).f1), .bool ((rd_T56 l0 x12_2).f2)]) BK409.out rfl (by first | rfl | (go_simp; done)) (by first | rfl | (go_simp; done)) (by rfl) (by first | rfl | kernel_rfl) (by simp) (by first | rfl | simp [Value.oneCell'])) | (go_simp; done) | (go_simp; rfl)); intro w21 hw; replace HO_11 : Aside0 (Kd.R k56 56 w21 w.heap.size (fun k_ => k_ ≠ gb409) u11 x11_2) := ⟨(by rw [hw]; exact (by (with_reducible repeat (first | apply Kd.R_alloc | apply Kd.R_drewN | apply Kd.R_drew)); exact Kd.R_mono (Zf gb409 2 (Zf gb409 1 (Zf gb409 0 (Kd.R_mono HO_11.out (fun k_ hk => (⟨hk, hk.2⟩ : _ ∧ k_ ≠ gb409))) (.int .i64 ((rd_T56 l0 x12_2).f0))) (.int .i64 ((rd_T56 l0 x12_2).f1))) (.bool ((rd_T56 l0 x12_2).f2))) (fun _ hk => hk.1.2)))⟩; replace BK409 : Aside0 (w21.heap[gb409]? = some (.cells #[.int .i64 ((rd_T56 l0 x12_2).f0), .int .i64 ((rd_T56 l0 x12_2).f1), .bool ((rd_T56 l0 x12_2).f2)] 56 (0, 0))) := ⟨(by rw [hw]; exact (Zp2 BK409.out))⟩; replace HB : Aside0 (Below w.heap.size w w21) := ⟨(by rw [hw]; exact (Zc1 GE409.out))⟩; clear hw; have hcz22_0 : w21.cell? ⟨gb409, 0, none⟩ = some (.int .i64 ((rd_T56 l0 x12_2).f0)) := (Qap BK409.out 0).trans (by first | rfl | (rw [← Nbq23.out]; rfl)); have hcz22_1 : w21.cell? ⟨gb409, 1, none⟩ = some (.int .i64 ((rd_T56 l0 x12_2).f1)) := (Qap BK409.out 1).trans (by first | rfl | (rw [← Nbq23.out]; rfl)); have hcz22_2 : w21.cell? ⟨gb409, 2, none⟩ = some (.bool ((rd_T56 l0 x12_2).f2)) := (Qap BK409.out 2).trans (by first | rfl | (rw [← Nbq23.out]; rfl)); have hfz22_0 := Qaj BK409.out 0; have hfz22_1 := Qaj BK409.out 1; have hfz22_2 := Qaj BK409.out 2))
         (try simp only [Act.put, Zj, Zk, Zm])
         obtain ⟨bq23, hbq23⟩ : ∃ b_ : Bool, b_ = ((rd_T56 l0 x12_2).f2) := ⟨_, rfl⟩
         replace H : (if bq23 = T then (if x11_2.length < 5864062014805 then (Qaf.l0 k2 l0 a1 a2 a3 (x11_2 ++ [(⟨(rd_T56 l0 x12_2).f0, mn (mx (wrap64 (((rd_T56 l0 x12_2).f1) + a1)) a2) a3, bq23⟩ : S56)]) (wrap64 (x12_2 + 1))) else (none)) else (if x11_2.length < 5864062014805 then (Qaf.l0 k2 l0 a1 a2 a3 (x11_2 ++ [(⟨(rd_T56 l0 x12_2).f0, (rd_T56 l0 x12_2).f1, bq23⟩ : S56)]) (wrap64 (x12_2 + 1))) else (none))) = some (r1, r2) := by rw [← hbq23] at H; exact H
         have Nbq23 := Aside0.mk hbq23
         clear hbq23
         (try rw [← Nbq23.out])
         (try rw [← Nbq23.out] at hx408_0)
         (try rw [← Nbq23.out] at hx408_1)
         (try rw [← Nbq23.out] at hx408_2)
         (try rw [← Nbq23.out] at BK409)
         (try rw [← Nbq23.out] at hcz20_0)
         (try rw [← Nbq23.out] at hcz20_1)
         (try rw [← Nbq23.out] at hcz20_2)
         (try rw [← Nbq23.out] at hcz22_0)
         (try rw [← Nbq23.out] at hcz22_1)
         (try rw [← Nbq23.out] at hcz22_2)
         by_cases c24 : bq23 = T
         ·subst c24
          have H1 : (if x11_2.length < 5864062014805 then (Qaf.l0 k2 l0 a1 a2 a3 (x11_2 ++ [(⟨(rd_T56 l0 x12_2).f0, mn (mx (wrap64 (((rd_T56 l0 x12_2).f1) + a1)) a2) a3, T⟩ : S56)]) (wrap64 (x12_2 + 1))) else (none)) = some (r1, r2) := by rw [if_pos rfl] at H; exact H
          clear H
          have H := H1
          clear H1
          obtain ⟨ji25, hji25⟩ : ∃ j_ : Int, (mx (wrap64 (((rd_T56 l0 x12_2).f1) + a1)) a2) = j_ := ⟨_, rfl⟩
          replace H : (if x11_2.length < 5864062014805 then (Qaf.l0 k2 l0 a1 a2 a3 (x11_2 ++ [(⟨(rd_T56 l0 x12_2).f0, mn (ji25) a3, T⟩ : S56)]) (wrap64 (x12_2 + 1))) else (none)) = some (r1, r2) := by first | (rw [hji25] at H; exact H) | (simp only [hji25] at H ⊢; exact H)
          have hji25_ : (if (wrap64 (((rd_T56 l0 x12_2).f1) + a1)) < a2 then a2 else (wrap64 (((rd_T56 l0 x12_2).f1) + a1))) = ji25 := hji25
          obtain ⟨ji26, hji26⟩ : ∃ j_ : Int, (mn (ji25) a3) = j_ := ⟨_, rfl⟩
          replace H : (if x11_2.length < 5864062014805 then (Qaf.l0 k2 l0 a1 a2 a3 (x11_2 ++ [(⟨(rd_T56 l0 x12_2).f0, ji26, T⟩ : S56)]) (wrap64 (x12_2 + 1))) else (none)) = some (r1, r2) := by first | (rw [hji26] at H; exact H) | (simp only [hji26] at H ⊢; exact H)
          have hji26_ : (if a3 < (ji25) then a3 else (ji25)) = ji26 := hji26
          by_cases c27 : x11_2.length < 5864062014805
          ·rw [if_pos c27] at H
           have LMc27 := Aside0.mk c27
           clear c27
           obtain ⟨y410, hy410⟩ : ∃ y_ : List (S56), y_ = (x11_2 ++ [(⟨(rd_T56 l0 x12_2).f0, ji26, T⟩ : S56)]) := ⟨_, rfl⟩
           replace H : (Qaf.l0 k2 l0 a1 a2 a3 y410 (wrap64 (x12_2 + 1))) = some (r1, r2) := by first | (rw [hy410]; with_reducible exact H) | (have H2_ := (Option.bind_some _ _).symm.trans H; rw [hy410]; with_reducible exact H2_) | (have H2_ := (Option.bind_some _ _).symm.trans H; with_reducible exact H2_) | with_reducible exact H | (rw [hy410]; exact H) | exact H
           have Ny410 := Aside0.mk hy410
           clear hy410
           have H' := Aside0.mk H
           clear H
           have hcz28_0 : w21.cell? ⟨gb409, 0, none⟩ = some (.int .i64 ((rd_T56 l0 x12_2).f0)) := (Qap BK409.out 0).trans (by first | rfl | (rw [← Nbq23.out]; rfl))
           have hcz28_1 : w21.cell? ⟨gb409, 1, none⟩ = some (.int .i64 ((rd_T56 l0 x12_2).f1)) := (Qap BK409.out 1).trans (by first | rfl | (rw [← Nbq23.out]; rfl))
           have hcz28_2 : w21.cell? ⟨gb409, 2, none⟩ = some (.bool T) := (Qap BK409.out 2).trans (by first | rfl | (rw [← Nbq23.out]; rfl))
           have hfz28_0 := Qaj BK409.out 0
           have hfz28_1 := Qaj BK409.out 1
           have hfz28_2 := Qaj BK409.out 2
           go_wp2_with (first | ((with_reducible refine Qbs (t := 3) (p := 56) rfl ?_); refine Qbn (t := 3) (p := 56) (v := ?vo_w29) (w1 := (w21.setCell ⟨gb409, 1, none⟩ (.int .i64 ji26))) ?hg ?ho ?hn ?hr ?_; (case ho => rfl); (case hg => rfl); (case hn => rfl); (case hr => first | (exact Qbp (cs := #[.int .i64 ((rd_T56 l0 x12_2).f0), .int .i64 ((rd_T56 l0 x12_2).f1), .bool T]) (seg := [.int .i64 ji26]) BK409.out rfl (by first | rfl | (go_simp; done)) (by first | rfl | (go_simp; done)) (by rfl) (by first | rfl | kernel_rfl) (by simp) (by first | rfl | simp [Value.oneCell'])) | (go_simp; done) | (go_simp; rfl)); intro w29 hw; replace HO_11 : Aside0 (Kd.R k56 56 w29 w.heap.size (fun k_ => k_ ≠ gb409) u11 x11_2) := ⟨(by rw [hw]; exact (by (with_reducible repeat (first | apply Kd.R_alloc | apply Kd.R_drewN | apply Kd.R_drew)); exact Kd.R_mono (Zf gb409 1 (Kd.R_mono HO_11.out (fun k_ hk => (⟨hk, hk⟩ : _ ∧ k_ ≠ gb409))) (.int .i64 ji26)) (fun _ hk => hk.1)))⟩; replace BK409 : Aside0 (w29.heap[gb409]? = some (.cells #[.int .i64 ((rd_T56 l0 x12_2).f0), .int .i64 ji26, .bool T] 56 (0, 0))) := ⟨(by rw [hw]; exact (Zp2 BK409.out))⟩; replace HB : Aside0 (Below w.heap.size w w29) := ⟨(by rw [hw]; exact (Zc1 GE409.out))⟩; clear hw; have hcz30_0 : w29.cell? ⟨gb409, 0, none⟩ = some (.int .i64 ((rd_T56 l0 x12_2).f0)) := (Qap BK409.out 0).trans (by first | rfl | (rw [← Nbq23.out]; rfl)); have hcz30_1 : w29.cell? ⟨gb409, 1, none⟩ = some (.int .i64 ji26) := (Qap BK409.out 1).trans (by first | rfl | (rw [← Nbq23.out]; rfl)); have hcz30_2 : w29.cell? ⟨gb409, 2, none⟩ = some (.bool T) := (Qap BK409.out 2).trans (by first | rfl | (rw [← Nbq23.out]; rfl)); have hfz30_0 := Qaj BK409.out 0; have hfz30_1 := Qaj BK409.out 1; have hfz30_2 := Qaj BK409.out 2) | ((with_reducible refine Qa5 (b := .append) (xs := #[.tmp 57, .tmp 59]) rfl ?_); at_builtin; refine Kd.R_append k56 (w0 := w) w.heap.size rfl (.tmp 57) (.tmp 59) 48 56 (.agg #[(.int .i64 0), (.int .i64 0), (.bool F)]) 24 rfl Try.underlying48 info56 rfl (by decide) (by omega) u11 x11_2 (⟨(rd_T56 l0 x12_2).f0, ji26, T⟩ : S56) [.int .i64 ((rd_T56 l0 x12_2).f0), .int .i64 ji26, .bool T] (fun k_ => k_ ≠ gb409) (fun _ => False) rfl rfl ?aP (fun _ hk => hk.elim) ?aF ?aO ?aB ?aS ?aL ?_; (case aP => exact Qa9 _ _ _ (⟨(rd_T56 l0 x12_2).f0, ji26, T⟩ : S56)); (case aB => exact (Zc1 GE409.out)); (case aF => exact (fun k_ hk => Kd.freshB (g := gb409) (o := .cells #[.int .i64 ((rd_T56 l0 x12_2).f0), .int .i64 ji26, .bool T] 56 (0, 0)) (Zu BK409.out) k_ hk)); (case aO => exact (Zr HO_11.out)); (case aS => exact (Qay (Zc1 GE409.out))); (case aL => have := LMc27.out; omega); intro v411 w31 ho hb hg hat; (first | rw [← Ny410.out] at ho | rw [Nbq23.out, ← Ny410.out] at ho); have HO412 := Aside0.mk (ho); replace BK409 := Aside0.mk (Qbh (g := gb409) (o := .cells #[.int .i64 ((rd_T56 l0 x12_2).f0), .int .i64 ji26, .bool T] 56 (0, 0)) (Zu BK409.out) hg (Kd.R_away HO_11.out (fun _ hk => hk))); replace HB := Aside0.mk (hb); clear HO_11; clear ho hb hg hat))
           go_roundg k2
           case measure => have := HJ8.out; have := HK2.out; omega
           case rel => exact ⟨(y410), (wrap64 (x12_2 + 1)), (Zs), H', ⟨by have := HJ8.out; have := HK2.out; omega⟩, ⟨by (with_reducible repeat (first | apply Kd.R_alloc | apply Kd.R_drewN | apply Kd.R_drew)); exact Kd.R_mono HO412.out (fun _ hk => trivial)⟩, ⟨Zc1 GE409.out⟩⟩
          rw [if_neg c27] at H
          exact absurd H (by simp)
         replace c24 := Bool.eq_false_iff.mpr c24
         subst c24
         have H1 : (if x11_2.length < 5864062014805 then (Qaf.l0 k2 l0 a1 a2 a3 (x11_2 ++ [(⟨(rd_T56 l0 x12_2).f0, (rd_T56 l0 x12_2).f1, F⟩ : S56)]) (wrap64 (x12_2 + 1))) else (none)) = some (r1, r2) := by rw [if_neg (show ¬ (F = T) by decide)] at H; exact H
         clear H
         have H := H1
         clear H1
         by_cases c32 : x11_2.length < 5864062014805
         ·rw [if_pos c32] at H
          have LMc32 := Aside0.mk c32
          clear c32
          obtain ⟨y413, hy413⟩ : ∃ y_ : List (S56), y_ = (x11_2 ++ [(⟨(rd_T56 l0 x12_2).f0, (rd_T56 l0 x12_2).f1, F⟩ : S56)]) := ⟨_, rfl⟩
          replace H : (Qaf.l0 k2 l0 a1 a2 a3 y413 (wrap64 (x12_2 + 1))) = some (r1, r2) := by first | (rw [hy413]; with_reducible exact H) | (have H2_ := (Option.bind_some _ _).symm.trans H; rw [hy413]; with_reducible exact H2_) | (have H2_ := (Option.bind_some _ _).symm.trans H; with_reducible exact H2_) | with_reducible exact H | (rw [hy413]; exact H) | exact H
          have Ny413 := Aside0.mk hy413
          clear hy413
          have H' := Aside0.mk H
          clear H
          have hcz33_0 : w21.cell? ⟨gb409, 0, none⟩ = some (.int .i64 ((rd_T56 l0 x12_2).f0)) := (Qap BK409.out 0).trans (by first | rfl | (rw [← Nbq23.out]; rfl))
          have hcz33_1 : w21.cell? ⟨gb409, 1, none⟩ = some (.int .i64 ((rd_T56 l0 x12_2).f1)) := (Qap BK409.out 1).trans (by first | rfl | (rw [← Nbq23.out]; rfl))
          have hcz33_2 : w21.cell? ⟨gb409, 2, none⟩ = some (.bool F) := (Qap BK409.out 2).trans (by first | rfl | (rw [← Nbq23.out]; rfl))
          have hfz33_0 := Qaj BK409.out 0
          have hfz33_1 := Qaj BK409.out 1
          have hfz33_2 := Qaj BK409.out 2
          go_wp2_with (first | ((with_reducible refine Qa5 (b := .append) (xs := #[.tmp 57, .tmp 59]) rfl ?_); at_builtin; refine Kd.R_append k56 (w0 := w) w.heap.size rfl (.tmp 57) (.tmp 59) 48 56 (.agg #[(.int .i64 0), (.int .i64 0), (.bool F)]) 24 rfl Try.underlying48 info56 rfl (by decide) (by omega) u11 x11_2 (⟨(rd_T56 l0 x12_2).f0, (rd_T56 l0 x12_2).f1, F⟩ : S56) [.int .i64 ((rd_T56 l0 x12_2).f0), .int .i64 ((rd_T56 l0 x12_2).f1), .bool F] (fun k_ => k_ ≠ gb409) (fun _ => False) rfl rfl ?aP (fun _ hk => hk.elim) ?aF ?aO ?aB ?aS ?aL ?_; (case aP => exact Qa9 _ _ _ (⟨(rd_T56 l0 x12_2).f0, (rd_T56 l0 x12_2).f1, F⟩ : S56)); (case aB => exact (Zc1 GE409.out)); (case aF => exact (fun k_ hk => Kd.freshB (g := gb409) (o := .cells #[.int .i64 ((rd_T56 l0 x12_2).f0), .int .i64 ((rd_T56 l0 x12_2).f1), .bool F] 56 (0, 0)) (Zu BK409.out) k_ hk)); (case aO => exact (Zr HO_11.out)); (case aS => exact (Qay (Zc1 GE409.out))); (case aL => have := LMc32.out; omega); intro v414 w34 ho hb hg hat; (first | rw [← Ny413.out] at ho | rw [Nbq23.out, ← Ny413.out] at ho); have HO415 := Aside0.mk (ho); replace BK409 := Aside0.mk (Qbh (g := gb409) (o := .cells #[.int .i64 ((rd_T56 l0 x12_2).f0), .int .i64 ((rd_T56 l0 x12_2).f1), .bool F] 56 (0, 0)) (Zu BK409.out) hg (Kd.R_away HO_11.out (fun _ hk => hk))); replace HB := Aside0.mk (hb); clear HO_11; clear ho hb hg hat))
          go_roundg k2
          case measure => have := HJ8.out; have := HK2.out; omega
          case rel => exact ⟨(y413), (wrap64 (x12_2 + 1)), (Zs), H', ⟨by have := HJ8.out; have := HK2.out; omega⟩, ⟨by (with_reducible repeat (first | apply Kd.R_alloc | apply Kd.R_drewN | apply Kd.R_drew)); exact Kd.R_mono HO415.out (fun _ hk => trivial)⟩, ⟨Zc1 GE409.out⟩⟩
         rw [if_neg c32] at H
         exact absurd H (by simp)
        rw [if_neg c18] at H
        exact absurd H (by simp)
       rw [if_neg c17] at H
       have c17b0 : decide (x12_2 < (l0.length : Int)) = F := decide_eq_false c17
       clear c17
       (try simp only [c17b0])
       simp only [Option.some.injEq, Prod.mk.injEq] at H
       obtain ⟨rfl, rfl⟩ := H
       go_wp2
       go_ret2
       exact ⟨_, Zq, Zr HO_11.out, Zb⟩
  replace c8 := Bool.eq_false_iff.mpr c8
  subst c8
  have H1 : (some (([] : List (S56)), 17)) = some (r1, r2) := by rw [if_neg (show ¬ (F = T) by decide)] at H; exact H
  clear H
  have H := H1
  clear H1
  simp only [Option.some.injEq, Prod.mk.injEq] at H
  obtain ⟨rfl, rfl⟩ := H
  go_wp2
  go_ret2
  exact ⟨_, Zq, by first | exact Kd.R_nil _ _ _ _ _ | exact Kd.N_nil _ _ _ _ _ | exact Kd.V_nil _ _ _ _ _ | exact Kd.Q_nil _ _ _ _ _ | exact Kd.S_nil _ _ _ _ _, Zb⟩
 rw [if_neg c6] at H
 have c6b0 : (t401 == 0) = F := beq_eq_false_iff_ne.mpr c6
 have c6b1 : (t401 != 0) = T := bne_iff_ne.mpr c6
 (try simp only [c6b0, c6b1])
 simp only [Option.some.injEq, Prod.mk.injEq] at H
 obtain ⟨rfl, rfl⟩ := H
 go_wp2
 go_ret2
 exact ⟨_, Zq, by first | exact Kd.R_nil _ _ _ _ _ | exact Kd.N_nil _ _ _ _ _ | exact Kd.V_nil _ _ _ _ _ | exact Kd.Q_nil _ _ _ _ _ | exact Kd.S_nil _ _ _ _ _, Zb⟩
def contangolaw19_CurveFills.j0 : Nat → List (S56) → List (S56) → List (S56) → List (S56) → Bool → Option (Bool)
 | 0, _, _, _, _, _ => none
 | k + 1, x0, x7, x8, x12, x76 => if x76 = T then (none) else ((Qas.f k x8).bind fun t443 => ((Qas.f k x12).bind fun t444 => ((Qae.f k x7 x0).bind fun t445 => (if t445 = T then ((Qag.f k).bind fun t446 => (some t446)) else (none)))))
def contangolaw19_CurveFills.f (k : Nat) (l0 : List (S56)) (a1 : Int) (a2_0 : Int) (a2_1 : Int) (a2_2 : Int) : Option (Bool) := if (l0.length : Int) > 300 then ((Qag.f k).bind fun t418 => (some t418)) else ((some (([] : List (S56)) : List (S56))).bind fun y419 => (if y419.length + l0.length < 5864062014805 then ((some (y419 ++ l0 : List (S56))).bind fun y422 => ((Qau.f k y422 a1).bind fun bt425 => ((Qah.f k l0 a1).bind fun bt429 => ((Qan.f k y422 a2_0 a2_1 a2_2).bind fun bt433 => ((Qaf.f k l0 a2_0 a2_1 a2_2).bind fun bt437 => ((Qae.f k bt425.1 bt429.1).bind fun t441 => (if t441 = T then (if bt425.2 = bt429.2 then ((Qae.f k bt433.1 bt437.1).bind fun t442 => (if t442 = T then (contangolaw19_CurveFills.j0 k l0 y422 bt425.1 bt433.1 (bt433.2 != bt437.2)) else (contangolaw19_CurveFills.j0 k l0 y422 bt425.1 bt433.1 T))) else (contangolaw19_CurveFills.j0 k l0 y422 bt425.1 bt433.1 T)) else (contangolaw19_CurveFills.j0 k l0 y422 bt425.1 bt433.1 T)))))))) else (none)))
theorem contangolaw19_CurveFills.mono_l : ∀ k, (∀ y0 y1 y2 y3 y4, LeO (contangolaw19_CurveFills.j0 k y0 y1 y2 y3 y4) (contangolaw19_CurveFills.j0 (k + 1) y0 y1 y2 y3 y4))
 | 0 => fun _ _ _ _ _ r h => by simp [contangolaw19_CurveFills.j0] at h
 | k + 1 => by
  have ih0 := contangolaw19_CurveFills.mono_l k
  intro y0 y1 y2 y3 y4
  unfold contangolaw19_CurveFills.j0
  exact ZM8 ih0 Qag.mono Qas.mono Qah.mono Qae.mono Qaf.mono Qau.mono Qan.mono
theorem contangolaw19_CurveFills.mono : ∀ a0 a1 a2 a3 a4 k, LeO (contangolaw19_CurveFills.f k a0 a1 a2 a3 a4) (contangolaw19_CurveFills.f (k + 1) a0 a1 a2 a3 a4) := by
 intro a0 a1 a2 a3 a4 k
 have ih0 := contangolaw19_CurveFills.mono_l k
 unfold contangolaw19_CurveFills.f
 exact ZM8 ih0 Qag.mono Qas.mono Qah.mono Qae.mono Qaf.mono Qau.mono Qan.mono
theorem contangolaw19_CurveFills.calls (k : Nat) (A0 : Option Addr) (c0 : Nat) (l0 : List (S56)) (a1 : Int) (a2_0 : Int) (a2_1 : Int) (a2_2 : Int) (r : Bool) (w : World) (hr0 : Kd.C k56 w A0 l0.length l0) (hc0 : l0.length ≤ c0) (h : contangolaw19_CurveFills.f k l0 a1 a2_0 a2_1 a2_2 = some r) :
  Calls Try.prog 11 #[.slice A0 l0.length c0, .int .i64 a1, .agg #[.int .i64 a2_0, .int .i64 a2_1, .int .i64 a2_2]] w fun e w' => e = .returned (.bool r) ∧ Below w.heap.size w w' := by
 have hu63 := Try.underlying63
 have HR0 := Aside0.mk hr0
 have HC0 := Aside0.mk hc0
 clear hr0 hc0
 have HB := Aside0.mk (Below.refl w.heap.size w)
 have H : (if (l0.length : Int) > 300 then ((Qag.f k).bind fun t418 => (some t418)) else ((some (([] : List (S56)) : List (S56))).bind fun y419 => (if y419.length + l0.length < 5864062014805 then ((some (y419 ++ l0 : List (S56))).bind fun y422 => ((Qau.f k y422 a1).bind fun bt425 => ((Qah.f k l0 a1).bind fun bt429 => ((Qan.f k y422 a2_0 a2_1 a2_2).bind fun bt433 => ((Qaf.f k l0 a2_0 a2_1 a2_2).bind fun bt437 => ((Qae.f k bt425.1 bt429.1).bind fun t441 => (if t441 = T then (if bt425.2 = bt429.2 then ((Qae.f k bt433.1 bt437.1).bind fun t442 => (if t442 = T then (contangolaw19_CurveFills.j0 k l0 y422 bt425.1 bt433.1 (bt433.2 != bt437.2)) else (contangolaw19_CurveFills.j0 k l0 y422 bt425.1 bt433.1 T))) else (contangolaw19_CurveFills.j0 k l0 y422 bt425.1 bt433.1 T)) else (contangolaw19_CurveFills.j0 k l0 y422 bt425.1 bt433.1 T)))))))) else (none)))) = some r := h
 clear h
 go_enter Try.func11, Try.ntmps11
 go_upto_if 18 with (first | ((with_reducible refine QaZ (N := 5) rfl ?_); refine Zbx (N := 5) (cs := #[.int .i64 a2_0, .int .i64 a2_1, .int .i64 a2_2]) (t := 63) ?_; intro gb417 hg w4 hbox hb; have BK417 := Aside0.mk (hbox); have GW417 := Aside0.mk (Zt w hg (Zb)); have GE417 := GW417; replace HB := Aside0.mk (Qat (Zb) hb); clear hb hbox hg))
 (try simp only [Act.put, Zj, Zk, Zm])
 by_cases c5 : (l0.length : Int) > 300
 ·rw [if_pos c5] at H
  have c5b0 : decide (300 < (l0.length : Int)) = T := decide_eq_true c5
  have c5b1 : decide (300 < l0.length) = T := decide_eq_true (by omega)
  clear c5
  (try simp only [c5b0, c5b1])
  replace H := Option.bind_eq_some_iff.mp H
  obtain ⟨t418, A60, H⟩ := H
  replace H : (some t418) = some r := H
  have A6 := Aside0.mk A60
  clear A60
  obtain rfl := Option.some.inj H
  go_wp2_with (first | ((with_reducible refine QaD (f := 28) rfl ?_); refine goesL_ (some 19) rfl rfl Try.func28 (by kernel_rfl) rfl #[] rfl (Zl) ?_; (with_reducible refine (Qag.calls k  t418 _ A6.out).mono ?_); rintro e w7 ⟨rfl, hb⟩; refine ⟨_, rfl, ?_⟩; replace BK417 := Aside0.mk (Zi BK417.out hb); replace HB := Aside0.mk (Qat (Zc1 GE417.out) hb); (try clear hb); (try clear hb2); (try clear hk); (try clear hi)))
  go_ret
  exact ⟨Zq, Zc1 GE417.out⟩
 rw [if_neg c5] at H
 have c5b0 : decide (300 < (l0.length : Int)) = F := decide_eq_false c5
 have c5b1 : decide (300 < l0.length) = F := decide_eq_false (by omega)
 clear c5
 (try simp only [c5b0, c5b1])
 obtain ⟨y419, hy419⟩ : ∃ y_ : List (S56), y_ = (([] : List (S56))) := ⟨_, rfl⟩
 replace H : (if y419.length + l0.length < 5864062014805 then ((some (y419 ++ l0 : List (S56))).bind fun y422 => ((Qau.f k y422 a1).bind fun bt425 => ((Qah.f k l0 a1).bind fun bt429 => ((Qan.f k y422 a2_0 a2_1 a2_2).bind fun bt433 => ((Qaf.f k l0 a2_0 a2_1 a2_2).bind fun bt437 => ((Qae.f k bt425.1 bt429.1).bind fun t441 => (if t441 = T then (if bt425.2 = bt429.2 then ((Qae.f k bt433.1 bt437.1).bind fun t442 => (if t442 = T then (contangolaw19_CurveFills.j0 k l0 y422 bt425.1 bt433.1 (bt433.2 != bt437.2)) else (contangolaw19_CurveFills.j0 k l0 y422 bt425.1 bt433.1 T))) else (contangolaw19_CurveFills.j0 k l0 y422 bt425.1 bt433.1 T)) else (contangolaw19_CurveFills.j0 k l0 y422 bt425.1 bt433.1 T)))))))) else (none)) = some r := by first | (rw [hy419]; with_reducible exact H) | (have H2_ := (Option.bind_some _ _).symm.trans H; rw [hy419]; with_reducible exact H2_) | (have H2_ := (Option.bind_some _ _).symm.trans H; with_reducible exact H2_) | with_reducible exact H | (rw [hy419]; exact H) | exact H
 have Ny419 := Aside0.mk hy419
 clear hy419
 by_cases c8 : y419.length + l0.length < 5864062014805
 ·rw [if_pos c8] at H
  have LMc8 := Aside0.mk c8
  clear c8
  obtain ⟨y422, hy422⟩ : ∃ y_ : List (S56), y_ = (y419 ++ l0) := ⟨_, rfl⟩
  replace H : ((Qau.f k y422 a1).bind fun bt425 => ((Qah.f k l0 a1).bind fun bt429 => ((Qan.f k y422 a2_0 a2_1 a2_2).bind fun bt433 => ((Qaf.f k l0 a2_0 a2_1 a2_2).bind fun bt437 => ((Qae.f k bt425.1 bt429.1).bind fun t441 => (if t441 = T then (if bt425.2 = bt429.2 then ((Qae.f k bt433.1 bt437.1).bind fun t442 => (if t442 = T then (contangolaw19_CurveFills.j0 k l0 y422 bt425.1 bt433.1 (bt433.2 != bt437.2)) else (contangolaw19_CurveFills.j0 k l0 y422 bt425.1 bt433.1 T))) else (contangolaw19_CurveFills.j0 k l0 y422 bt425.1 bt433.1 T)) else (contangolaw19_CurveFills.j0 k l0 y422 bt425.1 bt433.1 T))))))) = some r := by first | (rw [hy422]; with_reducible exact H) | (have H2_ := (Option.bind_some _ _).symm.trans H; rw [hy422]; with_reducible exact H2_) | (have H2_ := (Option.bind_some _ _).symm.trans H; with_reducible exact H2_) | with_reducible exact H | (rw [hy422]; exact H) | exact H
  have Ny422 := Aside0.mk hy422
  clear hy422
  replace H := Option.bind_eq_some_iff.mp H
  obtain ⟨⟨t425, t426⟩, A90, H⟩ := H
  replace H : ((Qah.f k l0 a1).bind fun bt429 => ((Qan.f k y422 a2_0 a2_1 a2_2).bind fun bt433 => ((Qaf.f k l0 a2_0 a2_1 a2_2).bind fun bt437 => ((Qae.f k t425 bt429.1).bind fun t441 => (if t441 = T then (if t426 = bt429.2 then ((Qae.f k bt433.1 bt437.1).bind fun t442 => (if t442 = T then (contangolaw19_CurveFills.j0 k l0 y422 t425 bt433.1 (bt433.2 != bt437.2)) else (contangolaw19_CurveFills.j0 k l0 y422 t425 bt433.1 T))) else (contangolaw19_CurveFills.j0 k l0 y422 t425 bt433.1 T)) else (contangolaw19_CurveFills.j0 k l0 y422 t425 bt433.1 T)))))) = some r := H
  have A9 := Aside0.mk A90
  clear A90
  replace H := Option.bind_eq_some_iff.mp H
  obtain ⟨⟨t429, t430⟩, A100, H⟩ := H
  replace H : ((Qan.f k y422 a2_0 a2_1 a2_2).bind fun bt433 => ((Qaf.f k l0 a2_0 a2_1 a2_2).bind fun bt437 => ((Qae.f k t425 t429).bind fun t441 => (if t441 = T then (if t426 = t430 then ((Qae.f k bt433.1 bt437.1).bind fun t442 => (if t442 = T then (contangolaw19_CurveFills.j0 k l0 y422 t425 bt433.1 (bt433.2 != bt437.2)) else (contangolaw19_CurveFills.j0 k l0 y422 t425 bt433.1 T))) else (contangolaw19_CurveFills.j0 k l0 y422 t425 bt433.1 T)) else (contangolaw19_CurveFills.j0 k l0 y422 t425 bt433.1 T))))) = some r := H
  have A10 := Aside0.mk A100
  clear A100
  replace H := Option.bind_eq_some_iff.mp H
  obtain ⟨⟨t433, t434⟩, A110, H⟩ := H
  replace H : ((Qaf.f k l0 a2_0 a2_1 a2_2).bind fun bt437 => ((Qae.f k t425 t429).bind fun t441 => (if t441 = T then (if t426 = t430 then ((Qae.f k t433 bt437.1).bind fun t442 => (if t442 = T then (contangolaw19_CurveFills.j0 k l0 y422 t425 t433 (t434 != bt437.2)) else (contangolaw19_CurveFills.j0 k l0 y422 t425 t433 T))) else (contangolaw19_CurveFills.j0 k l0 y422 t425 t433 T)) else (contangolaw19_CurveFills.j0 k l0 y422 t425 t433 T)))) = some r := H
  have A11 := Aside0.mk A110
  clear A110
  replace H := Option.bind_eq_some_iff.mp H
  obtain ⟨⟨t437, t438⟩, A120, H⟩ := H
  replace H : ((Qae.f k t425 t429).bind fun t441 => (if t441 = T then (if t426 = t430 then ((Qae.f k t433 t437).bind fun t442 => (if t442 = T then (contangolaw19_CurveFills.j0 k l0 y422 t425 t433 (t434 != t438)) else (contangolaw19_CurveFills.j0 k l0 y422 t425 t433 T))) else (contangolaw19_CurveFills.j0 k l0 y422 t425 t433 T)) else (contangolaw19_CurveFills.j0 k l0 y422 t425 t433 T))) = some r := H
  have A12 := Aside0.mk A120
  clear A120
  have HC13 := Aside0.mk H
  clear H
  go_upto_region 8 with (first | ((with_reducible refine QaZ (N := 20) rfl ?_); refine Kd.R_lit k56 _ 56 ?hg (N := 20) ?hd (xs := ([] : List (S56))) (inner := []) (ok := fun _ => True) (okp := fun _ => True) ?hr ?hp (fun _ hk => hk) trivial (Below.refl _ _) (Nat.le_refl _) (by simp) ?_; (case hd => rfl); (case hg => rfl); (case hr => first | (go_simp; done) | (go_simp; rfl)); (case hp => exact (Reps.none _ _)); intro v420 w14 ho15 hb hg_ hnew_; clear hg_ hnew_; (first | rw [← Ny419.out] at ho15 | (simp only [Int.reduceToNat] at ho15; rw [← Ny419.out] at ho15)); have HO421 := Aside0.mk (Kd.R_lower ho15 (Qay (Zc1 GE417.out))); replace BK417 := Aside0.mk (Zi BK417.out hb); replace HB := Aside0.mk (Qat (Zc1 GE417.out) hb); clear hb ho15) | ((with_reducible refine Qa5 (b := .append) (xs := #[.tmp 20, .tmp 21]) rfl ?_); at_builtin; refine Kd.R_append_rows k56 (w0 := w) w.heap.size rfl (.tmp 20) (.tmp 21) 48 56 (.agg #[(.int .i64 0), (.int .i64 0), (.bool F)]) 24 rfl Try.underlying48 info56 rfl (by decide) (by omega) v420 y419 l0 _ _ _ (fun _ => True) (fun _ => False) rfl rfl ?aO ?aR (fun _ _ h => h) (fun _ h => h.elim) ?aF ?aB ?aS ?aL ?_; (case aR => exact Zv (Kd.C_below HR0.out HB.out)); (case aB => exact (Zc1 GE417.out)); (case aF => exact (fun _ _ => trivial)); (case aO => exact (Zr HO421.out)); (case aS => exact (Qay (Zc1 GE417.out))); (case aL => have := LMc8.out; omega); intro v423 w16 ho hb hg hat; rw [← Ny422.out] at ho; have HO424 := Aside0.mk (ho); replace BK417 := Aside0.mk (Qbh (g := gb417) (o := .cells #[.int .i64 a2_0, .int .i64 a2_1, .int .i64 a2_2] 63 (0, 0)) (Zu BK417.out) hg (Kd.R_ne HO421.out BK417.out (by decide))); replace HB := Aside0.mk (hb); clear HO421; clear ho hb hg hat; obtain ⟨Ao17, co17, eo17⟩ := Kd.R_slice HO424.out; subst eo17) | ((with_reducible refine QaD (f := 35) rfl ?_); refine goesL_ (some 26) rfl rfl Try.func35 (by kernel_rfl) rfl #[.slice Ao17 y422.length co17, .int .i64 a1] rfl (Zl) ?_; (with_reducible refine (Qau.calls k _ _ y422 a1 t425 t426 _ ?side1 ?side2 A9.out).mono ?_); (case side1 => exact Zv (Kd.R_reads' HO424.out).2.2); (case side2 => exact (Kd.R_reads' HO424.out).2.1); rintro e w18 ⟨v427, rfl, ho0, hb⟩; refine ⟨_, rfl, ?_⟩; have HO428 := Aside0.mk (Kd.R_lower (Kd.R_new' ho0 (Kd.R_lt (Zr HO424.out))) (Qay (Zc1 GE417.out))); replace HO424 := Aside0.mk (Kd.R_elder' (Zr HO424.out) (Kd.R_base ho0) hb); replace BK417 := Aside0.mk (Zi BK417.out hb); replace HB := Aside0.mk (Qat (Zc1 GE417.out) hb); (try clear hb); (try clear hb2); (try clear hk); (try clear hi); (try clear ho0)) | ((with_reducible refine QaD (f := 36) rfl ?_); refine goesL_ (some 32) rfl rfl Try.func36 (by kernel_rfl) rfl #[.slice A0 l0.length c0, .int .i64 a1] rfl (Zl) ?_; (with_reducible refine (Qah.calls k _ _ l0 a1 t429 t430 _ ?side1 ?side2 A10.out).mono ?_); (case side1 => exact Zv (Kd.C_below HR0.out HB.out)); (case side2 => exact HC0.out); rintro e w19 ⟨v431, rfl, ho0, hb⟩; refine ⟨_, rfl, ?_⟩; have HO432 := Aside0.mk (Kd.R_lower (Kd.R_new' (Kd.R_new' ho0 (Kd.R_lt (Zr HO424.out))) (Kd.R_lt (Zr HO428.out))) (Qay (Zc1 GE417.out))); replace HO424 := Aside0.mk (Kd.R_elder' (Zr HO424.out) (Kd.R_base ho0) hb); replace HO428 := Aside0.mk (Kd.R_elder' (Zr HO428.out) (Kd.R_base ho0) hb); replace BK417 := Aside0.mk (Zi BK417.out hb); replace HB := Aside0.mk (Qat (Zc1 GE417.out) hb); (try clear hb); (try clear hb2); (try clear hk); (try clear hi); (try clear ho0); obtain ⟨hcz20_0, hfz20_0⟩ := Zy (v := (.int .i64 a2_0)) BK417.out 0; obtain ⟨hcz20_1, hfz20_1⟩ := Zy (v := (.int .i64 a2_1)) BK417.out 1; obtain ⟨hcz20_2, hfz20_2⟩ := Zy (v := (.int .i64 a2_2)) BK417.out 2) | ((with_reducible refine QaD (f := 37) rfl ?_); refine goesL_ (some 43) rfl rfl Try.func37 (by kernel_rfl) rfl #[.slice Ao17 y422.length co17, .int .i64 a2_0, .int .i64 a2_1, .int .i64 a2_2] rfl (Zl) ?_; (with_reducible refine (Qan.calls k _ _ y422 a2_0 a2_1 a2_2 t433 t434 _ ?side1 ?side2 A11.out).mono ?_); (case side1 => exact Zv (Kd.R_reads' HO424.out).2.2); (case side2 => exact (Kd.R_reads' HO424.out).2.1); rintro e w21 ⟨v435, rfl, ho0, hb⟩; refine ⟨_, rfl, ?_⟩; have HO436 := Aside0.mk (Kd.R_lower (Kd.R_new' (Kd.R_new' (Kd.R_new' ho0 (Kd.R_lt (Zr HO424.out))) (Kd.R_lt (Zr HO428.out))) (Kd.R_lt (Zr HO432.out))) (Qay (Zc1 GE417.out))); replace HO424 := Aside0.mk (Kd.R_elder' (Zr HO424.out) (Kd.R_base ho0) hb); replace HO428 := Aside0.mk (Kd.R_elder' (Zr HO428.out) (Kd.R_base ho0) hb); replace HO432 := Aside0.mk (Kd.R_elder' (Zr HO432.out) (Kd.R_base ho0) hb); replace BK417 := Aside0.mk (Zi BK417.out hb); replace HB := Aside0.mk (Qat (Zc1 GE417.out) hb); (try clear hb); (try clear hb2); (try clear hk); (try clear hi); (try clear ho0); obtain ⟨hcz22_0, hfz22_0⟩ := Zy (v := (.int .i64 a2_0)) BK417.out 0; obtain ⟨hcz22_1, hfz22_1⟩ := Zy (v := (.int .i64 a2_1)) BK417.out 1; obtain ⟨hcz22_2, hfz22_2⟩ := Zy (v := (.int .i64 a2_2)) BK417.out 2) | ((with_reducible refine QaD (f := 38) rfl ?_); refine goesL_ (some 54) rfl rfl Try.func38 (by kernel_rfl) rfl #[.slice A0 l0.length c0, .int .i64 a2_0, .int .i64 a2_1, .int .i64 a2_2] rfl (Zl) ?_; (with_reducible refine (Qaf.calls k _ _ l0 a2_0 a2_1 a2_2 t437 t438 _ ?side1 ?side2 A12.out).mono ?_); (case side1 => exact Zv (Kd.C_below HR0.out HB.out)); (case side2 => exact HC0.out); rintro e w23 ⟨v439, rfl, ho0, hb⟩; refine ⟨_, rfl, ?_⟩; have HO440 := Aside0.mk (Kd.R_lower (Kd.R_new' (Kd.R_new' (Kd.R_new' (Kd.R_new' ho0 (Kd.R_lt (Zr HO424.out))) (Kd.R_lt (Zr HO428.out))) (Kd.R_lt (Zr HO432.out))) (Kd.R_lt (Zr HO436.out))) (Qay (Zc1 GE417.out))); replace HO424 := Aside0.mk (Kd.R_elder' (Zr HO424.out) (Kd.R_base ho0) hb); replace HO428 := Aside0.mk (Kd.R_elder' (Zr HO428.out) (Kd.R_base ho0) hb); replace HO432 := Aside0.mk (Kd.R_elder' (Zr HO432.out) (Kd.R_base ho0) hb); replace HO436 := Aside0.mk (Kd.R_elder' (Zr HO436.out) (Kd.R_base ho0) hb); replace BK417 := Aside0.mk (Zi BK417.out hb); replace HB := Aside0.mk (Qat (Zc1 GE417.out) hb); (try clear hb); (try clear hb2); (try clear hk); (try clear hi); (try clear ho0)))
  (try simp only [Act.put, Zj, Zk, Zm])
  go_cut [76] (fun v76 wc => ∃ (kq : Nat) (x76_12 : Bool), v76 = .bool x76_12 ∧ Aside0 (contangolaw19_CurveFills.j0 kq l0 y422 t425 t433 x76_12 = some r) ∧ Aside0 (kq ≤ k) ∧ Aside0 (Kd.R k56 56 wc w.heap.size (fun k_ => some k_ ≠ (v427 : Value).ownBlock ∧ some k_ ≠ (v435 : Value).ownBlock) (.slice Ao17 y422.length co17) y422) ∧ Aside0 (Kd.R k56 56 wc w.heap.size (fun k_ => some k_ ≠ ((.slice Ao17 y422.length co17) : Value).ownBlock ∧ some k_ ≠ (v435 : Value).ownBlock) v427 t425) ∧ Aside0 (Kd.R k56 56 wc w.heap.size (fun k_ => some k_ ≠ ((.slice Ao17 y422.length co17) : Value).ownBlock ∧ some k_ ≠ (v427 : Value).ownBlock) v435 t433) ∧ Aside0 (wc.heap[gb417]? = some (.cells #[.int .i64 a2_0, .int .i64 a2_1, .int .i64 a2_2] 63 (0, 0))) ∧ Aside0 (Below w.heap.size w wc))
  case first =>
   have H := HC13.out
   clear HC13
   replace H := Option.bind_eq_some_iff.mp H
   obtain ⟨t441, A240, H⟩ := H
   replace H : (if t441 = T then (if t426 = t430 then ((Qae.f k t433 t437).bind fun t442 => (if t442 = T then (contangolaw19_CurveFills.j0 k l0 y422 t425 t433 (t434 != t438)) else (contangolaw19_CurveFills.j0 k l0 y422 t425 t433 T))) else (contangolaw19_CurveFills.j0 k l0 y422 t425 t433 T)) else (contangolaw19_CurveFills.j0 k l0 y422 t425 t433 T)) = some r := H
   have A24 := Aside0.mk A240
   clear A240
   by_cases c25 : t441 = T
   ·subst c25
    have H1 : (if t426 = t430 then ((Qae.f k t433 t437).bind fun t442 => (if t442 = T then (contangolaw19_CurveFills.j0 k l0 y422 t425 t433 (t434 != t438)) else (contangolaw19_CurveFills.j0 k l0 y422 t425 t433 T))) else (contangolaw19_CurveFills.j0 k l0 y422 t425 t433 T)) = some r := by rw [if_pos rfl] at H; exact H
    clear H
    have H := H1
    clear H1
    by_cases c26 : t426 = t430
    ·rw [if_pos c26] at H
     have c26b0 : (t426 == t430) = T := beq_iff_eq.mpr c26
     have c26b1 : (t426 != t430) = F := bne_eq_false_iff_eq.mpr c26
     clear c26
     replace H := Option.bind_eq_some_iff.mp H
     obtain ⟨t442, A270, H⟩ := H
     replace H : (if t442 = T then (contangolaw19_CurveFills.j0 k l0 y422 t425 t433 (t434 != t438)) else (contangolaw19_CurveFills.j0 k l0 y422 t425 t433 T)) = some r := H
     have A27 := Aside0.mk A270
     clear A270
     by_cases c28 : t442 = T
     ·subst c28
      have H1 : (contangolaw19_CurveFills.j0 k l0 y422 t425 t433 (t434 != t438)) = some r := by rw [if_pos rfl] at H; exact H
      clear H
      have H := H1
      clear H1
      have H' := Aside0.mk H
      clear H
      obtain ⟨Ao29, co29, eo29⟩ := Kd.R_slice HO428.out
      subst eo29
      obtain ⟨Ao30, co30, eo30⟩ := Kd.R_slice HO432.out
      subst eo30
      go_wp2_with (first | ((with_reducible refine QaD (f := 33) rfl ?_); refine goesL_ (some 59) rfl rfl Try.func33 (by kernel_rfl) rfl #[.slice Ao29 t425.length co29, .slice Ao30 t429.length co30] rfl (Zl) ?_; (with_reducible refine (Qae.calls k _ _ t425 _ _ t429 T _ ?side1 ?side2 ?side3 ?side4 A24.out).mono ?_); (case side1 => exact Zv (Kd.R_reads' HO428.out).2.2); (case side2 => exact (Kd.R_reads' HO428.out).2.1); (case side3 => exact Zv (Kd.R_reads' HO432.out).2.2); (case side4 => exact (Kd.R_reads' HO432.out).2.1); rintro e w' ⟨rfl, ⟨nd, rfl⟩⟩; refine ⟨_, rfl, ?_⟩; obtain ⟨Ao31, co31, eo31⟩ := Kd.R_slice HO436.out; subst eo31; obtain ⟨Ao32, co32, eo32⟩ := Kd.R_slice HO440.out; subst eo32) | (go_at_call 33; (with_reducible refine (Qae.calls k _ _ t433 _ _ t437 T _ ?side1 ?side2 ?side3 ?side4 A27.out).mono ?_); (case side1 => exact Zv (Kd.R_reads' HO436.out).2.2); (case side2 => exact (Kd.R_reads' HO436.out).2.1); (case side3 => exact Zv (Kd.R_reads' HO440.out).2.2); (case side4 => exact (Kd.R_reads' HO440.out).2.1); rintro e w' ⟨rfl, ⟨nd, rfl⟩⟩))
      go_meet
      case rel => exact ⟨_, ((t434 != t438)), (Zs), H', ⟨by first | omega | exact Nat.le_refl _⟩, ⟨by (with_reducible repeat (first | apply Kd.R_alloc | apply Kd.R_drewN | apply Kd.R_drew)); exact Kd.R_mono HO424.out (fun _ hk => ⟨hk.1.1.1.2, hk.1.2⟩)⟩, ⟨by (with_reducible repeat (first | apply Kd.R_alloc | apply Kd.R_drewN | apply Kd.R_drew)); exact Kd.R_mono HO428.out (fun _ hk => ⟨hk.1.1.1.2, hk.1.2⟩)⟩, ⟨by (with_reducible repeat (first | apply Kd.R_alloc | apply Kd.R_drewN | apply Kd.R_drew)); exact Kd.R_mono HO436.out (fun _ hk => ⟨hk.1.1.1.2, hk.1.1.2⟩)⟩, ⟨Zu BK417.out⟩, ⟨Zc1 GE417.out⟩⟩
     replace c28 := Bool.eq_false_iff.mpr c28
     subst c28
     have H1 : (contangolaw19_CurveFills.j0 k l0 y422 t425 t433 T) = some r := by rw [if_neg (show ¬ (F = T) by decide)] at H; exact H
     clear H
     have H := H1
     clear H1
     have H' := Aside0.mk H
     clear H
     obtain ⟨Ao33, co33, eo33⟩ := Kd.R_slice HO428.out
     subst eo33
     obtain ⟨Ao34, co34, eo34⟩ := Kd.R_slice HO432.out
     subst eo34
     go_wp2_with (first | ((with_reducible refine QaD (f := 33) rfl ?_); refine goesL_ (some 59) rfl rfl Try.func33 (by kernel_rfl) rfl #[.slice Ao33 t425.length co33, .slice Ao34 t429.length co34] rfl (Zl) ?_; (with_reducible refine (Qae.calls k _ _ t425 _ _ t429 T _ ?side1 ?side2 ?side3 ?side4 A24.out).mono ?_); (case side1 => exact Zv (Kd.R_reads' HO428.out).2.2); (case side2 => exact (Kd.R_reads' HO428.out).2.1); (case side3 => exact Zv (Kd.R_reads' HO432.out).2.2); (case side4 => exact (Kd.R_reads' HO432.out).2.1); rintro e w' ⟨rfl, ⟨nd, rfl⟩⟩; refine ⟨_, rfl, ?_⟩; obtain ⟨Ao35, co35, eo35⟩ := Kd.R_slice HO436.out; subst eo35; obtain ⟨Ao36, co36, eo36⟩ := Kd.R_slice HO440.out; subst eo36) | (go_at_call 33; (with_reducible refine (Qae.calls k _ _ t433 _ _ t437 F _ ?side1 ?side2 ?side3 ?side4 A27.out).mono ?_); (case side1 => exact Zv (Kd.R_reads' HO436.out).2.2); (case side2 => exact (Kd.R_reads' HO436.out).2.1); (case side3 => exact Zv (Kd.R_reads' HO440.out).2.2); (case side4 => exact (Kd.R_reads' HO440.out).2.1); rintro e w' ⟨rfl, ⟨nd, rfl⟩⟩))
     go_meet
     case rel => exact ⟨_, (T), (Zs), H', ⟨by first | omega | exact Nat.le_refl _⟩, ⟨by (with_reducible repeat (first | apply Kd.R_alloc | apply Kd.R_drewN | apply Kd.R_drew)); exact Kd.R_mono HO424.out (fun _ hk => ⟨hk.1.1.1.2, hk.1.2⟩)⟩, ⟨by (with_reducible repeat (first | apply Kd.R_alloc | apply Kd.R_drewN | apply Kd.R_drew)); exact Kd.R_mono HO428.out (fun _ hk => ⟨hk.1.1.1.2, hk.1.2⟩)⟩, ⟨by (with_reducible repeat (first | apply Kd.R_alloc | apply Kd.R_drewN | apply Kd.R_drew)); exact Kd.R_mono HO436.out (fun _ hk => ⟨hk.1.1.1.2, hk.1.1.2⟩)⟩, ⟨Zu BK417.out⟩, ⟨Zc1 GE417.out⟩⟩
    rw [if_neg c26] at H
    have c26b0 : (t426 == t430) = F := beq_eq_false_iff_ne.mpr c26
    have c26b1 : (t426 != t430) = T := bne_iff_ne.mpr c26
    have H' := Aside0.mk H
    clear H
    obtain ⟨Ao37, co37, eo37⟩ := Kd.R_slice HO428.out
    subst eo37
    obtain ⟨Ao38, co38, eo38⟩ := Kd.R_slice HO432.out
    subst eo38
    go_wp2_with (first | ((with_reducible refine QaD (f := 33) rfl ?_); refine goesL_ (some 59) rfl rfl Try.func33 (by kernel_rfl) rfl #[.slice Ao37 t425.length co37, .slice Ao38 t429.length co38] rfl (Zl) ?_; (with_reducible refine (Qae.calls k _ _ t425 _ _ t429 T _ ?side1 ?side2 ?side3 ?side4 A24.out).mono ?_); (case side1 => exact Zv (Kd.R_reads' HO428.out).2.2); (case side2 => exact (Kd.R_reads' HO428.out).2.1); (case side3 => exact Zv (Kd.R_reads' HO432.out).2.2); (case side4 => exact (Kd.R_reads' HO432.out).2.1); rintro e w' ⟨rfl, ⟨nd, rfl⟩⟩; refine ⟨_, rfl, ?_⟩))
    go_meet
    case rel => exact ⟨_, (T), (Zs), H', ⟨by first | omega | exact Nat.le_refl _⟩, ⟨by (with_reducible repeat (first | apply Kd.R_alloc | apply Kd.R_drewN | apply Kd.R_drew)); exact Kd.R_mono HO424.out (fun _ hk => ⟨hk.1.1.1.2, hk.1.2⟩)⟩, ⟨by (with_reducible repeat (first | apply Kd.R_alloc | apply Kd.R_drewN | apply Kd.R_drew)); exact Kd.R_mono HO428.out (fun _ hk => ⟨hk.1.1.1.2, hk.1.2⟩)⟩, ⟨by (with_reducible repeat (first | apply Kd.R_alloc | apply Kd.R_drewN | apply Kd.R_drew)); exact Kd.R_mono HO436.out (fun _ hk => ⟨hk.1.1.1.2, hk.1.1.2⟩)⟩, ⟨Zu BK417.out⟩, ⟨Zc1 GE417.out⟩⟩
   replace c25 := Bool.eq_false_iff.mpr c25
   subst c25
   have H1 : (contangolaw19_CurveFills.j0 k l0 y422 t425 t433 T) = some r := by rw [if_neg (show ¬ (F = T) by decide)] at H; exact H
   clear H
   have H := H1
   clear H1
   have H' := Aside0.mk H
   clear H
   obtain ⟨Ao39, co39, eo39⟩ := Kd.R_slice HO428.out
   subst eo39
   obtain ⟨Ao40, co40, eo40⟩ := Kd.R_slice HO432.out
   subst eo40
   go_wp2_with (first | ((with_reducible refine QaD (f := 33) rfl ?_); refine goesL_ (some 59) rfl rfl Try.func33 (by kernel_rfl) rfl #[.slice Ao39 t425.length co39, .slice Ao40 t429.length co40] rfl (Zl) ?_; (with_reducible refine (Qae.calls k _ _ t425 _ _ t429 F _ ?side1 ?side2 ?side3 ?side4 A24.out).mono ?_); (case side1 => exact Zv (Kd.R_reads' HO428.out).2.2); (case side2 => exact (Kd.R_reads' HO428.out).2.1); (case side3 => exact Zv (Kd.R_reads' HO432.out).2.2); (case side4 => exact (Kd.R_reads' HO432.out).2.1); rintro e w' ⟨rfl, ⟨nd, rfl⟩⟩; refine ⟨_, rfl, ?_⟩))
   go_meet
   case rel => exact ⟨_, (T), (Zs), H', ⟨by first | omega | exact Nat.le_refl _⟩, ⟨by (with_reducible repeat (first | apply Kd.R_alloc | apply Kd.R_drewN | apply Kd.R_drew)); exact Kd.R_mono HO424.out (fun _ hk => ⟨hk.1.1.1.2, hk.1.2⟩)⟩, ⟨by (with_reducible repeat (first | apply Kd.R_alloc | apply Kd.R_drewN | apply Kd.R_drew)); exact Kd.R_mono HO428.out (fun _ hk => ⟨hk.1.1.1.2, hk.1.2⟩)⟩, ⟨by (with_reducible repeat (first | apply Kd.R_alloc | apply Kd.R_drewN | apply Kd.R_drew)); exact Kd.R_mono HO436.out (fun _ hk => ⟨hk.1.1.1.2, hk.1.1.2⟩)⟩, ⟨Zu BK417.out⟩, ⟨Zc1 GE417.out⟩⟩
  case rest =>
   clear HC13
   try clear c1
   try clear c2
   try clear p2
   try clear c3
   try clear c5
   try clear c5b0
   try clear c5b1
   try clear c8
   try clear c11
   try clear c25
   try clear c26
   try clear c26b0
   try clear c26b1
   try clear c28
   try clear c33
   try clear c35
   try clear c36
   try clear c37
   try clear c38
   try clear hcz20_0
   try clear hcz20_1
   try clear hcz20_2
   try clear hcz22_0
   try clear hcz22_1
   try clear hcz22_2
   try clear hfz20_0
   try clear hfz20_1
   try clear hfz20_2
   try clear hfz22_0
   try clear hfz22_1
   try clear hfz22_2
   obtain ⟨kq, x76_12, rfl, HA, HJ12, HO_7, HO_8, HO_12, BK417, HB⟩ := hcut
   cases kq with
   | zero => exact absurd HA.out (by simp [contangolaw19_CurveFills.j0])
   | succ kj12 =>
    have H := HA.out
    clear HA
    simp only [contangolaw19_CurveFills.j0] at H
    by_cases c41 : x76_12 = T
    ·subst c41
     have H1 : (none) = some r := by rw [if_pos rfl] at H; exact H
     clear H
     have H := H1
     clear H1
     exact absurd H (by simp)
    replace c41 := Bool.eq_false_iff.mpr c41
    subst c41
    have H1 : ((Qas.f kj12 t425).bind fun t443 => ((Qas.f kj12 t433).bind fun t444 => ((Qae.f kj12 y422 l0).bind fun t445 => (if t445 = T then ((Qag.f kj12).bind fun t446 => (some t446)) else (none))))) = some r := by rw [if_neg (show ¬ (F = T) by decide)] at H; exact H
    clear H
    have H := H1
    clear H1
    replace H := Option.bind_eq_some_iff.mp H
    obtain ⟨t443, A420, H⟩ := H
    replace H : ((Qas.f kj12 t433).bind fun t444 => ((Qae.f kj12 y422 l0).bind fun t445 => (if t445 = T then ((Qag.f kj12).bind fun t446 => (some t446)) else (none)))) = some r := H
    have A42 := Aside0.mk A420
    clear A420
    replace H := Option.bind_eq_some_iff.mp H
    obtain ⟨t444, A430, H⟩ := H
    replace H : ((Qae.f kj12 y422 l0).bind fun t445 => (if t445 = T then ((Qag.f kj12).bind fun t446 => (some t446)) else (none))) = some r := H
    have A43 := Aside0.mk A430
    clear A430
    obtain ⟨Ao44, co44, eo44⟩ := Kd.R_slice HO_8.out
    subst eo44
    go_upto_region 12 with (first | ((with_reducible refine QaD (f := 39) rfl ?_); refine goesL_ (some 78) rfl rfl Try.func39 (by kernel_rfl) rfl #[.slice Ao44 t425.length co44] rfl (Zl) ?_; (with_reducible refine (Qas.calls kj12 (fun k_ => some k_ = (.slice Ao44 t425.length co44 : Value).ownBlock) (.slice Ao44 t425.length co44) t425 t443 w _ ?side1 ?side2 A42.out).mono ?_); (case side1 => repeat (first | (with_reducible first | exact HB.out | apply Qab | apply Qaa | apply Qac | refine Qav ?_ GE417.out) | exact HB.out)); (case side2 => exact Kd.R_tight rfl HO_8.out); rintro e w45 ⟨rfl, hy0, hb, hkp⟩; refine ⟨_, rfl, ?_⟩; replace HO_7 := Aside0.mk (Kd.R_mono (ok' := fun k_ => some k_ ≠ (.slice Ao44 t425.length co44 : Value).ownBlock ∧ some k_ ≠ (v435 : Value).ownBlock) (Kd.R_keptB (HO_7.out) hkp (fun k_ hk_ hs_ => (hk_.1) hs_)) (fun k_ hk_ => ⟨hk_.1.1, hk_.1.2⟩)); replace HO_12 := Aside0.mk (Kd.R_mono (ok' := fun k_ => some k_ ≠ (.slice Ao17 y422.length co17 : Value).ownBlock ∧ some k_ ≠ (.slice Ao44 t425.length co44 : Value).ownBlock) (Kd.R_keptB (HO_12.out) hkp (fun k_ hk_ hs_ => (hk_.2) hs_)) (fun k_ hk_ => ⟨hk_.1.1, hk_.1.2⟩)); replace BK417 := Aside0.mk (QcR (Zu BK417.out) hkp (fun hs_ => (fun e_ => (Kd.R_ne HO_8.out BK417.out (by decide)) e_) hs_)); replace HO_8 := Aside0.mk (Kd.R_reok rfl hy0 (fun k_ e_ => HO_8.out.1 k_ e_)); replace HB := Aside0.mk (hb); (try clear hb); (try clear hkp); (try clear hy0); obtain ⟨Ao46, co46, eo46⟩ := Kd.R_slice HO_12.out; subst eo46) | ((with_reducible refine QaD (f := 39) rfl ?_); refine goesL_ (some 80) rfl rfl Try.func39 (by kernel_rfl) rfl #[.slice Ao46 t433.length co46] rfl (Zl) ?_; (with_reducible refine (Qas.calls kj12 (fun k_ => some k_ = (.slice Ao46 t433.length co46 : Value).ownBlock) (.slice Ao46 t433.length co46) t433 t444 w _ ?side1 ?side2 A43.out).mono ?_); (case side1 => repeat (first | (with_reducible first | exact HB.out | apply Qab | apply Qaa | apply Qac | refine Qav ?_ GE417.out) | exact HB.out)); (case side2 => exact Kd.R_tight rfl HO_12.out); rintro e w47 ⟨rfl, hy0, hb, hkp⟩; refine ⟨_, rfl, ?_⟩; replace HO_7 := Aside0.mk (Kd.R_mono (ok' := fun k_ => some k_ ≠ (.slice Ao44 t425.length co44 : Value).ownBlock ∧ some k_ ≠ (.slice Ao46 t433.length co46 : Value).ownBlock) (Kd.R_keptB (HO_7.out) hkp (fun k_ hk_ hs_ => (hk_.2) hs_)) (fun k_ hk_ => ⟨hk_.1.1, hk_.1.2⟩)); replace HO_8 := Aside0.mk (Kd.R_mono (ok' := fun k_ => some k_ ≠ (.slice Ao17 y422.length co17 : Value).ownBlock ∧ some k_ ≠ (.slice Ao46 t433.length co46 : Value).ownBlock) (Kd.R_keptB (HO_8.out) hkp (fun k_ hk_ hs_ => (hk_.2) hs_)) (fun k_ hk_ => ⟨hk_.1.1, hk_.1.2⟩)); replace BK417 := Aside0.mk (QcR (Zu BK417.out) hkp (fun hs_ => (fun e_ => (Kd.R_ne HO_12.out BK417.out (by decide)) e_) hs_)); replace HO_12 := Aside0.mk (Kd.R_reok rfl hy0 (fun k_ e_ => HO_12.out.1 k_ e_)); replace HB := Aside0.mk (hb); (try clear hb); (try clear hkp); (try clear hy0)))
    (try simp only [Act.put, Zj, Zk, Zm])
    replace H := Option.bind_eq_some_iff.mp H
    obtain ⟨t445, A480, H⟩ := H
    replace H : (if t445 = T then ((Qag.f kj12).bind fun t446 => (some t446)) else (none)) = some r := H
    have A48 := Aside0.mk A480
    clear A480
    by_cases c49 : t445 = T
    ·subst c49
     have H1 : ((Qag.f kj12).bind fun t446 => (some t446)) = some r := by rw [if_pos rfl] at H; exact H
     clear H
     have H := H1
     clear H1
     replace H := Option.bind_eq_some_iff.mp H
     obtain ⟨t446, A500, H⟩ := H
     replace H : (some t446) = some r := H
     have A50 := Aside0.mk A500
     clear A500
     obtain rfl := Option.some.inj H
     go_wp2_with (first | ((with_reducible refine QaD (f := 33) rfl ?_); refine goesL_ (some 83) rfl rfl Try.func33 (by kernel_rfl) rfl #[.slice Ao17 y422.length co17, .slice A0 l0.length c0] rfl (Zl) ?_; (with_reducible refine (Qae.calls kj12 _ _ y422 _ _ l0 T _ ?side1 ?side2 ?side3 ?side4 A48.out).mono ?_); (case side1 => exact Zv (Kd.R_reads' HO_7.out).2.2); (case side2 => exact (Kd.R_reads' HO_7.out).2.1); (case side3 => exact Zv (Kd.C_below HR0.out HB.out)); (case side4 => exact HC0.out); rintro e w' ⟨rfl, ⟨nd, rfl⟩⟩; refine ⟨_, rfl, ?_⟩) | (go_at_call 28; (with_reducible refine (Qag.calls kj12  t446 _ A50.out).mono ?_); rintro e w51 ⟨rfl, hb⟩; replace HO_7 := Aside0.mk (Kd.R_below (Zr HO_7.out) hb); replace HO_8 := Aside0.mk (Kd.R_below (Zr HO_8.out) hb); replace HO_12 := Aside0.mk (Kd.R_below (Zr HO_12.out) hb); replace BK417 := Aside0.mk (Zi BK417.out hb); replace HB := Aside0.mk (Qat (Zc1 GE417.out) hb); (try clear hb); (try clear hb2); (try clear hk); (try clear hi)))
     go_ret
     exact ⟨Zq, Zc1 GE417.out⟩
    replace c49 := Bool.eq_false_iff.mpr c49
    subst c49
    have H1 : (none) = some r := by rw [if_neg (show ¬ (F = T) by decide)] at H; exact H
    clear H
    have H := H1
    clear H1
    exact absurd H (by simp)
 rw [if_neg c8] at H
 exact absurd H (by simp)
def contangolaw19_CurveBetween.l0 : Nat → Int → Int → Int → Int → Int → List (S56) → Int → Int → Option (Bool)
 | 0, _, _, _, _, _, _, _, _ => none
 | k + 1, x1, x2, x7, x9, x10, x27, x28, x29 => if x29 < x28 then (if 0 ≤ x29 then (if x29 < (x27.length : Int) then (if ((rd_T56 x27 x29).f2 = T) then (if ((rd_T56 x27 x29).f0) = x1 then (if x7 = ((rd_T56 x27 x29).f1) then (contangolaw19_CurveBetween.l0 k x1 x2 x7 (mn x9 ((rd_T56 x27 x29).f1)) (mx x10 ((rd_T56 x27 x29).f1)) x27 x28 (wrap64 (x29 + 1))) else (none)) else (contangolaw19_CurveBetween.l0 k x1 x2 x7 (mn x9 ((rd_T56 x27 x29).f1)) (mx x10 ((rd_T56 x27 x29).f1)) x27 x28 (wrap64 (x29 + 1)))) else (contangolaw19_CurveBetween.l0 k x1 x2 x7 x9 x10 x27 x28 (wrap64 (x29 + 1)))) else (none)) else (none)) else (if (wrap64 (2 * x7)) ≥ (wrap64 ((wrap64 (2 * x9)) - x2)) then (if (wrap64 (2 * x7)) ≤ (wrap64 ((wrap64 (2 * x10)) + x2)) then ((Qag.f k).bind fun t327 => (some t327)) else (none)) else (none))
def contangolaw19_CurveBetween.f (k : Nat) (l0 : List (S56)) (a1 : Int) (a2 : Int) : Option (Bool) := (QaC.f k l0 a1 a2).bind fun bt324 => (if bt324.2 = 0 then (contangolaw19_CurveBetween.l0 k a1 a2 bt324.1 67108864 (-67108864) l0 (l0.length : Int) 0) else (if bt324.1 = 0 then ((Qag.f k).bind fun t326 => (some t326)) else (none)))
theorem contangolaw19_CurveBetween.mono_l : ∀ k, (∀ y0 y1 y2 y3 y4 y5 y6 y7, LeO (contangolaw19_CurveBetween.l0 k y0 y1 y2 y3 y4 y5 y6 y7) (contangolaw19_CurveBetween.l0 (k + 1) y0 y1 y2 y3 y4 y5 y6 y7))
 | 0 => fun _ _ _ _ _ _ _ _ r h => by simp [contangolaw19_CurveBetween.l0] at h
 | k + 1 => by
  have ih0 := contangolaw19_CurveBetween.mono_l k
  intro y0 y1 y2 y3 y4 y5 y6 y7
  unfold contangolaw19_CurveBetween.l0
  exact ZM3 ih0 Qag.mono QaC.mono
theorem contangolaw19_CurveBetween.mono : ∀ a0 a1 a2 k, LeO (contangolaw19_CurveBetween.f k a0 a1 a2) (contangolaw19_CurveBetween.f (k + 1) a0 a1 a2) := by
 intro a0 a1 a2 k
 have ih0 := contangolaw19_CurveBetween.mono_l k
 unfold contangolaw19_CurveBetween.f
 exact ZM3 ih0 Qag.mono QaC.mono
theorem contangolaw19_CurveBetween.calls (k : Nat) (A0 : Option Addr) (c0 : Nat) (l0 : List (S56)) (a1 : Int) (a2 : Int) (r : Bool) (w : World) (hr0 : Kd.C k56 w A0 l0.length l0) (hc0 : l0.length ≤ c0) (h : contangolaw19_CurveBetween.f k l0 a1 a2 = some r) :
  Calls Try.prog 9 #[.slice A0 l0.length c0, .int .i64 a1, .int .i64 a2] w fun e w' => e = .returned (.bool r) ∧ Below w.heap.size w w' := by
 have hu56 := Try.underlying56
 have HR0 := Aside0.mk hr0
 have HC0 := Aside0.mk hc0
 clear hr0 hc0
 have HB := Aside0.mk (Below.refl w.heap.size w)
 have H : ((QaC.f k l0 a1 a2).bind fun bt324 => (if bt324.2 = 0 then (contangolaw19_CurveBetween.l0 k a1 a2 bt324.1 67108864 (-67108864) l0 (l0.length : Int) 0) else (if bt324.1 = 0 then ((Qag.f k).bind fun t326 => (some t326)) else (none)))) = some r := h
 clear h
 replace H := Option.bind_eq_some_iff.mp H
 obtain ⟨⟨t324, t325⟩, A40, H⟩ := H
 replace H : (if t325 = 0 then (contangolaw19_CurveBetween.l0 k a1 a2 t324 67108864 (-67108864) l0 (l0.length : Int) 0) else (if t324 = 0 then ((Qag.f k).bind fun t326 => (some t326)) else (none))) = some r := H
 have A4 := Aside0.mk A40
 clear A40
 go_enter Try.func9, Try.ntmps9
 go_upto_if 21 with (first | (go_at_call 29; (with_reducible refine (QaC.calls k _ _ l0 a1 a2 t324 t325 _ ?side1 ?side2 A4.out).mono ?_); (case side1 => exact Zv HR0.out); (case side2 => exact HC0.out); rintro e w5 ⟨rfl, hb⟩; replace HB := Aside0.mk (Qat (Zb) hb); (try clear hb); (try clear hb2); (try clear hk); (try clear hi)))
 repeat (go_quiet (first | (go_at_call 29; (with_reducible refine (QaC.calls k _ _ l0 a1 a2 t324 t325 _ ?side1 ?side2 A4.out).mono ?_); (case side1 => exact Zv HR0.out); (case side2 => exact HC0.out); rintro e w5 ⟨rfl, hb⟩; replace HB := Aside0.mk (Qat (Zb) hb); (try clear hb); (try clear hb2); (try clear hk); (try clear hi))); go_upto_if 21 with (first | (go_at_call 29; (with_reducible refine (QaC.calls k _ _ l0 a1 a2 t324 t325 _ ?side1 ?side2 A4.out).mono ?_); (case side1 => exact Zv HR0.out); (case side2 => exact HC0.out); rintro e w5 ⟨rfl, hb⟩; replace HB := Aside0.mk (Qat (Zb) hb); (try clear hb); (try clear hb2); (try clear hk); (try clear hi))))
 (try simp only [Act.put, Zj, Zk, Zm])
 by_cases c6 : t325 = 0
 ·rw [if_pos c6] at H
  have c6b0 : (t325 == 0) = T := beq_iff_eq.mpr c6
  have c6b1 : (t325 != 0) = F := bne_eq_false_iff_eq.mpr c6
  clear c6
  (try simp only [c6b0, c6b1])
  have H' := Aside0.mk H
  clear H
  go_wp2
  repeat (go_quiet (fail); try go_wp2)
  go_loopg [9, 10, 29] k (fun kq v9 v10 v29 w' => ∃ (x9_1 : Int) (x10_1 : Int) (x29_1 : Int), v9 = .int .i64 x9_1 ∧ v10 = .int .i64 x10_1 ∧ v29 = .int .i64 x29_1 ∧ Aside0 (contangolaw19_CurveBetween.l0 kq a1 a2 t324 x9_1 x10_1 l0 (l0.length : Int) x29_1 = some r) ∧ Aside0 (kq ≤ k) ∧ Aside0 (Below w.heap.size w w'))
  case atStart => exact ⟨(67108864), ((-67108864)), (0), (Zs), (Zs), (Zs), H', ⟨Nat.le_refl _⟩, ⟨Zb⟩⟩
  case round =>
   clear H'
   try clear p2
   try clear c6
   try clear c6b0
   try clear c6b1
   obtain ⟨x9_1, x10_1, x29_1, rfl, rfl, rfl, HA, HK1, HB⟩ := hrel
   cases gk with
   | zero => exact absurd HA.out (by simp [contangolaw19_CurveBetween.l0])
   | succ k1 =>
    have H := HA.out
    clear HA
    simp only [contangolaw19_CurveBetween.l0] at H
    by_cases c7 : x29_1 < (l0.length : Int)
    ·rw [if_pos c7] at H
     have c7b0 : decide (x29_1 < (l0.length : Int)) = T := decide_eq_true c7
     clear c7
     (try simp only [c7b0])
     by_cases c8 : 0 ≤ x29_1
     ·rw [if_pos c8] at H
      have c8b0 : decide (0 ≤ x29_1) = T := decide_eq_true c8
      clear c8
      by_cases c9 : x29_1 < (l0.length : Int)
      ·rw [if_pos c9] at H
       have c9b0 : decide (x29_1 < (l0.length : Int)) = T := decide_eq_true c9
       clear c9
       have p328 : 0 ≤ (x29_1 : Int) := Ze
       have q328 : x29_1 < (l0.length : Int) := Ze
       obtain ⟨ad328, e328, hx328_0, hx328_1, hx328_2⟩ := at_T56 HR0.out x29_1 p328 q328
       cases e328
       replace hx328_0 := Zx HB.out hx328_0
       replace hx328_1 := Zx HB.out hx328_1
       replace hx328_2 := Zx HB.out hx328_2
       replace p328 := eq_true p328
       replace q328 := eq_true q328
       go_upto_if 35 with (first | ((with_reducible refine QaZ (N := 12) rfl ?_); refine Zbx (N := 12) (cs := #[.int .i64 0, .int .i64 0, .bool F]) (t := 56) ?_; intro gb329 hg w10 hbox hb; have BK329 := Aside0.mk (hbox); have GW329 := Aside0.mk (Zt w hg (Zb)); have GE329 := GW329; replace HB := Aside0.mk (Qat (Zb) hb); clear hb hbox hg; have hcz11_0 : w10.cell? ⟨gb329, 0, none⟩ = some (.int .i64 0) := (Qap BK329.out 0).trans (by first | rfl | (rw [← Nbq12.out]; rfl)); have hcz11_1 : w10.cell? ⟨gb329, 1, none⟩ = some (.int .i64 0) := (Qap BK329.out 1).trans (by first | rfl | (rw [← Nbq12.out]; rfl)); have hcz11_2 : w10.cell? ⟨gb329, 2, none⟩ = some (.bool F) := (Qap BK329.out 2).trans (by first | rfl | (rw [← Nbq12.out]; rfl)); have hfz11_0 := Qaj BK329.out 0; have hfz11_1 := Qaj BK329.out 1; have hfz11_2 := Qaj BK329.out 2))
       repeat (go_quiet (first | ((with_reducible refine QaZ (N := 12) rfl ?_); refine Zbx (N := 12) (cs := #[.int .i64 0, .int .i64 0, .bool F]) (t := 56) ?_; intro gb329 hg w10 hbox hb; have BK329 := Aside0.mk (hbox); have GW329 := Aside0.mk (Zt w hg (Zb)); have GE329 := GW329; replace HB := Aside0.mk (Qat (Zb) hb); clear hb hbox hg; have hcz11_0 : w10.cell? ⟨gb329, 0, none⟩ = some (.int .i64 0) := (Qap BK329.out 0).trans (by first | rfl | (rw [← Nbq12.out]; rfl)); have hcz11_1 : w10.cell? ⟨gb329, 1, none⟩ = some (.int .i64 0) := (Qap BK329.out 1).trans (by first | rfl | (rw [← Nbq12.out]; rfl)); have hcz11_2 : w10.cell? ⟨gb329, 2, none⟩ = some (.bool F) := (Qap BK329.out 2).trans (by first | rfl | (rw [← Nbq12.out]; rfl)); have hfz11_0 := Qaj BK329.out 0; have hfz11_1 := Qaj BK329.out 1; have hfz11_2 := Qaj BK329.out 2)); go_upto_if 35 with (first | ((with_reducible refine QaZ (N := 12) rfl ?_); refine Zbx (N := 12) (cs := #[.int .i64 0, .int .i64 0, .bool F]) (t := 56) ?_; intro gb329 hg w10 hbox hb; have BK329 := Aside0.mk (hbox); have GW329 := Aside0.mk (Zt w hg (Zb)); have GE329 := GW329; replace HB := Aside0.mk (Qat (Zb) hb); clear hb hbox hg; have hcz11_0 : w10.cell? ⟨gb329, 0, none⟩ = some (.int .i64 0) := (Qap BK329.out 0).trans (by first | rfl | (rw [← Nbq12.out]; rfl)); have hcz11_1 : w10.cell? ⟨gb329, 1, none⟩ = some (.int .i64 0) := (Qap BK329.out 1).trans (by first | rfl | (rw [← Nbq12.out]; rfl)); have hcz11_2 : w10.cell? ⟨gb329, 2, none⟩ = some (.bool F) := (Qap BK329.out 2).trans (by first | rfl | (rw [← Nbq12.out]; rfl)); have hfz11_0 := Qaj BK329.out 0; have hfz11_1 := Qaj BK329.out 1; have hfz11_2 := Qaj BK329.out 2)))
       (try simp only [Act.put, Zj, Zk, Zm])
       obtain ⟨bq12, hbq12⟩ : ∃ b_ : Bool, b_ = ((rd_T56 l0 x29_1).f2) := ⟨_, rfl⟩
       replace H : (if (bq12 = T) then (if ((rd_T56 l0 x29_1).f0) = a1 then (if t324 = ((rd_T56 l0 x29_1).f1) then (contangolaw19_CurveBetween.l0 k1 a1 a2 t324 (mn x9_1 ((rd_T56 l0 x29_1).f1)) (mx x10_1 ((rd_T56 l0 x29_1).f1)) l0 (l0.length : Int) (wrap64 (x29_1 + 1))) else (none)) else (contangolaw19_CurveBetween.l0 k1 a1 a2 t324 (mn x9_1 ((rd_T56 l0 x29_1).f1)) (mx x10_1 ((rd_T56 l0 x29_1).f1)) l0 (l0.length : Int) (wrap64 (x29_1 + 1)))) else (contangolaw19_CurveBetween.l0 k1 a1 a2 t324 x9_1 x10_1 l0 (l0.length : Int) (wrap64 (x29_1 + 1)))) = some r := by rw [← hbq12] at H; exact H
       have Nbq12 := Aside0.mk hbq12
       clear hbq12
       (try rw [← Nbq12.out])
       (try rw [← Nbq12.out] at hx328_0)
       (try rw [← Nbq12.out] at hx328_1)
       (try rw [← Nbq12.out] at hx328_2)
       (try rw [← Nbq12.out] at BK329)
       (try rw [← Nbq12.out] at hcz11_0)
       (try rw [← Nbq12.out] at hcz11_1)
       (try rw [← Nbq12.out] at hcz11_2)
       by_cases c13 : (bq12 = T)
       ·subst c13
        have H1 : (if ((rd_T56 l0 x29_1).f0) = a1 then (if t324 = ((rd_T56 l0 x29_1).f1) then (contangolaw19_CurveBetween.l0 k1 a1 a2 t324 (mn x9_1 ((rd_T56 l0 x29_1).f1)) (mx x10_1 ((rd_T56 l0 x29_1).f1)) l0 (l0.length : Int) (wrap64 (x29_1 + 1))) else (none)) else (contangolaw19_CurveBetween.l0 k1 a1 a2 t324 (mn x9_1 ((rd_T56 l0 x29_1).f1)) (mx x10_1 ((rd_T56 l0 x29_1).f1)) l0 (l0.length : Int) (wrap64 (x29_1 + 1)))) = some r := by rw [if_pos rfl] at H; exact H
        clear H
        have H := H1
        clear H1
        obtain ⟨ji14, hji14⟩ : ∃ j_ : Int, (mn x9_1 ((rd_T56 l0 x29_1).f1)) = j_ := ⟨_, rfl⟩
        replace H : (if ((rd_T56 l0 x29_1).f0) = a1 then (if t324 = ((rd_T56 l0 x29_1).f1) then (contangolaw19_CurveBetween.l0 k1 a1 a2 t324 ji14 (mx x10_1 ((rd_T56 l0 x29_1).f1)) l0 (l0.length : Int) (wrap64 (x29_1 + 1))) else (none)) else (contangolaw19_CurveBetween.l0 k1 a1 a2 t324 ji14 (mx x10_1 ((rd_T56 l0 x29_1).f1)) l0 (l0.length : Int) (wrap64 (x29_1 + 1)))) = some r := by first | (rw [hji14] at H; exact H) | (simp only [hji14] at H ⊢; exact H)
        have hji14_ : (if ((rd_T56 l0 x29_1).f1) < x9_1 then ((rd_T56 l0 x29_1).f1) else x9_1) = ji14 := hji14
        obtain ⟨ji15, hji15⟩ : ∃ j_ : Int, (mx x10_1 ((rd_T56 l0 x29_1).f1)) = j_ := ⟨_, rfl⟩
        replace H : (if ((rd_T56 l0 x29_1).f0) = a1 then (if t324 = ((rd_T56 l0 x29_1).f1) then (contangolaw19_CurveBetween.l0 k1 a1 a2 t324 ji14 ji15 l0 (l0.length : Int) (wrap64 (x29_1 + 1))) else (none)) else (contangolaw19_CurveBetween.l0 k1 a1 a2 t324 ji14 ji15 l0 (l0.length : Int) (wrap64 (x29_1 + 1)))) = some r := by first | (rw [hji15] at H; exact H) | (simp only [hji15] at H ⊢; exact H)
        have hji15_ : (if x10_1 < ((rd_T56 l0 x29_1).f1) then ((rd_T56 l0 x29_1).f1) else x10_1) = ji15 := hji15
        have hcz16_0 : w10.cell? ⟨gb329, 0, none⟩ = some (.int .i64 0) := (Qap BK329.out 0).trans (by first | rfl | (rw [← Nbq12.out]; rfl))
        have hcz16_1 : w10.cell? ⟨gb329, 1, none⟩ = some (.int .i64 0) := (Qap BK329.out 1).trans (by first | rfl | (rw [← Nbq12.out]; rfl))
        have hcz16_2 : w10.cell? ⟨gb329, 2, none⟩ = some (.bool F) := (Qap BK329.out 2).trans (by first | rfl | (rw [← Nbq12.out]; rfl))
        have hfz16_0 := Qaj BK329.out 0
        have hfz16_1 := Qaj BK329.out 1
        have hfz16_2 := Qaj BK329.out 2
        go_upto_region 10 with (fail)
        repeat (go_quiet (fail); go_upto_region 10 with (fail))
        (try rw [← Nbq12.out])
        by_cases c17 : ((rd_T56 l0 x29_1).f0) = a1
        ·rw [if_pos c17] at H
         have c17b0 : (((rd_T56 l0 x29_1).f0) == a1) = T := beq_iff_eq.mpr c17
         have c17b1 : (((rd_T56 l0 x29_1).f0) != a1) = F := bne_eq_false_iff_eq.mpr c17
         clear c17
         (try simp only [c17b0, c17b1])
         have hcz18_0 : w10.cell? ⟨gb329, 0, none⟩ = some (.int .i64 0) := (Qap BK329.out 0).trans (by first | rfl | (rw [← Nbq12.out]; rfl))
         have hcz18_1 : w10.cell? ⟨gb329, 1, none⟩ = some (.int .i64 0) := (Qap BK329.out 1).trans (by first | rfl | (rw [← Nbq12.out]; rfl))
         have hcz18_2 : w10.cell? ⟨gb329, 2, none⟩ = some (.bool F) := (Qap BK329.out 2).trans (by first | rfl | (rw [← Nbq12.out]; rfl))
         have hfz18_0 := Qaj BK329.out 0
         have hfz18_1 := Qaj BK329.out 1
         have hfz18_2 := Qaj BK329.out 2
         go_upto_if 53 with (fail)
         repeat (go_quiet (fail); go_upto_if 53 with (fail))
         (try rw [← Nbq12.out])
         by_cases c19 : t324 = ((rd_T56 l0 x29_1).f1)
         ·rw [if_pos c19] at H
          have c19b0 : (t324 == ((rd_T56 l0 x29_1).f1)) = T := beq_iff_eq.mpr c19
          have c19b1 : (t324 != ((rd_T56 l0 x29_1).f1)) = F := bne_eq_false_iff_eq.mpr c19
          clear c19
          (try simp only [c19b0, c19b1])
          have H' := Aside0.mk H
          clear H
          go_wp2
          repeat (go_quiet (fail); try go_wp2)
          go_roundg k1
          case measure => have := HK1.out; omega
          case rel => exact ⟨(ji14), (ji15), (wrap64 (x29_1 + 1)), (by first | rfl | (simp; done) | (simp only [← hji14] <;> (first | rfl | simp)) | (simp [*]; done)), (by first | rfl | (simp; done) | (simp only [← hji15] <;> (first | rfl | simp)) | (simp [*]; done)), (Zs), H', ⟨by have := HK1.out; omega⟩, ⟨Zc1 GE329.out⟩⟩
         rw [if_neg c19] at H
         exact absurd H (by simp)
        rw [if_neg c17] at H
        have c17b0 : (((rd_T56 l0 x29_1).f0) == a1) = F := beq_eq_false_iff_ne.mpr c17
        have c17b1 : (((rd_T56 l0 x29_1).f0) != a1) = T := bne_iff_ne.mpr c17
        (try simp only [c17b0, c17b1])
        have H' := Aside0.mk H
        clear H
        have hcz20_0 : w10.cell? ⟨gb329, 0, none⟩ = some (.int .i64 0) := (Qap BK329.out 0).trans (by first | rfl | (rw [← Nbq12.out]; rfl))
        have hcz20_1 : w10.cell? ⟨gb329, 1, none⟩ = some (.int .i64 0) := (Qap BK329.out 1).trans (by first | rfl | (rw [← Nbq12.out]; rfl))
        have hcz20_2 : w10.cell? ⟨gb329, 2, none⟩ = some (.bool F) := (Qap BK329.out 2).trans (by first | rfl | (rw [← Nbq12.out]; rfl))
        have hfz20_0 := Qaj BK329.out 0
        have hfz20_1 := Qaj BK329.out 1
        have hfz20_2 := Qaj BK329.out 2
        go_wp2
        repeat (go_quiet (fail); try go_wp2)
        go_roundg k1
        case measure => have := HK1.out; omega
        case rel => exact ⟨(ji14), (ji15), (wrap64 (x29_1 + 1)), (by first | rfl | (simp; done) | (simp only [← hji14] <;> (first | rfl | simp)) | (simp [*]; done)), (by first | rfl | (simp; done) | (simp only [← hji15] <;> (first | rfl | simp)) | (simp [*]; done)), (Zs), H', ⟨by have := HK1.out; omega⟩, ⟨Zc1 GE329.out⟩⟩
       replace c13 := Bool.eq_false_iff.mpr c13
       subst c13
       have H1 : (contangolaw19_CurveBetween.l0 k1 a1 a2 t324 x9_1 x10_1 l0 (l0.length : Int) (wrap64 (x29_1 + 1))) = some r := by rw [if_neg (show ¬ (F = T) by decide)] at H; exact H
       clear H
       have H := H1
       clear H1
       have H' := Aside0.mk H
       clear H
       go_wp2
       repeat (go_quiet (fail); try go_wp2)
       go_roundg k1
       case measure => have := HK1.out; omega
       case rel => exact ⟨(x9_1), (x10_1), (wrap64 (x29_1 + 1)), (Zs), (Zs), (Zs), H', ⟨by have := HK1.out; omega⟩, ⟨Zc1 GE329.out⟩⟩
      rw [if_neg c9] at H
      exact absurd H (by simp)
     rw [if_neg c8] at H
     exact absurd H (by simp)
    rw [if_neg c7] at H
    have c7b0 : decide (x29_1 < (l0.length : Int)) = F := decide_eq_false c7
    clear c7
    (try simp only [c7b0])
    by_cases c21 : (wrap64 (2 * t324)) ≥ (wrap64 ((wrap64 (2 * x9_1)) - a2))
    ·rw [if_pos c21] at H
     have c21b0 : decide ((wrap64 ((wrap64 (2 * x9_1)) - a2)) ≤ (wrap64 (2 * t324))) = T := decide_eq_true c21
     clear c21
     by_cases c22 : (wrap64 (2 * t324)) ≤ (wrap64 ((wrap64 (2 * x10_1)) + a2))
     ·rw [if_pos c22] at H
      have c22b0 : decide ((wrap64 (2 * t324)) ≤ (wrap64 ((wrap64 (2 * x10_1)) + a2))) = T := decide_eq_true c22
      clear c22
      replace H := Option.bind_eq_some_iff.mp H
      obtain ⟨t327, A230, H⟩ := H
      replace H : (some t327) = some r := H
      have A23 := Aside0.mk A230
      clear A230
      obtain rfl := Option.some.inj H
      go_wp2_with (first | (go_at_call 28; (with_reducible refine (Qag.calls k1  t327 _ A23.out).mono ?_); rintro e w24 ⟨rfl, hb⟩; replace HB := Aside0.mk (Qat (Zb) hb); (try clear hb); (try clear hb2); (try clear hk); (try clear hi)))
      repeat (go_quiet (first | (go_at_call 28; (with_reducible refine (Qag.calls k1  t327 _ A23.out).mono ?_); rintro e w24 ⟨rfl, hb⟩; replace HB := Aside0.mk (Qat (Zb) hb); (try clear hb); (try clear hb2); (try clear hk); (try clear hi))); try go_wp2_with (first | (go_at_call 28; (with_reducible refine (Qag.calls k1  t327 _ A23.out).mono ?_); rintro e w24 ⟨rfl, hb⟩; replace HB := Aside0.mk (Qat (Zb) hb); (try clear hb); (try clear hb2); (try clear hk); (try clear hi))))
      go_ret
      exact ⟨Zq, Zb⟩
     rw [if_neg c22] at H
     exact absurd H (by simp)
    rw [if_neg c21] at H
    exact absurd H (by simp)
 rw [if_neg c6] at H
 have c6b0 : (t325 == 0) = F := beq_eq_false_iff_ne.mpr c6
 have c6b1 : (t325 != 0) = T := bne_iff_ne.mpr c6
 (try simp only [c6b0, c6b1])
 by_cases c25 : t324 = 0
 ·rw [if_pos c25] at H
  have c25b0 : (t324 == 0) = T := beq_iff_eq.mpr c25
  have c25b1 : (t324 != 0) = F := bne_eq_false_iff_eq.mpr c25
  clear c25
  replace H := Option.bind_eq_some_iff.mp H
  obtain ⟨t326, A260, H⟩ := H
  replace H : (some t326) = some r := H
  have A26 := Aside0.mk A260
  clear A260
  obtain rfl := Option.some.inj H
  go_wp2_with (first | (go_at_call 28; (with_reducible refine (Qag.calls k  t326 _ A26.out).mono ?_); rintro e w27 ⟨rfl, hb⟩; replace HB := Aside0.mk (Qat (Zb) hb); (try clear hb); (try clear hb2); (try clear hk); (try clear hi)))
  repeat (go_quiet (first | (go_at_call 28; (with_reducible refine (Qag.calls k  t326 _ A26.out).mono ?_); rintro e w27 ⟨rfl, hb⟩; replace HB := Aside0.mk (Qat (Zb) hb); (try clear hb); (try clear hb2); (try clear hk); (try clear hi))); try go_wp2_with (first | (go_at_call 28; (with_reducible refine (Qag.calls k  t326 _ A26.out).mono ?_); rintro e w27 ⟨rfl, hb⟩; replace HB := Aside0.mk (Qat (Zb) hb); (try clear hb); (try clear hb2); (try clear hk); (try clear hi))))
  go_ret
  exact ⟨Zq, Zb⟩
 rw [if_neg c25] at H
 exact absurd H (by simp)
def Qak.l0 : Nat → List (S56) → Int → Int → List (S56) → Int → Int → Option ((List (S56)) × Int × Int)
 | 0, _, _, _, _, _, _ => none
 | k + 1, x0, x1, x2, x9, x10, x11 => if x11 < (x0.length : Int) then (if x11 < 60 then (if 0 ≤ x11 then (if (rd_T56 x0 x11).f2 = T then (if x9.length < 5864062014805 then (Qak.l0 k x0 x1 x2 (x9 ++ [(⟨wrap64 ((wrap64 (x10 + 1)) + (wrap64 (Int.tmod (IntKind.u64.wrap ((rd_T56 x0 x11).f0)) 500))), wrap64 ((wrap64 (Int.tmod (IntKind.u64.wrap ((rd_T56 x0 x11).f1)) 1000000)) - 500000), T⟩ : S56)]) (wrap64 ((wrap64 (x10 + 1)) + (wrap64 (Int.tmod (IntKind.u64.wrap ((rd_T56 x0 x11).f0)) 500)))) (wrap64 (x11 + 1))) else (none)) else (if x9.length < 5864062014805 then (Qak.l0 k x0 x1 x2 (x9 ++ [(⟨wrap64 ((wrap64 (x10 + 1)) + (wrap64 (Int.tmod (IntKind.u64.wrap ((rd_T56 x0 x11).f0)) 500))), wrap64 ((wrap64 (Int.tmod (IntKind.u64.wrap ((rd_T56 x0 x11).f1)) 1000000)) - 500000), (x11 == 0)⟩ : S56)]) (wrap64 ((wrap64 (x10 + 1)) + (wrap64 (Int.tmod (IntKind.u64.wrap ((rd_T56 x0 x11).f0)) 500)))) (wrap64 (x11 + 1))) else (none))) else (none)) else (if (x9.length : Int) = 0 then (if x9.length < 5864062014805 then (some ((x9 ++ [(⟨3, 7, T⟩ : S56)]), x1, x2)) else (none)) else (some (x9, x1, x2)))) else (if (x9.length : Int) = 0 then (if x9.length < 5864062014805 then (some ((x9 ++ [(⟨3, 7, T⟩ : S56)]), x1, x2)) else (none)) else (some (x9, x1, x2)))
def Qak.f (k : Nat) (l0 : List (S56)) (a1 : Int) (a2 : Int) : Option ((List (S56)) × Int × Int) := Qak.l0 k l0 (wrap64 (1 + (wrap64 (Int.tmod (IntKind.u64.wrap (a1)) 1000)))) (wrap64 ((wrap64 (2 * (wrap64 (1 + (wrap64 (Int.tmod (IntKind.u64.wrap (a1)) 1000)))))) * (wrap64 ((wrap64 (Int.tmod (IntKind.u64.wrap (a2)) 1000)) - 500)))) (([] : List (S56))) 0 0
theorem Qak.mono_l : ∀ k, (∀ y0 y1 y2 y3 y4 y5, LeO (Qak.l0 k y0 y1 y2 y3 y4 y5) (Qak.l0 (k + 1) y0 y1 y2 y3 y4 y5))
 | 0 => fun _ _ _ _ _ _ r h => by simp [Qak.l0] at h
 | k + 1 => by
  have ih0 := Qak.mono_l k
  intro y0 y1 y2 y3 y4 y5
  unfold Qak.l0
  exact ZM1 ih0
theorem Qak.mono : ∀ a0 a1 a2 k, LeO (Qak.f k a0 a1 a2) (Qak.f (k + 1) a0 a1 a2) := by
 intro a0 a1 a2 k
 have ih0 := Qak.mono_l k
 unfold Qak.f
 exact ZM1 ih0
def Qak.T9 : Bool × List (List Nat × List Nat) := (T, [([], []), ([], []), ([], []), ([], []), ([2, 3], [2, 3]), ([4], [4]), ([5], [5]), ([6], [6]), ([7], [7]), ([8], [8]), ([9], [9]), ([], []), ([], []), ([11, 12], [11, 12]), ([13], [13]), ([14], [14]), ([15], [15]), ([16], [16]), ([17, 16], [16, 17]), ([16, 18], [16, 18]), ([1, 10, 19], [1, 10, 19]), ([20], [20]), ([0, 21, 16], [0, 21]), ([22, 22, 0, 1, 2, 3, 4, 5, 6, 7, 8, 9, 10, 11, 12, 13, 14, 15, 16, 17, 18, 19, 20, 21, 22], [0, 22])])
def Qak.B9 : List Nat := [0, 0, 0, 0, 12, 28, 60, 124, 252, 508, 1020, 0, 0, 6144, 14336, 30720, 63488, 129024, 260096, 522240, 1048574, 2097150, 4194303, 8388607]
theorem Qak.tab9 : rtab .any (opsOf Try.f34 9) = Qak.T9 := by kernel_rfl
theorem Qak.bits9 : QbD Qak.T9.2 Qak.B9 = T := by kernel_rfl
theorem Qak.calls (k : Nat) (A0 : Option Addr) (c0 : Nat) (l0 : List (S56)) (a1 : Int) (a2 : Int) (r1 : List (S56)) (r2 : Int) (r3 : Int) (w : World) (hr0 : Kd.C k56 w A0 l0.length l0) (hc0 : l0.length ≤ c0) (h : Qak.f k l0 a1 a2 = some (r1, r2, r3)) :
  Calls Try.prog 34 #[.slice A0 l0.length c0, .int .i64 a1, .int .i64 a2] w fun e w' => ∃ v0_ : Value, e = .returned (.tuple #[v0_, .int .i64 r2, .int .i64 r3]) ∧ Kd.R k56 56 w' w.heap.size (fun _ => True) v0_ r1 ∧ Below w.heap.size w w' := by
 have hu56 := Try.underlying56
 have HR0 := Aside0.mk hr0
 have HC0 := Aside0.mk hc0
 clear hr0 hc0
 have HB := Aside0.mk (Below.refl w.heap.size w)
 have H : (Qak.l0 k l0 (wrap64 (1 + (wrap64 (Int.tmod (IntKind.u64.wrap (a1)) 1000)))) (wrap64 ((wrap64 (2 * (wrap64 (1 + (wrap64 (Int.tmod (IntKind.u64.wrap (a1)) 1000)))))) * (wrap64 ((wrap64 (Int.tmod (IntKind.u64.wrap (a2)) 1000)) - 500)))) (([] : List (S56))) 0 0) = some (r1, r2, r3) := h
 clear h
 obtain ⟨y330, hy330⟩ : ∃ y_ : List (S56), y_ = (([] : List (S56))) := ⟨_, rfl⟩
 replace H : (Qak.l0 k l0 (wrap64 (1 + (wrap64 (Int.tmod (IntKind.u64.wrap (a1)) 1000)))) (wrap64 ((wrap64 (2 * (wrap64 (1 + (wrap64 (Int.tmod (IntKind.u64.wrap (a1)) 1000)))))) * (wrap64 ((wrap64 (Int.tmod (IntKind.u64.wrap (a2)) 1000)) - 500)))) y330 0 0) = some (r1, r2, r3) := by first | (rw [hy330]; with_reducible exact H) | (have H2_ := (Option.bind_some _ _).symm.trans H; rw [hy330]; with_reducible exact H2_) | (have H2_ := (Option.bind_some _ _).symm.trans H; with_reducible exact H2_) | with_reducible exact H | (rw [hy330]; exact H) | exact H
 have Ny330 := Aside0.mk hy330
 clear hy330
 have H' := Aside0.mk H
 clear H
 go_enter Try.func34, Try.ntmps34
 go_wp2_with (first | ((with_reducible refine QaZ (N := 25) rfl ?_); refine Kd.R_lit k56 _ 56 ?hg (N := 25) ?hd (xs := ([] : List (S56))) (inner := []) (ok := fun _ => True) (okp := fun _ => True) ?hr ?hp (fun _ hk => hk) trivial (Below.refl _ _) (Nat.le_refl _) (by simp) ?_; (case hd => rfl); (case hg => rfl); (case hr => first | (go_simp; done) | (go_simp; rfl)); (case hp => exact (Reps.none _ _)); intro v331 w4 ho5 hb hg_ hnew_; clear hg_ hnew_; (first | rw [← Ny330.out] at ho5 | (simp only [Int.reduceToNat] at ho5; rw [← Ny330.out] at ho5)); have HO332 := Aside0.mk (Kd.R_lower ho5 (Qay (Zb))); replace HB := Aside0.mk (Qat (Zb) hb); clear hb ho5))
 go_loopg [9, 10, 11] k (fun kq v9 v10 v11 w' => ∃ (x9_1 : List (S56)) (x10_1 : Int) (x11_1 : Int), v10 = .int .i64 x10_1 ∧ v11 = .int .i64 x11_1 ∧ Aside0 (Qak.l0 kq l0 (wrap64 (1 + (wrap64 (Int.tmod (IntKind.u64.wrap (a1)) 1000)))) (wrap64 ((wrap64 (2 * (wrap64 (1 + (wrap64 (Int.tmod (IntKind.u64.wrap (a1)) 1000)))))) * (wrap64 ((wrap64 (Int.tmod (IntKind.u64.wrap (a2)) 1000)) - 500)))) x9_1 x10_1 x11_1 = some (r1, r2, r3)) ∧ Aside0 (kq ≤ k) ∧ Aside0 (Kd.R k56 56 w' w.heap.size (fun _ => True) v9 x9_1) ∧ Aside0 (Below w.heap.size w w'))
 case atStart => exact ⟨(y330), (0), (0), (Zs), (Zs), H', ⟨Nat.le_refl _⟩, ⟨Zr HO332.out⟩, ⟨Zb⟩⟩
 case round =>
  clear H'
  try clear p2
  try clear c3
  obtain ⟨x9_1, x10_1, x11_1, rfl, rfl, HA, HK1, HO_9, HB⟩ := hrel
  cases gk with
  | zero => exact absurd HA.out (by simp [Qak.l0])
  | succ k1 =>
   have H := HA.out
   clear HA
   simp only [Qak.l0] at H
   by_cases c6 : x11_1 < (l0.length : Int)
   ·rw [if_pos c6] at H
    have c6b0 : decide (x11_1 < (l0.length : Int)) = T := decide_eq_true c6
    clear c6
    by_cases c7 : x11_1 < 60
    ·rw [if_pos c7] at H
     have c7b0 : decide (x11_1 < 60) = T := decide_eq_true c7
     clear c7
     (try simp only [c7b0])
     by_cases c8 : 0 ≤ x11_1
     ·rw [if_pos c8] at H
      have c8b0 : decide (0 ≤ x11_1) = T := decide_eq_true c8
      clear c8
      obtain ⟨bq9, hbq9⟩ : ∃ b_ : Bool, b_ = ((rd_T56 l0 x11_1).f2) := ⟨_, rfl⟩
      replace H : (if bq9 = T then (if x9_1.length < 5864062014805 then (Qak.l0 k1 l0 (wrap64 (1 + (wrap64 (Int.tmod (IntKind.u64.wrap (a1)) 1000)))) (wrap64 ((wrap64 (2 * (wrap64 (1 + (wrap64 (Int.tmod (IntKind.u64.wrap (a1)) 1000)))))) * (wrap64 ((wrap64 (Int.tmod (IntKind.u64.wrap (a2)) 1000)) - 500)))) (x9_1 ++ [(⟨wrap64 ((wrap64 (x10_1 + 1)) + (wrap64 (Int.tmod (IntKind.u64.wrap ((rd_T56 l0 x11_1).f0)) 500))), wrap64 ((wrap64 (Int.tmod (IntKind.u64.wrap ((rd_T56 l0 x11_1).f1)) 1000000)) - 500000), T⟩ : S56)]) (wrap64 ((wrap64 (x10_1 + 1)) + (wrap64 (Int.tmod (IntKind.u64.wrap ((rd_T56 l0 x11_1).f0)) 500)))) (wrap64 (x11_1 + 1))) else (none)) else (if x9_1.length < 5864062014805 then (Qak.l0 k1 l0 (wrap64 (1 + (wrap64 (Int.tmod (IntKind.u64.wrap (a1)) 1000)))) (wrap64 ((wrap64 (2 * (wrap64 (1 + (wrap64 (Int.tmod (IntKind.u64.wrap (a1)) 1000)))))) * (wrap64 ((wrap64 (Int.tmod (IntKind.u64.wrap (a2)) 1000)) - 500)))) (x9_1 ++ [(⟨wrap64 ((wrap64 (x10_1 + 1)) + (wrap64 (Int.tmod (IntKind.u64.wrap ((rd_T56 l0 x11_1).f0)) 500))), wrap64 ((wrap64 (Int.tmod (IntKind.u64.wrap ((rd_T56 l0 x11_1).f1)) 1000000)) - 500000), (x11_1 == 0)⟩ : S56)]) (wrap64 ((wrap64 (x10_1 + 1)) + (wrap64 (Int.tmod (IntKind.u64.wrap ((rd_T56 l0 x11_1).f0)) 500)))) (wrap64 (x11_1 + 1))) else (none))) = some (r1, r2, r3) := by rw [← hbq9] at H; exact H
      have Nbq9 := Aside0.mk hbq9
      clear hbq9
      by_cases c10 : bq9 = T
      ·subst c10
       have H1 : (if x9_1.length < 5864062014805 then (Qak.l0 k1 l0 (wrap64 (1 + (wrap64 (Int.tmod (IntKind.u64.wrap (a1)) 1000)))) (wrap64 ((wrap64 (2 * (wrap64 (1 + (wrap64 (Int.tmod (IntKind.u64.wrap (a1)) 1000)))))) * (wrap64 ((wrap64 (Int.tmod (IntKind.u64.wrap (a2)) 1000)) - 500)))) (x9_1 ++ [(⟨wrap64 ((wrap64 (x10_1 + 1)) + (wrap64 (Int.tmod (IntKind.u64.wrap ((rd_T56 l0 x11_1).f0)) 500))), wrap64 ((wrap64 (Int.tmod (IntKind.u64.wrap ((rd_T56 l0 x11_1).f1)) 1000000)) - 500000), T⟩ : S56)]) (wrap64 ((wrap64 (x10_1 + 1)) + (wrap64 (Int.tmod (IntKind.u64.wrap ((rd_T56 l0 x11_1).f0)) 500)))) (wrap64 (x11_1 + 1))) else (none)) = some (r1, r2, r3) := by rw [if_pos rfl] at H; exact H
       clear H
       have H := H1
       clear H1
       by_cases c11 : x9_1.length < 5864062014805
       ·rw [if_pos c11] at H
        have LMc11 := Aside0.mk c11
        clear c11
        obtain ⟨y336, hy336⟩ : ∃ y_ : List (S56), y_ = (x9_1 ++ [(⟨wrap64 ((wrap64 (x10_1 + 1)) + (wrap64 (Int.tmod (IntKind.u64.wrap ((rd_T56 l0 x11_1).f0)) 500))), wrap64 ((wrap64 (Int.tmod (IntKind.u64.wrap ((rd_T56 l0 x11_1).f1)) 1000000)) - 500000), T⟩ : S56)]) := ⟨_, rfl⟩
        replace H : (Qak.l0 k1 l0 (wrap64 (1 + (wrap64 (Int.tmod (IntKind.u64.wrap (a1)) 1000)))) (wrap64 ((wrap64 (2 * (wrap64 (1 + (wrap64 (Int.tmod (IntKind.u64.wrap (a1)) 1000)))))) * (wrap64 ((wrap64 (Int.tmod (IntKind.u64.wrap (a2)) 1000)) - 500)))) y336 (wrap64 ((wrap64 (x10_1 + 1)) + (wrap64 (Int.tmod (IntKind.u64.wrap ((rd_T56 l0 x11_1).f0)) 500)))) (wrap64 (x11_1 + 1))) = some (r1, r2, r3) := by first | (rw [hy336]; with_reducible exact H) | (have H2_ := (Option.bind_some _ _).symm.trans H; rw [hy336]; with_reducible exact H2_) | (have H2_ := (Option.bind_some _ _).symm.trans H; with_reducible exact H2_) | with_reducible exact H | (rw [hy336]; exact H) | exact H
        have Ny336 := Aside0.mk hy336
        clear hy336
        have H' := Aside0.mk H
        clear H
        have p333 : 0 ≤ (x11_1 : Int) := Ze
        have q333 : x11_1 < (l0.length : Int) := Ze
        obtain ⟨ad333, e333, hx333_0, hx333_1, hx333_2⟩ := at_T56 HR0.out x11_1 p333 q333
        (try rw [← Nbq9.out] at hx333_2); (try rw [← Nbq9.out] at hw333_2)
        cases e333
        replace hx333_0 := Zx HB.out hx333_0
        replace hx333_1 := Zx HB.out hx333_1
        replace hx333_2 := Zx HB.out hx333_2
        replace p333 := eq_true p333
        replace q333 := eq_true q333
        try go_wp2
        replace HO_9 := Aside0.mk (Kd.R_drew HO_9.out)
        replace HB := Aside0.mk (Qac HB.out)
        have p334 : 0 ≤ (x11_1 : Int) := Ze
        have q334 : x11_1 < (l0.length : Int) := Ze
        obtain ⟨ad334, e334, hx334_0, hx334_1, hx334_2⟩ := at_T56 HR0.out x11_1 p334 q334
        have hw334_2 := hx334_2
        have hw334_1 := hx334_1
        have hw334_0 := hx334_0
        (try rw [← Nbq9.out] at hx334_2); (try rw [← Nbq9.out] at hw334_2)
        obtain rfl : ad333 = ad334 := (by injection e334)
        replace hx334_0 := Zx HB.out hx334_0
        replace hx334_1 := Zx HB.out hx334_1
        replace hx334_2 := Zx HB.out hx334_2
        replace p334 := eq_true p334
        replace q334 := eq_true q334
        have p335 : 0 ≤ (x11_1 : Int) := Ze
        have q335 : x11_1 < (l0.length : Int) := Ze
        obtain ⟨ad335, e335, hx335_0, hx335_1, hx335_2⟩ := at_T56 HR0.out x11_1 p335 q335
        have hw335_2 := hx335_2
        have hw335_1 := hx335_1
        have hw335_0 := hx335_0
        (try rw [← Nbq9.out] at hx335_2); (try rw [← Nbq9.out] at hw335_2)
        obtain rfl : ad333 = ad335 := (by injection e335)
        replace hx335_0 := Zx HB.out hx335_0
        replace hx335_1 := Zx HB.out hx335_1
        replace hx335_2 := Zx HB.out hx335_2
        replace p335 := eq_true p335
        replace q335 := eq_true q335
        refine start_ (n := 24) (S := fun w' => w'.cell? (ad333.add ((x11_1).toNat * 3)) = some (.int .i64 ((rd_T56 l0 x11_1).f0)) ∧ w'.cell? ⟨(ad333.add ((x11_1).toNat * 3)).block, (ad333.add ((x11_1).toNat * 3)).off + 1, none⟩ = some (.int .i64 ((rd_T56 l0 x11_1).f1)) ∧ w'.cell? ⟨(ad333.add ((x11_1).toNat * 3)).block, (ad333.add ((x11_1).toNat * 3)).off + 2, none⟩ = some (.bool T) ∧ w'.cell? (ad333.add ((x11_1).toNat * 3)) = some (.int .i64 ((rd_T56 l0 x11_1).f0)) ∧ w'.cell? ⟨(ad333.add ((x11_1).toNat * 3)).block, (ad333.add ((x11_1).toNat * 3)).off + 1, none⟩ = some (.int .i64 ((rd_T56 l0 x11_1).f1)) ∧ w'.cell? ⟨(ad333.add ((x11_1).toNat * 3)).block, (ad333.add ((x11_1).toNat * 3)).off + 2, none⟩ = some (.bool T)) (ds := []) #[F, F, F, F, F, F, F, F, F, F, F, F, F, F, F, F, F, F, F, F, F, F, F, F] (by kernel_rfl) rfl rfl ⟨((HB.out.cell (World.block_lt_of_cell? w _ hw334_0)).trans hw334_0), ((HB.out.cell (World.block_lt_of_cell? w _ hw334_1)).trans hw334_1), ((HB.out.cell (World.block_lt_of_cell? w _ hw334_2)).trans hw334_2), ((HB.out.cell (World.block_lt_of_cell? w _ hw335_0)).trans hw335_0), ((HB.out.cell (World.block_lt_of_cell? w _ hw335_1)).trans hw335_1), ((HB.out.cell (World.block_lt_of_cell? w _ hw335_2)).trans hw335_2)⟩ (fun hHeld => ?_); refine Qb2 Qak.tab9 Qak.bits9 (fun HT_ HW_ => ?_)
        generalize wr.drew = w12 at HO_9 HB hx334_0 hx334_1 hx334_2 hx335_0 hx335_1 hx335_2 hHeld ⊢
        refine pure_ (i := 0) (N := some 47) (v := ?_) (a' := ?_) #[T, F, F, F, F, F, F, F, F, F, F, F, F, F, F, F, F, F, F, F, F, F, F, F] rfl rfl (any_of HT_.out (by kernel_rfl)) (fun _ _ _ h => h) (Or.inl ⟨by rfl, ?_⟩) ?_ ?_
        rotate_left
        ·intro w'
         go_simp
         with_reducible rfl
        rotate_left
        ·simp only [Act.put, Zj, Zk, Zm, i64_w, i32_w]
         rfl
        refine pure_ (i := 1) (N := some 48) (v := ?_) (a' := ?_) #[T, T, F, F, F, F, F, F, F, F, F, F, F, F, F, F, F, F, F, F, F, F, F, F] rfl rfl (any_of HT_.out (by kernel_rfl)) (fun _ _ _ h => h) (Or.inl ⟨by rfl, ?_⟩) ?_ ?_
        rotate_left
        ·intro w'
         go_simp
         with_reducible rfl
        rotate_left
        ·simp only [Act.put, Zj, Zk, Zm, i64_w, i32_w]
         rfl
        refine pure_ (i := 2) (N := some 49) (v := ?_) (a' := ?_) #[T, T, T, F, F, F, F, F, F, F, F, F, F, F, F, F, F, F, F, F, F, F, F, F] rfl rfl (any_of HT_.out (by kernel_rfl)) (fun _ _ _ h => h) (Or.inl ⟨by rfl, ?_⟩) ?_ ?_
        rotate_left
        ·intro w'
         go_simp
         with_reducible rfl
        rotate_left
        ·simp only [Act.put, Zj, Zk, Zm, i64_w, i32_w]
         rfl
        refine pure_ (i := 3) (N := some 50) (v := ?_) (a' := ?_) #[T, T, T, T, F, F, F, F, F, F, F, F, F, F, F, F, F, F, F, F, F, F, F, F] rfl rfl (any_of HT_.out (by kernel_rfl)) (fun _ _ _ h => h) (Or.inl ⟨by rfl, ?_⟩) ?_ ?_
        rotate_left
        ·intro w'
         go_simp
         with_reducible rfl
        rotate_left
        ·simp only [Act.put, Zj, Zk, Zm, i64_w, i32_w]
         rfl
        refine pure_ (i := 4) (N := some 51) (v := ?_) (a' := ?_) #[T, T, T, T, T, F, F, F, F, F, F, F, F, F, F, F, F, F, F, F, F, F, F, F] rfl rfl (any_of HT_.out (by kernel_rfl)) (fun _ _ _ h => h) (Or.inl ⟨by rfl, ?_⟩) ?_ ?_
        rotate_left
        ·intro w'
         go_simp
         with_reducible rfl
        rotate_left
        ·simp only [Act.put, Zj, Zk, Zm, i64_w, i32_w]
         rfl
        refine pure_ (i := 5) (N := some 52) (v := ?_) (a' := ?_) #[T, T, T, T, T, T, F, F, F, F, F, F, F, F, F, F, F, F, F, F, F, F, F, F] rfl rfl (any_of HT_.out (by kernel_rfl)) (fun _ _ _ h => h) (Or.inl ⟨by rfl, ?_⟩) ?_ ?_
        rotate_left
        ·intro w'
         go_simp
         with_reducible rfl
        rotate_left
        ·simp only [Act.put, Zj, Zk, Zm, i64_w, i32_w]
         rfl
        refine pure_ (i := 11) (N := some 58) (v := ?_) (a' := ?_) #[T, T, T, T, T, T, F, F, F, F, F, T, F, F, F, F, F, F, F, F, F, F, F, F] rfl rfl (any_of HT_.out (by kernel_rfl)) (fun _ _ _ h => h) (Or.inl ⟨by rfl, ?_⟩) ?_ ?_
        rotate_left
        ·intro w'
         go_simp
         with_reducible rfl
        rotate_left
        ·simp only [Act.put, Zj, Zk, Zm, i64_w, i32_w]
         rfl
        refine pure_ (i := 12) (N := some 59) (v := ?_) (a' := ?_) #[T, T, T, T, T, T, F, F, F, F, F, T, T, F, F, F, F, F, F, F, F, F, F, F] rfl rfl (any_of HT_.out (by kernel_rfl)) (fun _ _ _ h => h) (Or.inl ⟨by rfl, ?_⟩) ?_ ?_
        rotate_left
        ·intro w'
         go_simp
         with_reducible rfl
        rotate_left
        ·simp only [Act.put, Zj, Zk, Zm, i64_w, i32_w]
         rfl
        refine pure_ (i := 13) (N := some 60) (v := ?_) (a' := ?_) #[T, T, T, T, T, T, F, F, F, F, F, T, T, T, F, F, F, F, F, F, F, F, F, F] rfl rfl (any_of HT_.out (by kernel_rfl)) (fun _ _ _ h => h) (Or.inl ⟨by rfl, ?_⟩) ?_ ?_
        rotate_left
        ·intro w'
         go_simp
         with_reducible rfl
        rotate_left
        ·simp only [Act.put, Zj, Zk, Zm, i64_w, i32_w]
         rfl
        refine pure_ (i := 14) (N := some 61) (v := ?_) (a' := ?_) #[T, T, T, T, T, T, F, F, F, F, F, T, T, T, T, F, F, F, F, F, F, F, F, F] rfl rfl (any_of HT_.out (by kernel_rfl)) (fun _ _ _ h => h) (Or.inl ⟨by rfl, ?_⟩) ?_ ?_
        rotate_left
        ·intro w'
         go_simp
         with_reducible rfl
        rotate_left
        ·simp only [Act.put, Zj, Zk, Zm, i64_w, i32_w]
         rfl
        refine take_ (i := 6) (N := some 53) (v := ?_) (a' := ?_) #[T, T, T, T, T, T, T, F, F, F, F, T, T, T, T, F, F, F, F, F, F, F, F, F] rfl rfl (Qbu HT_.out HW_.out (by kernel_rfl)) (fun _ _ _ h => h) (Or.inl ⟨by rfl, ?_⟩) hHeld ?_ ?_
        rotate_left
        ·rintro w' ⟨s0, s1, s2, s3, s4, s5⟩
         go_simp
         with_reducible rfl
        rotate_left
        ·simp only [Act.put, Zj, Zk, Zm, i64_w, i32_w]
         rfl
        refine pure_ (i := 7) (N := some 54) (v := ?_) (a' := ?_) #[T, T, T, T, T, T, T, T, F, F, F, T, T, T, T, F, F, F, F, F, F, F, F, F] rfl rfl (any_of HT_.out (by kernel_rfl)) (fun _ _ _ h => h) (Or.inl ⟨by rfl, ?_⟩) ?_ ?_
        rotate_left
        ·intro w'
         go_simp
         with_reducible rfl
        rotate_left
        ·simp only [Act.put, Zj, Zk, Zm, i64_w, i32_w]
         rfl
        refine pure_ (i := 8) (N := some 55) (v := ?_) (a' := ?_) #[T, T, T, T, T, T, T, T, T, F, F, T, T, T, T, F, F, F, F, F, F, F, F, F] rfl rfl (any_of HT_.out (by kernel_rfl)) (fun _ _ _ h => h) (Or.inl ⟨by rfl, ?_⟩) ?_ ?_
        rotate_left
        ·intro w'
         go_simp
         with_reducible rfl
        rotate_left
        ·simp only [Act.put, Zj, Zk, Zm, i64_w, i32_w]
         rfl
        refine pure_ (i := 9) (N := some 56) (v := ?_) (a' := ?_) #[T, T, T, T, T, T, T, T, T, T, F, T, T, T, T, F, F, F, F, F, F, F, F, F] rfl rfl (any_of HT_.out (by kernel_rfl)) (fun _ _ _ h => h) (Or.inl ⟨by rfl, ?_⟩) ?_ ?_
        rotate_left
        ·intro w'
         go_simp
         with_reducible rfl
        rotate_left
        ·simp only [Act.put, Zj, Zk, Zm, i64_w, i32_w]
         rfl
        refine pure_ (i := 10) (N := some 57) (v := ?_) (a' := ?_) #[T, T, T, T, T, T, T, T, T, T, T, T, T, T, T, F, F, F, F, F, F, F, F, F] rfl rfl (any_of HT_.out (by kernel_rfl)) (fun _ _ _ h => h) (Or.inl ⟨by rfl, ?_⟩) ?_ ?_
        rotate_left
        ·intro w'
         go_simp
         with_reducible rfl
        rotate_left
        ·simp only [Act.put, Zj, Zk, Zm, i64_w, i32_w]
         rfl
        refine take_ (i := 15) (N := some 62) (v := ?_) (a' := ?_) #[T, T, T, T, T, T, T, T, T, T, T, T, T, T, T, T, F, F, F, F, F, F, F, F] rfl rfl (Qbu HT_.out HW_.out (by kernel_rfl)) (fun _ _ _ h => h) (Or.inl ⟨by rfl, ?_⟩) hHeld ?_ ?_
        rotate_left
        ·rintro w' ⟨s0, s1, s2, s3, s4, s5⟩
         go_simp
         with_reducible rfl
        rotate_left
        ·simp only [Act.put, Zj, Zk, Zm, i64_w, i32_w]
         rfl
        refine pure_ (i := 16) (N := some 63) (v := ?_) (a' := ?_) #[T, T, T, T, T, T, T, T, T, T, T, T, T, T, T, T, T, F, F, F, F, F, F, F] rfl rfl (any_of HT_.out (by kernel_rfl)) (fun _ _ _ h => h) (Or.inl ⟨by rfl, ?_⟩) ?_ ?_
        rotate_left
        ·intro w'
         go_simp
         with_reducible rfl
        rotate_left
        ·simp only [Act.put, Zj, Zk, Zm, i64_w, i32_w]
         rfl
        refine pure_ (i := 17) (N := some 64) (v := undef) (a' := ?_) #[T, T, T, T, T, T, T, T, T, T, T, T, T, T, T, T, T, T, F, F, F, F, F, F] rfl rfl (any_of HT_.out (by kernel_rfl)) (fun _ _ _ h => h) (Or.inr ⟨by rfl, rfl⟩) ?_ ?_
        rotate_left
        ·simp only [Act.put, Zj, Zk, Zm, i64_w, i32_w]
         rfl
        refine pure_ (i := 18) (N := some 65) (v := undef) (a' := ?_) #[T, T, T, T, T, T, T, T, T, T, T, T, T, T, T, T, T, T, T, F, F, F, F, F] rfl rfl (any_of HT_.out (by kernel_rfl)) (fun _ _ _ h => h) (Or.inr ⟨by rfl, rfl⟩) ?_ ?_
        rotate_left
        ·simp only [Act.put, Zj, Zk, Zm, i64_w, i32_w]
         rfl
        refine pure_ (i := 19) (N := some 66) (v := ?_) (a' := ?_) #[T, T, T, T, T, T, T, T, T, T, T, T, T, T, T, T, T, T, T, T, F, F, F, F] rfl rfl (any_of HT_.out (by kernel_rfl)) (fun _ _ _ h => h) (Or.inl ⟨by rfl, ?_⟩) ?_ ?_
        rotate_left
        ·intro w'
         go_simp
         with_reducible rfl
        rotate_left
        ·simp only [Act.put, Zj, Zk, Zm, i64_w, i32_w]
         rfl
        refine pure_ (i := 20) (N := some 67) (v := ?_) (a' := ?_) #[T, T, T, T, T, T, T, T, T, T, T, T, T, T, T, T, T, T, T, T, T, F, F, F] rfl rfl (any_of HT_.out (by kernel_rfl)) (fun _ _ _ h => h) (Or.inl ⟨by rfl, ?_⟩) ?_ ?_
        rotate_left
        ·intro w'
         go_simp
         with_reducible rfl
        rotate_left
        ·simp only [Act.put, Zj, Zk, Zm, i64_w, i32_w]
         rfl
        refine one_ (i := 21) (N := some 68) #[T, T, T, T, T, T, T, T, T, T, T, T, T, T, T, T, T, T, T, T, T, T, F, F] rfl rfl (one_of HT_.out (by kernel_rfl)) (by decide) (fun K hK => ?_)
        refine value_ (w1 := ?_) (v := ?_) (by rfl) rfl ?_ ?_
        rotate_left 2
        ·go_simp
         constructor
         ·rfl
         rfl
        refine hK.out _ _ ⟨(World.cell?_alloc_lt _ _ _ (World.block_lt_of_cell? _ _ (((HB.out.cell (World.block_lt_of_cell? w _ hw334_0)).trans hw334_0)))).trans (((HB.out.cell (World.block_lt_of_cell? w _ hw334_0)).trans hw334_0)), (World.cell?_alloc_lt _ _ _ (World.block_lt_of_cell? _ _ (((HB.out.cell (World.block_lt_of_cell? w _ hw334_1)).trans hw334_1)))).trans (((HB.out.cell (World.block_lt_of_cell? w _ hw334_1)).trans hw334_1)), (World.cell?_alloc_lt _ _ _ (World.block_lt_of_cell? _ _ (((HB.out.cell (World.block_lt_of_cell? w _ hw334_2)).trans hw334_2)))).trans (((HB.out.cell (World.block_lt_of_cell? w _ hw334_2)).trans hw334_2)), (World.cell?_alloc_lt _ _ _ (World.block_lt_of_cell? _ _ (((HB.out.cell (World.block_lt_of_cell? w _ hw335_0)).trans hw335_0)))).trans (((HB.out.cell (World.block_lt_of_cell? w _ hw335_0)).trans hw335_0)), (World.cell?_alloc_lt _ _ _ (World.block_lt_of_cell? _ _ (((HB.out.cell (World.block_lt_of_cell? w _ hw335_1)).trans hw335_1)))).trans (((HB.out.cell (World.block_lt_of_cell? w _ hw335_1)).trans hw335_1)), (World.cell?_alloc_lt _ _ _ (World.block_lt_of_cell? _ _ (((HB.out.cell (World.block_lt_of_cell? w _ hw335_2)).trans hw335_2)))).trans (((HB.out.cell (World.block_lt_of_cell? w _ hw335_2)).trans hw335_2))⟩ (fun hHeld => ?_)
        clear hK K
        refine norm_ (a' := ?_) ?_ ?_
        rotate_left
        ·show Act.put _ (some 68) _ = _
         simp only [Act.put, Zj, Zk, Zm, i64_w, i32_w]
         rfl
        refine one_ (i := 22) (N := some 69) #[T, T, T, T, T, T, T, T, T, T, T, T, T, T, T, T, T, T, T, T, T, T, T, F] rfl rfl (one_of HT_.out (by kernel_rfl)) (by decide) (fun K hK => ?_)
        refine Kd.R_append_step k56 (w0 := w) w.heap.size (by rfl) (.tmp 47) (.tmp 68) 48 56 (.agg #[(.int .i64 0), (.int .i64 0), (.bool F)]) 24 rfl Try.underlying48 info56 rfl (by decide) (by omega) u9 x9_1 (⟨wrap64 ((wrap64 (x10_1 + 1)) + (wrap64 (Int.tmod (IntKind.u64.wrap ((rd_T56 l0 x11_1).f0)) 500))), wrap64 ((wrap64 (Int.tmod (IntKind.u64.wrap ((rd_T56 l0 x11_1).f1)) 1000000)) - 500000), T⟩ : S56) [.int .i64 (wrap64 ((wrap64 (x10_1 + 1)) + (wrap64 (Int.tmod (IntKind.u64.wrap ((rd_T56 l0 x11_1).f0)) 500)))), .int .i64 (wrap64 ((wrap64 (Int.tmod (IntKind.u64.wrap ((rd_T56 l0 x11_1).f1)) 1000000)) - 500000)), .bool T] (fun _ => True) (fun _ => False) rfl rfl ?aP (fun _ hk => hk.elim) ?aF ?aO ?aB ?aS ?aL ?_
        (case aP => exact Qa9 _ _ _ (⟨wrap64 ((wrap64 (x10_1 + 1)) + (wrap64 (Int.tmod (IntKind.u64.wrap ((rd_T56 l0 x11_1).f0)) 500))), wrap64 ((wrap64 (Int.tmod (IntKind.u64.wrap ((rd_T56 l0 x11_1).f1)) 1000000)) - 500000), T⟩ : S56))
        (case aB => exact (Zb))
        (case aF => exact (fun _ _ => trivial))
        (case aO => exact (Zr HO_9.out))
        (case aS => exact (Qay (Zb)))
        (case aL => have := LMc11.out; omega)
        intro v337 w13 ho hb hg hat
        rw [← Ny336.out] at ho
        have HO338 := Aside0.mk (ho)
        replace HB := Aside0.mk (hb)
        clear HO_9
        clear ho hb hg hat
        refine hK.out _ _ ⟨((HB.out.cell (World.block_lt_of_cell? w _ hw334_0)).trans hw334_0), ((HB.out.cell (World.block_lt_of_cell? w _ hw334_1)).trans hw334_1), ((HB.out.cell (World.block_lt_of_cell? w _ hw334_2)).trans hw334_2), ((HB.out.cell (World.block_lt_of_cell? w _ hw335_0)).trans hw335_0), ((HB.out.cell (World.block_lt_of_cell? w _ hw335_1)).trans hw335_1), ((HB.out.cell (World.block_lt_of_cell? w _ hw335_2)).trans hw335_2)⟩ (fun hHeld => ?_)
        clear hK K
        refine norm_ (a' := ?_) ?_ ?_
        rotate_left
        ·show Act.put _ (some 69) _ = _
         simp only [Act.put, Zj, Zk, Zm, i64_w, i32_w]
         rfl
        refine pure_ (i := 23) (N := some 9) (v := ?_) (a' := ?_) #[T, T, T, T, T, T, T, T, T, T, T, T, T, T, T, T, T, T, T, T, T, T, T, T] rfl rfl (any_of HT_.out (by kernel_rfl)) (fun _ _ _ h => h) (Or.inl ⟨by rfl, ?_⟩) ?_ ?_
        rotate_left
        ·intro w'
         go_simp
         with_reducible rfl
        rotate_left
        ·simp only [Act.put, Zj, Zk, Zm, i64_w, i32_w]
         rfl
        refine done_ (Qcu HT_.out (by kernel_rfl)) ?_
        try go_wp2
        go_roundg k1
        case measure => have := HK1.out; omega
        case rel => exact ⟨(y336), (wrap64 ((wrap64 (x10_1 + 1)) + (wrap64 (Int.tmod (IntKind.u64.wrap ((rd_T56 l0 x11_1).f0)) 500)))), (wrap64 (x11_1 + 1)), (Zs), (Zs), H', ⟨by have := HK1.out; omega⟩, ⟨Zr HO338.out⟩, ⟨Zb⟩⟩
       rw [if_neg c11] at H
       exact absurd H (by simp)
      replace c10 := Bool.eq_false_iff.mpr c10
      subst c10
      have H1 : (if x9_1.length < 5864062014805 then (Qak.l0 k1 l0 (wrap64 (1 + (wrap64 (Int.tmod (IntKind.u64.wrap (a1)) 1000)))) (wrap64 ((wrap64 (2 * (wrap64 (1 + (wrap64 (Int.tmod (IntKind.u64.wrap (a1)) 1000)))))) * (wrap64 ((wrap64 (Int.tmod (IntKind.u64.wrap (a2)) 1000)) - 500)))) (x9_1 ++ [(⟨wrap64 ((wrap64 (x10_1 + 1)) + (wrap64 (Int.tmod (IntKind.u64.wrap ((rd_T56 l0 x11_1).f0)) 500))), wrap64 ((wrap64 (Int.tmod (IntKind.u64.wrap ((rd_T56 l0 x11_1).f1)) 1000000)) - 500000), (x11_1 == 0)⟩ : S56)]) (wrap64 ((wrap64 (x10_1 + 1)) + (wrap64 (Int.tmod (IntKind.u64.wrap ((rd_T56 l0 x11_1).f0)) 500)))) (wrap64 (x11_1 + 1))) else (none)) = some (r1, r2, r3) := by rw [if_neg (show ¬ (F = T) by decide)] at H; exact H
      clear H
      have H := H1
      clear H1
      by_cases c14 : x9_1.length < 5864062014805
      ·rw [if_pos c14] at H
       have LMc14 := Aside0.mk c14
       clear c14
       obtain ⟨y339, hy339⟩ : ∃ y_ : List (S56), y_ = (x9_1 ++ [(⟨wrap64 ((wrap64 (x10_1 + 1)) + (wrap64 (Int.tmod (IntKind.u64.wrap ((rd_T56 l0 x11_1).f0)) 500))), wrap64 ((wrap64 (Int.tmod (IntKind.u64.wrap ((rd_T56 l0 x11_1).f1)) 1000000)) - 500000), (x11_1 == 0)⟩ : S56)]) := ⟨_, rfl⟩
       replace H : (Qak.l0 k1 l0 (wrap64 (1 + (wrap64 (Int.tmod (IntKind.u64.wrap (a1)) 1000)))) (wrap64 ((wrap64 (2 * (wrap64 (1 + (wrap64 (Int.tmod (IntKind.u64.wrap (a1)) 1000)))))) * (wrap64 ((wrap64 (Int.tmod (IntKind.u64.wrap (a2)) 1000)) - 500)))) y339 (wrap64 ((wrap64 (x10_1 + 1)) + (wrap64 (Int.tmod (IntKind.u64.wrap ((rd_T56 l0 x11_1).f0)) 500)))) (wrap64 (x11_1 + 1))) = some (r1, r2, r3) := by first | (rw [hy339]; with_reducible exact H) | (have H2_ := (Option.bind_some _ _).symm.trans H; rw [hy339]; with_reducible exact H2_) | (have H2_ := (Option.bind_some _ _).symm.trans H; with_reducible exact H2_) | with_reducible exact H | (rw [hy339]; exact H) | exact H
       have Ny339 := Aside0.mk hy339
       clear hy339
       have H' := Aside0.mk H
       clear H
       have p333 : 0 ≤ (x11_1 : Int) := Ze
       have q333 : x11_1 < (l0.length : Int) := Ze
       obtain ⟨ad333, e333, hx333_0, hx333_1, hx333_2⟩ := at_T56 HR0.out x11_1 p333 q333
       (try rw [← Nbq9.out] at hx333_2); (try rw [← Nbq9.out] at hw333_2)
       cases e333
       replace hx333_0 := Zx HB.out hx333_0
       replace hx333_1 := Zx HB.out hx333_1
       replace hx333_2 := Zx HB.out hx333_2
       replace p333 := eq_true p333
       replace q333 := eq_true q333
       try go_wp2
       replace HO_9 := Aside0.mk (Kd.R_drew HO_9.out)
       replace HB := Aside0.mk (Qac HB.out)
       have p334 : 0 ≤ (x11_1 : Int) := Ze
       have q334 : x11_1 < (l0.length : Int) := Ze
       obtain ⟨ad334, e334, hx334_0, hx334_1, hx334_2⟩ := at_T56 HR0.out x11_1 p334 q334
       have hw334_2 := hx334_2
       have hw334_1 := hx334_1
       have hw334_0 := hx334_0
       (try rw [← Nbq9.out] at hx334_2); (try rw [← Nbq9.out] at hw334_2)
       obtain rfl : ad333 = ad334 := (by injection e334)
       replace hx334_0 := Zx HB.out hx334_0
       replace hx334_1 := Zx HB.out hx334_1
       replace hx334_2 := Zx HB.out hx334_2
       replace p334 := eq_true p334
       replace q334 := eq_true q334
       have p335 : 0 ≤ (x11_1 : Int) := Ze
       have q335 : x11_1 < (l0.length : Int) := Ze
       obtain ⟨ad335, e335, hx335_0, hx335_1, hx335_2⟩ := at_T56 HR0.out x11_1 p335 q335
       have hw335_2 := hx335_2
       have hw335_1 := hx335_1
       have hw335_0 := hx335_0
       (try rw [← Nbq9.out] at hx335_2); (try rw [← Nbq9.out] at hw335_2)
       obtain rfl : ad333 = ad335 := (by injection e335)
       replace hx335_0 := Zx HB.out hx335_0
       replace hx335_1 := Zx HB.out hx335_1
       replace hx335_2 := Zx HB.out hx335_2
       replace p335 := eq_true p335
       replace q335 := eq_true q335
       refine start_ (n := 24) (S := fun w' => w'.cell? (ad333.add ((x11_1).toNat * 3)) = some (.int .i64 ((rd_T56 l0 x11_1).f0)) ∧ w'.cell? ⟨(ad333.add ((x11_1).toNat * 3)).block, (ad333.add ((x11_1).toNat * 3)).off + 1, none⟩ = some (.int .i64 ((rd_T56 l0 x11_1).f1)) ∧ w'.cell? ⟨(ad333.add ((x11_1).toNat * 3)).block, (ad333.add ((x11_1).toNat * 3)).off + 2, none⟩ = some (.bool F) ∧ w'.cell? (ad333.add ((x11_1).toNat * 3)) = some (.int .i64 ((rd_T56 l0 x11_1).f0)) ∧ w'.cell? ⟨(ad333.add ((x11_1).toNat * 3)).block, (ad333.add ((x11_1).toNat * 3)).off + 1, none⟩ = some (.int .i64 ((rd_T56 l0 x11_1).f1)) ∧ w'.cell? ⟨(ad333.add ((x11_1).toNat * 3)).block, (ad333.add ((x11_1).toNat * 3)).off + 2, none⟩ = some (.bool F)) (ds := []) #[F, F, F, F, F, F, F, F, F, F, F, F, F, F, F, F, F, F, F, F, F, F, F, F] (by kernel_rfl) rfl rfl ⟨((HB.out.cell (World.block_lt_of_cell? w _ hw334_0)).trans hw334_0), ((HB.out.cell (World.block_lt_of_cell? w _ hw334_1)).trans hw334_1), ((HB.out.cell (World.block_lt_of_cell? w _ hw334_2)).trans hw334_2), ((HB.out.cell (World.block_lt_of_cell? w _ hw335_0)).trans hw335_0), ((HB.out.cell (World.block_lt_of_cell? w _ hw335_1)).trans hw335_1), ((HB.out.cell (World.block_lt_of_cell? w _ hw335_2)).trans hw335_2)⟩ (fun hHeld => ?_); refine Qb2 Qak.tab9 Qak.bits9 (fun HT_ HW_ => ?_)
       generalize wr.drew = w15 at HO_9 HB hx334_0 hx334_1 hx334_2 hx335_0 hx335_1 hx335_2 hHeld ⊢
       refine pure_ (i := 0) (N := some 47) (v := ?_) (a' := ?_) #[T, F, F, F, F, F, F, F, F, F, F, F, F, F, F, F, F, F, F, F, F, F, F, F] rfl rfl (any_of HT_.out (by kernel_rfl)) (fun _ _ _ h => h) (Or.inl ⟨by rfl, ?_⟩) ?_ ?_
       rotate_left
       ·intro w'
        go_simp
        with_reducible rfl
       rotate_left
       ·simp only [Act.put, Zj, Zk, Zm, i64_w, i32_w]
        rfl
       refine pure_ (i := 1) (N := some 48) (v := ?_) (a' := ?_) #[T, T, F, F, F, F, F, F, F, F, F, F, F, F, F, F, F, F, F, F, F, F, F, F] rfl rfl (any_of HT_.out (by kernel_rfl)) (fun _ _ _ h => h) (Or.inl ⟨by rfl, ?_⟩) ?_ ?_
       rotate_left
       ·intro w'
        go_simp
        with_reducible rfl
       rotate_left
       ·simp only [Act.put, Zj, Zk, Zm, i64_w, i32_w]
        rfl
       refine pure_ (i := 2) (N := some 49) (v := ?_) (a' := ?_) #[T, T, T, F, F, F, F, F, F, F, F, F, F, F, F, F, F, F, F, F, F, F, F, F] rfl rfl (any_of HT_.out (by kernel_rfl)) (fun _ _ _ h => h) (Or.inl ⟨by rfl, ?_⟩) ?_ ?_
       rotate_left
       ·intro w'
        go_simp
        with_reducible rfl
       rotate_left
       ·simp only [Act.put, Zj, Zk, Zm, i64_w, i32_w]
        rfl
       refine pure_ (i := 3) (N := some 50) (v := ?_) (a' := ?_) #[T, T, T, T, F, F, F, F, F, F, F, F, F, F, F, F, F, F, F, F, F, F, F, F] rfl rfl (any_of HT_.out (by kernel_rfl)) (fun _ _ _ h => h) (Or.inl ⟨by rfl, ?_⟩) ?_ ?_
       rotate_left
       ·intro w'
        go_simp
        with_reducible rfl
       rotate_left
       ·simp only [Act.put, Zj, Zk, Zm, i64_w, i32_w]
        rfl
       refine pure_ (i := 4) (N := some 51) (v := ?_) (a' := ?_) #[T, T, T, T, T, F, F, F, F, F, F, F, F, F, F, F, F, F, F, F, F, F, F, F] rfl rfl (any_of HT_.out (by kernel_rfl)) (fun _ _ _ h => h) (Or.inl ⟨by rfl, ?_⟩) ?_ ?_
       rotate_left
       ·intro w'
        go_simp
        with_reducible rfl
       rotate_left
       ·simp only [Act.put, Zj, Zk, Zm, i64_w, i32_w]
        rfl
       refine pure_ (i := 5) (N := some 52) (v := ?_) (a' := ?_) #[T, T, T, T, T, T, F, F, F, F, F, F, F, F, F, F, F, F, F, F, F, F, F, F] rfl rfl (any_of HT_.out (by kernel_rfl)) (fun _ _ _ h => h) (Or.inl ⟨by rfl, ?_⟩) ?_ ?_
       rotate_left
       ·intro w'
        go_simp
        with_reducible rfl
       rotate_left
       ·simp only [Act.put, Zj, Zk, Zm, i64_w, i32_w]
        rfl
       refine pure_ (i := 11) (N := some 58) (v := ?_) (a' := ?_) #[T, T, T, T, T, T, F, F, F, F, F, T, F, F, F, F, F, F, F, F, F, F, F, F] rfl rfl (any_of HT_.out (by kernel_rfl)) (fun _ _ _ h => h) (Or.inl ⟨by rfl, ?_⟩) ?_ ?_
       rotate_left
       ·intro w'
        go_simp
        with_reducible rfl
       rotate_left
       ·simp only [Act.put, Zj, Zk, Zm, i64_w, i32_w]
        rfl
       refine pure_ (i := 12) (N := some 59) (v := ?_) (a' := ?_) #[T, T, T, T, T, T, F, F, F, F, F, T, T, F, F, F, F, F, F, F, F, F, F, F] rfl rfl (any_of HT_.out (by kernel_rfl)) (fun _ _ _ h => h) (Or.inl ⟨by rfl, ?_⟩) ?_ ?_
       rotate_left
       ·intro w'
        go_simp
        with_reducible rfl
       rotate_left
       ·simp only [Act.put, Zj, Zk, Zm, i64_w, i32_w]
        rfl
       refine pure_ (i := 13) (N := some 60) (v := ?_) (a' := ?_) #[T, T, T, T, T, T, F, F, F, F, F, T, T, T, F, F, F, F, F, F, F, F, F, F] rfl rfl (any_of HT_.out (by kernel_rfl)) (fun _ _ _ h => h) (Or.inl ⟨by rfl, ?_⟩) ?_ ?_
       rotate_left
       ·intro w'
        go_simp
        with_reducible rfl
       rotate_left
       ·simp only [Act.put, Zj, Zk, Zm, i64_w, i32_w]
        rfl
       refine pure_ (i := 14) (N := some 61) (v := ?_) (a' := ?_) #[T, T, T, T, T, T, F, F, F, F, F, T, T, T, T, F, F, F, F, F, F, F, F, F] rfl rfl (any_of HT_.out (by kernel_rfl)) (fun _ _ _ h => h) (Or.inl ⟨by rfl, ?_⟩) ?_ ?_
       rotate_left
       ·intro w'
        go_simp
        with_reducible rfl
       rotate_left
       ·simp only [Act.put, Zj, Zk, Zm, i64_w, i32_w]
        rfl
       refine take_ (i := 6) (N := some 53) (v := ?_) (a' := ?_) #[T, T, T, T, T, T, T, F, F, F, F, T, T, T, T, F, F, F, F, F, F, F, F, F] rfl rfl (Qbu HT_.out HW_.out (by kernel_rfl)) (fun _ _ _ h => h) (Or.inl ⟨by rfl, ?_⟩) hHeld ?_ ?_
       rotate_left
       ·rintro w' ⟨s0, s1, s2, s3, s4, s5⟩
        go_simp
        with_reducible rfl
       rotate_left
       ·simp only [Act.put, Zj, Zk, Zm, i64_w, i32_w]
        rfl
       refine pure_ (i := 7) (N := some 54) (v := ?_) (a' := ?_) #[T, T, T, T, T, T, T, T, F, F, F, T, T, T, T, F, F, F, F, F, F, F, F, F] rfl rfl (any_of HT_.out (by kernel_rfl)) (fun _ _ _ h => h) (Or.inl ⟨by rfl, ?_⟩) ?_ ?_
       rotate_left
       ·intro w'
        go_simp
        with_reducible rfl
       rotate_left
       ·simp only [Act.put, Zj, Zk, Zm, i64_w, i32_w]
        rfl
       refine pure_ (i := 8) (N := some 55) (v := ?_) (a' := ?_) #[T, T, T, T, T, T, T, T, T, F, F, T, T, T, T, F, F, F, F, F, F, F, F, F] rfl rfl (any_of HT_.out (by kernel_rfl)) (fun _ _ _ h => h) (Or.inl ⟨by rfl, ?_⟩) ?_ ?_
       rotate_left
       ·intro w'
        go_simp
        with_reducible rfl
       rotate_left
       ·simp only [Act.put, Zj, Zk, Zm, i64_w, i32_w]
        rfl
       refine pure_ (i := 9) (N := some 56) (v := ?_) (a' := ?_) #[T, T, T, T, T, T, T, T, T, T, F, T, T, T, T, F, F, F, F, F, F, F, F, F] rfl rfl (any_of HT_.out (by kernel_rfl)) (fun _ _ _ h => h) (Or.inl ⟨by rfl, ?_⟩) ?_ ?_
       rotate_left
       ·intro w'
        go_simp
        with_reducible rfl
       rotate_left
       ·simp only [Act.put, Zj, Zk, Zm, i64_w, i32_w]
        rfl
       refine pure_ (i := 10) (N := some 57) (v := ?_) (a' := ?_) #[T, T, T, T, T, T, T, T, T, T, T, T, T, T, T, F, F, F, F, F, F, F, F, F] rfl rfl (any_of HT_.out (by kernel_rfl)) (fun _ _ _ h => h) (Or.inl ⟨by rfl, ?_⟩) ?_ ?_
       rotate_left
       ·intro w'
        go_simp
        with_reducible rfl
       rotate_left
       ·simp only [Act.put, Zj, Zk, Zm, i64_w, i32_w]
        rfl
       refine take_ (i := 15) (N := some 62) (v := ?_) (a' := ?_) #[T, T, T, T, T, T, T, T, T, T, T, T, T, T, T, T, F, F, F, F, F, F, F, F] rfl rfl (Qbu HT_.out HW_.out (by kernel_rfl)) (fun _ _ _ h => h) (Or.inl ⟨by rfl, ?_⟩) hHeld ?_ ?_
       rotate_left
       ·rintro w' ⟨s0, s1, s2, s3, s4, s5⟩
        go_simp
        with_reducible rfl
       rotate_left
       ·simp only [Act.put, Zj, Zk, Zm, i64_w, i32_w]
        rfl
       refine pure_ (i := 16) (N := some 63) (v := ?_) (a' := ?_) #[T, T, T, T, T, T, T, T, T, T, T, T, T, T, T, T, T, F, F, F, F, F, F, F] rfl rfl (any_of HT_.out (by kernel_rfl)) (fun _ _ _ h => h) (Or.inl ⟨by rfl, ?_⟩) ?_ ?_
       rotate_left
       ·intro w'
        go_simp
        with_reducible rfl
       rotate_left
       ·simp only [Act.put, Zj, Zk, Zm, i64_w, i32_w]
        rfl
       refine pure_ (i := 17) (N := some 64) (v := ?_) (a' := ?_) #[T, T, T, T, T, T, T, T, T, T, T, T, T, T, T, T, T, T, F, F, F, F, F, F] rfl rfl (any_of HT_.out (by kernel_rfl)) (fun _ _ _ h => h) (Or.inl ⟨by rfl, ?_⟩) ?_ ?_
       rotate_left
       ·intro w'
        go_simp
        with_reducible rfl
       rotate_left
       ·simp only [Act.put, Zj, Zk, Zm, i64_w, i32_w]
        rfl
       refine pure_ (i := 18) (N := some 65) (v := ?_) (a' := ?_) #[T, T, T, T, T, T, T, T, T, T, T, T, T, T, T, T, T, T, T, F, F, F, F, F] rfl rfl (any_of HT_.out (by kernel_rfl)) (fun _ _ _ h => h) (Or.inl ⟨by rfl, ?_⟩) ?_ ?_
       rotate_left
       ·intro w'
        go_simp
        with_reducible rfl
       rotate_left
       ·simp only [Act.put, Zj, Zk, Zm, i64_w, i32_w]
        rfl
       refine pure_ (i := 19) (N := some 66) (v := ?_) (a' := ?_) #[T, T, T, T, T, T, T, T, T, T, T, T, T, T, T, T, T, T, T, T, F, F, F, F] rfl rfl (any_of HT_.out (by kernel_rfl)) (fun _ _ _ h => h) (Or.inl ⟨by rfl, ?_⟩) ?_ ?_
       rotate_left
       ·intro w'
        go_simp
        with_reducible rfl
       rotate_left
       ·simp only [Act.put, Zj, Zk, Zm, i64_w, i32_w]
        rfl
       refine pure_ (i := 20) (N := some 67) (v := ?_) (a' := ?_) #[T, T, T, T, T, T, T, T, T, T, T, T, T, T, T, T, T, T, T, T, T, F, F, F] rfl rfl (any_of HT_.out (by kernel_rfl)) (fun _ _ _ h => h) (Or.inl ⟨by rfl, ?_⟩) ?_ ?_
       rotate_left
       ·intro w'
        go_simp
        with_reducible rfl
       rotate_left
       ·simp only [Act.put, Zj, Zk, Zm, i64_w, i32_w]
        rfl
       refine one_ (i := 21) (N := some 68) #[T, T, T, T, T, T, T, T, T, T, T, T, T, T, T, T, T, T, T, T, T, T, F, F] rfl rfl (one_of HT_.out (by kernel_rfl)) (by decide) (fun K hK => ?_)
       refine value_ (w1 := ?_) (v := ?_) (by rfl) rfl ?_ ?_
       rotate_left 2
       ·go_simp
        constructor
        ·rfl
        rfl
       refine hK.out _ _ ⟨(World.cell?_alloc_lt _ _ _ (World.block_lt_of_cell? _ _ (((HB.out.cell (World.block_lt_of_cell? w _ hw334_0)).trans hw334_0)))).trans (((HB.out.cell (World.block_lt_of_cell? w _ hw334_0)).trans hw334_0)), (World.cell?_alloc_lt _ _ _ (World.block_lt_of_cell? _ _ (((HB.out.cell (World.block_lt_of_cell? w _ hw334_1)).trans hw334_1)))).trans (((HB.out.cell (World.block_lt_of_cell? w _ hw334_1)).trans hw334_1)), (World.cell?_alloc_lt _ _ _ (World.block_lt_of_cell? _ _ (((HB.out.cell (World.block_lt_of_cell? w _ hw334_2)).trans hw334_2)))).trans (((HB.out.cell (World.block_lt_of_cell? w _ hw334_2)).trans hw334_2)), (World.cell?_alloc_lt _ _ _ (World.block_lt_of_cell? _ _ (((HB.out.cell (World.block_lt_of_cell? w _ hw335_0)).trans hw335_0)))).trans (((HB.out.cell (World.block_lt_of_cell? w _ hw335_0)).trans hw335_0)), (World.cell?_alloc_lt _ _ _ (World.block_lt_of_cell? _ _ (((HB.out.cell (World.block_lt_of_cell? w _ hw335_1)).trans hw335_1)))).trans (((HB.out.cell (World.block_lt_of_cell? w _ hw335_1)).trans hw335_1)), (World.cell?_alloc_lt _ _ _ (World.block_lt_of_cell? _ _ (((HB.out.cell (World.block_lt_of_cell? w _ hw335_2)).trans hw335_2)))).trans (((HB.out.cell (World.block_lt_of_cell? w _ hw335_2)).trans hw335_2))⟩ (fun hHeld => ?_)
       clear hK K
       refine norm_ (a' := ?_) ?_ ?_
       rotate_left
       ·show Act.put _ (some 68) _ = _
        simp only [Act.put, Zj, Zk, Zm, i64_w, i32_w]
        rfl
       refine one_ (i := 22) (N := some 69) #[T, T, T, T, T, T, T, T, T, T, T, T, T, T, T, T, T, T, T, T, T, T, T, F] rfl rfl (one_of HT_.out (by kernel_rfl)) (by decide) (fun K hK => ?_)
       refine Kd.R_append_step k56 (w0 := w) w.heap.size (by rfl) (.tmp 47) (.tmp 68) 48 56 (.agg #[(.int .i64 0), (.int .i64 0), (.bool F)]) 24 rfl Try.underlying48 info56 rfl (by decide) (by omega) u9 x9_1 (⟨wrap64 ((wrap64 (x10_1 + 1)) + (wrap64 (Int.tmod (IntKind.u64.wrap ((rd_T56 l0 x11_1).f0)) 500))), wrap64 ((wrap64 (Int.tmod (IntKind.u64.wrap ((rd_T56 l0 x11_1).f1)) 1000000)) - 500000), (x11_1 == 0)⟩ : S56) [.int .i64 (wrap64 ((wrap64 (x10_1 + 1)) + (wrap64 (Int.tmod (IntKind.u64.wrap ((rd_T56 l0 x11_1).f0)) 500)))), .int .i64 (wrap64 ((wrap64 (Int.tmod (IntKind.u64.wrap ((rd_T56 l0 x11_1).f1)) 1000000)) - 500000)), .bool (x11_1 == 0)] (fun _ => True) (fun _ => False) rfl rfl ?aP (fun _ hk => hk.elim) ?aF ?aO ?aB ?aS ?aL ?_
       (case aP => exact Qa9 _ _ _ (⟨wrap64 ((wrap64 (x10_1 + 1)) + (wrap64 (Int.tmod (IntKind.u64.wrap ((rd_T56 l0 x11_1).f0)) 500))), wrap64 ((wrap64 (Int.tmod (IntKind.u64.wrap ((rd_T56 l0 x11_1).f1)) 1000000)) - 500000), (x11_1 == 0)⟩ : S56))
       (case aB => exact (Zb))
       (case aF => exact (fun _ _ => trivial))
       (case aO => exact (Zr HO_9.out))
       (case aS => exact (Qay (Zb)))
       (case aL => have := LMc14.out; omega)
       intro v340 w16 ho hb hg hat
       rw [← Ny339.out] at ho
       have HO341 := Aside0.mk (ho)
       replace HB := Aside0.mk (hb)
       clear HO_9
       clear ho hb hg hat
       refine hK.out _ _ ⟨((HB.out.cell (World.block_lt_of_cell? w _ hw334_0)).trans hw334_0), ((HB.out.cell (World.block_lt_of_cell? w _ hw334_1)).trans hw334_1), ((HB.out.cell (World.block_lt_of_cell? w _ hw334_2)).trans hw334_2), ((HB.out.cell (World.block_lt_of_cell? w _ hw335_0)).trans hw335_0), ((HB.out.cell (World.block_lt_of_cell? w _ hw335_1)).trans hw335_1), ((HB.out.cell (World.block_lt_of_cell? w _ hw335_2)).trans hw335_2)⟩ (fun hHeld => ?_)
       clear hK K
       refine norm_ (a' := ?_) ?_ ?_
       rotate_left
       ·show Act.put _ (some 69) _ = _
        simp only [Act.put, Zj, Zk, Zm, i64_w, i32_w]
        rfl
       refine pure_ (i := 23) (N := some 9) (v := ?_) (a' := ?_) #[T, T, T, T, T, T, T, T, T, T, T, T, T, T, T, T, T, T, T, T, T, T, T, T] rfl rfl (any_of HT_.out (by kernel_rfl)) (fun _ _ _ h => h) (Or.inl ⟨by rfl, ?_⟩) ?_ ?_
       rotate_left
       ·intro w'
        go_simp
        with_reducible rfl
       rotate_left
       ·simp only [Act.put, Zj, Zk, Zm, i64_w, i32_w]
        rfl
       refine done_ (Qcu HT_.out (by kernel_rfl)) ?_
       try go_wp2
       go_roundg k1
       case measure => have := HK1.out; omega
       case rel => exact ⟨(y339), (wrap64 ((wrap64 (x10_1 + 1)) + (wrap64 (Int.tmod (IntKind.u64.wrap ((rd_T56 l0 x11_1).f0)) 500)))), (wrap64 (x11_1 + 1)), (Zs), (Zs), H', ⟨by have := HK1.out; omega⟩, ⟨Zr HO341.out⟩, ⟨Zb⟩⟩
      rw [if_neg c14] at H
      exact absurd H (by simp)
     rw [if_neg c8] at H
     exact absurd H (by simp)
    rw [if_neg c7] at H
    have c7b0 : decide (x11_1 < 60) = F := decide_eq_false c7
    clear c7
    (try simp only [c7b0])
    obtain ⟨Ao17, co17, eo17⟩ := Kd.R_slice HO_9.out
    subst eo17
    go_upto_if 72 with (fail)
    by_cases c18 : (x9_1.length : Int) = 0
    ·rw [if_pos c18] at H
     have c18b0 : ((x9_1.length : Int) == 0) = T := beq_iff_eq.mpr c18
     have c18b1 : ((x9_1.length : Int) != 0) = F := bne_eq_false_iff_eq.mpr c18
     clear c18
     (try simp only [c18b0, c18b1])
     by_cases c19 : x9_1.length < 5864062014805
     ·rw [if_pos c19] at H
      have LMc19 := Aside0.mk c19
      clear c19
      obtain ⟨y342, hy342⟩ : ∃ y_ : List (S56), y_ = (x9_1 ++ [(⟨3, 7, T⟩ : S56)]) := ⟨_, rfl⟩
      replace H : (some (y342, (wrap64 (1 + (wrap64 (Int.tmod (IntKind.u64.wrap (a1)) 1000)))), (wrap64 ((wrap64 (2 * (wrap64 (1 + (wrap64 (Int.tmod (IntKind.u64.wrap (a1)) 1000)))))) * (wrap64 ((wrap64 (Int.tmod (IntKind.u64.wrap (a2)) 1000)) - 500)))))) = some (r1, r2, r3) := by first | (rw [hy342]; with_reducible exact H) | (have H2_ := (Option.bind_some _ _).symm.trans H; rw [hy342]; with_reducible exact H2_) | (have H2_ := (Option.bind_some _ _).symm.trans H; with_reducible exact H2_) | with_reducible exact H | (rw [hy342]; exact H) | exact H
      have Ny342 := Aside0.mk hy342
      clear hy342
      simp only [Option.some.injEq, Prod.mk.injEq] at H
      obtain ⟨rfl, rfl, rfl⟩ := H
      go_wp2_with (first | ((with_reducible refine Qa5 (b := .append) (xs := #[.tmp 73, .tmp 75]) rfl ?_); at_builtin; refine Kd.R_append k56 (w0 := w) w.heap.size rfl (.tmp 73) (.tmp 75) 48 56 (.agg #[(.int .i64 0), (.int .i64 0), (.bool F)]) 24 rfl Try.underlying48 info56 rfl (by decide) (by omega) (.slice Ao17 x9_1.length co17) x9_1 (⟨3, 7, T⟩ : S56) [.int .i64 3, .int .i64 7, .bool T] (fun _ => True) (fun _ => False) rfl rfl ?aP (fun _ hk => hk.elim) ?aF ?aO ?aB ?aS ?aL ?_; (case aP => exact Qa9 _ _ _ (⟨3, 7, T⟩ : S56)); (case aB => exact (Zb)); (case aF => exact (fun _ _ => trivial)); (case aO => exact (Zr HO_9.out)); (case aS => exact (Qay (Zb))); (case aL => have := LMc19.out; omega); intro v343 w20 ho hb hg hat; (first | rw [← Ny342.out] at ho | rw [Nbq9.out, ← Ny342.out] at ho); have HO344 := Aside0.mk (ho); replace HB := Aside0.mk (hb); clear HO_9; clear ho hb hg hat))
      go_ret3
      exact ⟨_, Zq, Zr HO344.out, Zb⟩
     rw [if_neg c19] at H
     exact absurd H (by simp)
    rw [if_neg c18] at H
    have c18b0 : ((x9_1.length : Int) == 0) = F := beq_eq_false_iff_ne.mpr c18
    have c18b1 : ((x9_1.length : Int) != 0) = T := bne_iff_ne.mpr c18
    have c18b2 : ¬ (x9_1 = []) := fun h_ => c18 (by rw [h_]; rfl)
    (try simp only [c18b0, c18b1, c18b2])
    simp only [Option.some.injEq, Prod.mk.injEq] at H
    obtain ⟨rfl, rfl, rfl⟩ := H
    go_wp2
    go_ret3
    exact ⟨_, Zq, Zr HO_9.out, Zb⟩
   rw [if_neg c6] at H
   have c6b0 : decide (x11_1 < (l0.length : Int)) = F := decide_eq_false c6
   clear c6
   obtain ⟨Ao21, co21, eo21⟩ := Kd.R_slice HO_9.out
   subst eo21
   go_upto_if 72 with (fail)
   by_cases c22 : (x9_1.length : Int) = 0
   ·rw [if_pos c22] at H
    have c22b0 : ((x9_1.length : Int) == 0) = T := beq_iff_eq.mpr c22
    have c22b1 : ((x9_1.length : Int) != 0) = F := bne_eq_false_iff_eq.mpr c22
    clear c22
    (try simp only [c22b0, c22b1])
    by_cases c23 : x9_1.length < 5864062014805
    ·rw [if_pos c23] at H
     have LMc23 := Aside0.mk c23
     clear c23
     obtain ⟨y345, hy345⟩ : ∃ y_ : List (S56), y_ = (x9_1 ++ [(⟨3, 7, T⟩ : S56)]) := ⟨_, rfl⟩
     replace H : (some (y345, (wrap64 (1 + (wrap64 (Int.tmod (IntKind.u64.wrap (a1)) 1000)))), (wrap64 ((wrap64 (2 * (wrap64 (1 + (wrap64 (Int.tmod (IntKind.u64.wrap (a1)) 1000)))))) * (wrap64 ((wrap64 (Int.tmod (IntKind.u64.wrap (a2)) 1000)) - 500)))))) = some (r1, r2, r3) := by first | (rw [hy345]; with_reducible exact H) | (have H2_ := (Option.bind_some _ _).symm.trans H; rw [hy345]; with_reducible exact H2_) | (have H2_ := (Option.bind_some _ _).symm.trans H; with_reducible exact H2_) | with_reducible exact H | (rw [hy345]; exact H) | exact H
     have Ny345 := Aside0.mk hy345
     clear hy345
     simp only [Option.some.injEq, Prod.mk.injEq] at H
     obtain ⟨rfl, rfl, rfl⟩ := H
     go_wp2_with (first | ((with_reducible refine Qa5 (b := .append) (xs := #[.tmp 73, .tmp 75]) rfl ?_); at_builtin; refine Kd.R_append k56 (w0 := w) w.heap.size rfl (.tmp 73) (.tmp 75) 48 56 (.agg #[(.int .i64 0), (.int .i64 0), (.bool F)]) 24 rfl Try.underlying48 info56 rfl (by decide) (by omega) (.slice Ao21 x9_1.length co21) x9_1 (⟨3, 7, T⟩ : S56) [.int .i64 3, .int .i64 7, .bool T] (fun _ => True) (fun _ => False) rfl rfl ?aP (fun _ hk => hk.elim) ?aF ?aO ?aB ?aS ?aL ?_; (case aP => exact Qa9 _ _ _ (⟨3, 7, T⟩ : S56)); (case aB => exact (Zb)); (case aF => exact (fun _ _ => trivial)); (case aO => exact (Zr HO_9.out)); (case aS => exact (Qay (Zb))); (case aL => have := LMc23.out; omega); intro v346 w24 ho hb hg hat; (first | rw [← Ny345.out] at ho | rw [Nbq9.out, ← Ny345.out] at ho); have HO347 := Aside0.mk (ho); replace HB := Aside0.mk (hb); clear HO_9; clear ho hb hg hat))
     go_ret3
     exact ⟨_, Zq, Zr HO347.out, Zb⟩
    rw [if_neg c23] at H
    exact absurd H (by simp)
   rw [if_neg c22] at H
   have c22b0 : ((x9_1.length : Int) == 0) = F := beq_eq_false_iff_ne.mpr c22
   have c22b1 : ((x9_1.length : Int) != 0) = T := bne_iff_ne.mpr c22
   have c22b2 : ¬ (x9_1 = []) := fun h_ => c22 (by rw [h_]; rfl)
   (try simp only [c22b0, c22b1, c22b2])
   simp only [Option.some.injEq, Prod.mk.injEq] at H
   obtain ⟨rfl, rfl, rfl⟩ := H
   go_wp2
   go_ret3
   exact ⟨_, Zq, Zr HO_9.out, Zb⟩
def contangolaw19_CurveMoves.f (k : Nat) (l0 : List (S56)) (a1 : Int) (a2_0 : Int) (a2_1 : Int) : Option (Bool) := (Qak.f k l0 a2_0 a2_1).bind fun bt448 => ((QaC.f k bt448.1 (wrap64 (Int.tmod (IntKind.u64.wrap (a1)) 73048)) bt448.2.1).bind fun bt453 => ((Qan.f k bt448.1 bt448.2.2 (-16777216) 16777216).bind fun bt455 => ((QaC.f k bt455.1 (wrap64 (Int.tmod (IntKind.u64.wrap (a1)) 73048)) bt448.2.1).bind fun bt459 => ((Qan.f k bt455.1 (wrap64 (-bt448.2.2)) (-16777216) 16777216).bind fun bt461 => (if bt453.2 = 0 then (if bt455.2 = 0 then (if bt459.2 = 0 then (if bt461.2 = 0 then (if bt459.1 = (wrap64 (bt453.1 + bt448.2.2)) then ((Qae.f k bt461.1 bt448.1).bind fun t465 => (if t465 = T then ((Qag.f k).bind fun t466 => (some t466)) else (none))) else (none)) else (none)) else (none)) else (none)) else (none))))))
theorem contangolaw19_CurveMoves.mono : ∀ a0 a1 a2 a3 k, LeO (contangolaw19_CurveMoves.f k a0 a1 a2 a3) (contangolaw19_CurveMoves.f (k + 1) a0 a1 a2 a3) := by
 intro a0 a1 a2 a3 k
 unfold contangolaw19_CurveMoves.f
 exact ZM5 Qak.mono Qag.mono Qae.mono QaC.mono Qan.mono
theorem contangolaw19_CurveMoves.calls (k : Nat) (A0 : Option Addr) (c0 : Nat) (l0 : List (S56)) (a1 : Int) (a2_0 : Int) (a2_1 : Int) (r : Bool) (w : World) (hr0 : Kd.C k56 w A0 l0.length l0) (hc0 : l0.length ≤ c0) (h : contangolaw19_CurveMoves.f k l0 a1 a2_0 a2_1 = some r) :
  Calls Try.prog 12 #[.slice A0 l0.length c0, .int .i64 a1, .agg #[.int .i64 a2_0, .int .i64 a2_1]] w fun e w' => e = .returned (.bool r) ∧ Below w.heap.size w w' := by
 have hu44 := Try.underlying44
 have hix44_0 : ∀ (x0_ x1_ : Value) (W : World), (Instr.index 44 (.agg #[x0_, x1_]) (.int .i64 0)).run Try.prog W = .ok x0_ W := fun _ _ _ => by kernel_rfl
 have hix44_1 : ∀ (x0_ x1_ : Value) (W : World), (Instr.index 44 (.agg #[x0_, x1_]) (.int .i64 1)).run Try.prog W = .ok x1_ W := fun _ _ _ => by kernel_rfl
 have HR0 := Aside0.mk hr0
 have HC0 := Aside0.mk hc0
 clear hr0 hc0
 have HB := Aside0.mk (Below.refl w.heap.size w)
 have H : ((Qak.f k l0 a2_0 a2_1).bind fun bt448 => ((QaC.f k bt448.1 (wrap64 (Int.tmod (IntKind.u64.wrap (a1)) 73048)) bt448.2.1).bind fun bt453 => ((Qan.f k bt448.1 bt448.2.2 (-16777216) 16777216).bind fun bt455 => ((QaC.f k bt455.1 (wrap64 (Int.tmod (IntKind.u64.wrap (a1)) 73048)) bt448.2.1).bind fun bt459 => ((Qan.f k bt455.1 (wrap64 (-bt448.2.2)) (-16777216) 16777216).bind fun bt461 => (if bt453.2 = 0 then (if bt455.2 = 0 then (if bt459.2 = 0 then (if bt461.2 = 0 then (if bt459.1 = (wrap64 (bt453.1 + bt448.2.2)) then ((Qae.f k bt461.1 bt448.1).bind fun t465 => (if t465 = T then ((Qag.f k).bind fun t466 => (some t466)) else (none))) else (none)) else (none)) else (none)) else (none)) else (none))))))) = some r := h
 clear h
 replace H := Option.bind_eq_some_iff.mp H
 obtain ⟨⟨t448, t449, t450⟩, A40, H⟩ := H
 replace H : ((QaC.f k t448 (wrap64 (Int.tmod (IntKind.u64.wrap (a1)) 73048)) t449).bind fun bt453 => ((Qan.f k t448 t450 (-16777216) 16777216).bind fun bt455 => ((QaC.f k bt455.1 (wrap64 (Int.tmod (IntKind.u64.wrap (a1)) 73048)) t449).bind fun bt459 => ((Qan.f k bt455.1 (wrap64 (-t450)) (-16777216) 16777216).bind fun bt461 => (if bt453.2 = 0 then (if bt455.2 = 0 then (if bt459.2 = 0 then (if bt461.2 = 0 then (if bt459.1 = (wrap64 (bt453.1 + t450)) then ((Qae.f k bt461.1 t448).bind fun t465 => (if t465 = T then ((Qag.f k).bind fun t466 => (some t466)) else (none))) else (none)) else (none)) else (none)) else (none)) else (none)))))) = some r := H
 have A4 := Aside0.mk A40
 clear A40
 replace H := Option.bind_eq_some_iff.mp H
 obtain ⟨⟨t453, t454⟩, A50, H⟩ := H
 replace H : ((Qan.f k t448 t450 (-16777216) 16777216).bind fun bt455 => ((QaC.f k bt455.1 (wrap64 (Int.tmod (IntKind.u64.wrap (a1)) 73048)) t449).bind fun bt459 => ((Qan.f k bt455.1 (wrap64 (-t450)) (-16777216) 16777216).bind fun bt461 => (if t454 = 0 then (if bt455.2 = 0 then (if bt459.2 = 0 then (if bt461.2 = 0 then (if bt459.1 = (wrap64 (t453 + t450)) then ((Qae.f k bt461.1 t448).bind fun t465 => (if t465 = T then ((Qag.f k).bind fun t466 => (some t466)) else (none))) else (none)) else (none)) else (none)) else (none)) else (none))))) = some r := H
 have A5 := Aside0.mk A50
 clear A50
 replace H := Option.bind_eq_some_iff.mp H
 obtain ⟨⟨t455, t456⟩, A60, H⟩ := H
 replace H : ((QaC.f k t455 (wrap64 (Int.tmod (IntKind.u64.wrap (a1)) 73048)) t449).bind fun bt459 => ((Qan.f k t455 (wrap64 (-t450)) (-16777216) 16777216).bind fun bt461 => (if t454 = 0 then (if t456 = 0 then (if bt459.2 = 0 then (if bt461.2 = 0 then (if bt459.1 = (wrap64 (t453 + t450)) then ((Qae.f k bt461.1 t448).bind fun t465 => (if t465 = T then ((Qag.f k).bind fun t466 => (some t466)) else (none))) else (none)) else (none)) else (none)) else (none)) else (none)))) = some r := H
 have A6 := Aside0.mk A60
 clear A60
 replace H := Option.bind_eq_some_iff.mp H
 obtain ⟨⟨t459, t460⟩, A70, H⟩ := H
 replace H : ((Qan.f k t455 (wrap64 (-t450)) (-16777216) 16777216).bind fun bt461 => (if t454 = 0 then (if t456 = 0 then (if t460 = 0 then (if bt461.2 = 0 then (if t459 = (wrap64 (t453 + t450)) then ((Qae.f k bt461.1 t448).bind fun t465 => (if t465 = T then ((Qag.f k).bind fun t466 => (some t466)) else (none))) else (none)) else (none)) else (none)) else (none)) else (none))) = some r := H
 have A7 := Aside0.mk A70
 clear A70
 replace H := Option.bind_eq_some_iff.mp H
 obtain ⟨⟨t461, t462⟩, A80, H⟩ := H
 replace H : (if t454 = 0 then (if t456 = 0 then (if t460 = 0 then (if t462 = 0 then (if t459 = (wrap64 (t453 + t450)) then ((Qae.f k t461 t448).bind fun t465 => (if t465 = T then ((Qag.f k).bind fun t466 => (some t466)) else (none))) else (none)) else (none)) else (none)) else (none)) else (none)) = some r := H
 have A8 := Aside0.mk A80
 clear A80
 go_enter Try.func12, Try.ntmps12
 go_upto_region 7 with (first | ((with_reducible refine QaZ (N := 5) rfl ?_); refine Zbx (N := 5) (cs := #[.int .i64 a2_0, .int .i64 a2_1]) (t := 44) ?_; intro gb447 hg w9 hbox hb; have BK447 := Aside0.mk (hbox); have GW447 := Aside0.mk (Zt w hg (Zb)); have GE447 := GW447; replace HB := Aside0.mk (Qat (Zb) hb); clear hb hbox hg; obtain ⟨hcz10_0, hfz10_0⟩ := Zy (v := (.int .i64 a2_0)) BK447.out 0; obtain ⟨hcz10_1, hfz10_1⟩ := Zy (v := (.int .i64 a2_1)) BK447.out 1) | ((with_reducible refine QaD (f := 34) rfl ?_); refine goesL_ (some 23) rfl rfl Try.func34 (by kernel_rfl) rfl #[.slice A0 l0.length c0, .int .i64 a2_0, .int .i64 a2_1] rfl (Zl) ?_; (with_reducible refine (Qak.calls k _ _ l0 a2_0 a2_1 t448 t449 t450 _ ?side1 ?side2 A4.out).mono ?_); (case side1 => exact Zv (Kd.C_below HR0.out HB.out)); (case side2 => exact HC0.out); rintro e w11 ⟨v451, rfl, ho0, hb⟩; refine ⟨_, rfl, ?_⟩; have HO452 := Aside0.mk (Kd.R_lower ho0 (Qay (Zc1 GE447.out))); replace BK447 := Aside0.mk (Zi BK447.out hb); replace HB := Aside0.mk (Qat (Zc1 GE447.out) hb); (try clear hb); (try clear hb2); (try clear hk); (try clear hi); (try clear ho0); obtain ⟨Ao12, co12, eo12⟩ := Kd.R_slice HO452.out; subst eo12) | ((with_reducible refine QaD (f := 29) rfl ?_); refine goesL_ (some 35) rfl rfl Try.func29 (by kernel_rfl) rfl #[.slice Ao12 t448.length co12, .int .i64 (wrap64 (Int.tmod (IntKind.u64.wrap (a1)) 73048)), .int .i64 t449] rfl (Zl) ?_; (with_reducible refine (QaC.calls k _ _ t448 (wrap64 (Int.tmod (IntKind.u64.wrap (a1)) 73048)) t449 t453 t454 _ ?side1 ?side2 A5.out).mono ?_); (case side1 => exact Zv (Kd.R_reads' HO452.out).2.2); (case side2 => exact (Kd.R_reads' HO452.out).2.1); rintro e w13 ⟨rfl, hb⟩; refine ⟨_, rfl, ?_⟩; replace HO452 := Aside0.mk (Kd.R_below (Zr HO452.out) hb); replace BK447 := Aside0.mk (Zi BK447.out hb); replace HB := Aside0.mk (Qat (Zc1 GE447.out) hb); (try clear hb); (try clear hb2); (try clear hk); (try clear hi)) | ((with_reducible refine QaD (f := 37) rfl ?_); refine goesL_ (some 41) rfl rfl Try.func37 (by kernel_rfl) rfl #[.slice Ao12 t448.length co12, .int .i64 t450, .int .i64 (-16777216), .int .i64 16777216] rfl (Zl) ?_; (with_reducible refine (Qan.calls k _ _ t448 t450 (-16777216) 16777216 t455 t456 _ ?side1 ?side2 A6.out).mono ?_); (case side1 => exact Zv (Kd.R_reads' HO452.out).2.2); (case side2 => exact (Kd.R_reads' HO452.out).2.1); rintro e w14 ⟨v457, rfl, ho0, hb⟩; refine ⟨_, rfl, ?_⟩; have HO458 := Aside0.mk (Kd.R_lower (Kd.R_new' ho0 (Kd.R_lt (Zr HO452.out))) (Qay (Zc1 GE447.out))); replace HO452 := Aside0.mk (Kd.R_elder' (Zr HO452.out) (Kd.R_base ho0) hb); replace BK447 := Aside0.mk (Zi BK447.out hb); replace HB := Aside0.mk (Qat (Zc1 GE447.out) hb); (try clear hb); (try clear hb2); (try clear hk); (try clear hi); (try clear ho0); obtain ⟨Ao15, co15, eo15⟩ := Kd.R_slice HO458.out; subst eo15) | ((with_reducible refine QaD (f := 29) rfl ?_); refine goesL_ (some 48) rfl rfl Try.func29 (by kernel_rfl) rfl #[.slice Ao15 t455.length co15, .int .i64 (wrap64 (Int.tmod (IntKind.u64.wrap (a1)) 73048)), .int .i64 t449] rfl (Zl) ?_; (with_reducible refine (QaC.calls k _ _ t455 (wrap64 (Int.tmod (IntKind.u64.wrap (a1)) 73048)) t449 t459 t460 _ ?side1 ?side2 A7.out).mono ?_); (case side1 => exact Zv (Kd.R_reads' HO458.out).2.2); (case side2 => exact (Kd.R_reads' HO458.out).2.1); rintro e w16 ⟨rfl, hb⟩; refine ⟨_, rfl, ?_⟩; replace HO452 := Aside0.mk (Kd.R_below (Zr HO452.out) hb); replace HO458 := Aside0.mk (Kd.R_below (Zr HO458.out) hb); replace BK447 := Aside0.mk (Zi BK447.out hb); replace HB := Aside0.mk (Qat (Zc1 GE447.out) hb); (try clear hb); (try clear hb2); (try clear hk); (try clear hi)) | ((with_reducible refine QaD (f := 37) rfl ?_); refine goesL_ (some 55) rfl rfl Try.func37 (by kernel_rfl) rfl #[.slice Ao15 t455.length co15, .int .i64 (wrap64 (-t450)), .int .i64 (-16777216), .int .i64 16777216] rfl (Zl) ?_; (with_reducible refine (Qan.calls k _ _ t455 (wrap64 (-t450)) (-16777216) 16777216 t461 t462 _ ?side1 ?side2 A8.out).mono ?_); (case side1 => exact Zv (Kd.R_reads' HO458.out).2.2); (case side2 => exact (Kd.R_reads' HO458.out).2.1); rintro e w17 ⟨v463, rfl, ho0, hb⟩; refine ⟨_, rfl, ?_⟩; have HO464 := Aside0.mk (Kd.R_lower (Kd.R_new' (Kd.R_new' ho0 (Kd.R_lt (Zr HO452.out))) (Kd.R_lt (Zr HO458.out))) (Qay (Zc1 GE447.out))); replace HO452 := Aside0.mk (Kd.R_elder' (Zr HO452.out) (Kd.R_base ho0) hb); replace HO458 := Aside0.mk (Kd.R_elder' (Zr HO458.out) (Kd.R_base ho0) hb); replace BK447 := Aside0.mk (Zi BK447.out hb); replace HB := Aside0.mk (Qat (Zc1 GE447.out) hb); (try clear hb); (try clear hb2); (try clear hk); (try clear hi); (try clear ho0)))
 (try simp only [Act.put, Zj, Zk, Zm])
 by_cases c18 : t454 = 0
 ·rw [if_pos c18] at H
  have c18b0 : (t454 == 0) = T := beq_iff_eq.mpr c18
  have c18b1 : (t454 != 0) = F := bne_eq_false_iff_eq.mpr c18
  clear c18
  (try simp only [c18b0, c18b1])
  by_cases c19 : t456 = 0
  ·rw [if_pos c19] at H
   have c19b0 : (t456 == 0) = T := beq_iff_eq.mpr c19
   have c19b1 : (t456 != 0) = F := bne_eq_false_iff_eq.mpr c19
   clear c19
   by_cases c20 : t460 = 0
   ·rw [if_pos c20] at H
    have c20b0 : (t460 == 0) = T := beq_iff_eq.mpr c20
    have c20b1 : (t460 != 0) = F := bne_eq_false_iff_eq.mpr c20
    clear c20
    by_cases c21 : t462 = 0
    ·rw [if_pos c21] at H
     have c21b0 : (t462 == 0) = T := beq_iff_eq.mpr c21
     have c21b1 : (t462 != 0) = F := bne_eq_false_iff_eq.mpr c21
     clear c21
     by_cases c22 : t459 = (wrap64 (t453 + t450))
     ·rw [if_pos c22] at H
      have c22b0 : (t459 == (wrap64 (t453 + t450))) = T := beq_iff_eq.mpr c22
      have c22b1 : (t459 != (wrap64 (t453 + t450))) = F := bne_eq_false_iff_eq.mpr c22
      clear c22
      replace H := Option.bind_eq_some_iff.mp H
      obtain ⟨t465, A230, H⟩ := H
      replace H : (if t465 = T then ((Qag.f k).bind fun t466 => (some t466)) else (none)) = some r := H
      have A23 := Aside0.mk A230
      clear A230
      by_cases c24 : t465 = T
      ·subst c24
       have H1 : ((Qag.f k).bind fun t466 => (some t466)) = some r := by rw [if_pos rfl] at H; exact H
       clear H
       have H := H1
       clear H1
       replace H := Option.bind_eq_some_iff.mp H
       obtain ⟨t466, A250, H⟩ := H
       replace H : (some t466) = some r := H
       have A25 := Aside0.mk A250
       clear A250
       obtain rfl := Option.some.inj H
       obtain ⟨Ao26, co26, eo26⟩ := Kd.R_slice HO464.out
       subst eo26
       go_wp2_with (first | (go_at_call 33; (with_reducible refine (Qae.calls k _ _ t461 _ _ t448 T _ ?side1 ?side2 ?side3 ?side4 A23.out).mono ?_); (case side1 => exact Zv (Kd.R_reads' HO464.out).2.2); (case side2 => exact (Kd.R_reads' HO464.out).2.1); (case side3 => exact Zv (Kd.R_reads' HO452.out).2.2); (case side4 => exact (Kd.R_reads' HO452.out).2.1); rintro e w' ⟨rfl, ⟨nd, rfl⟩⟩) | (go_at_call 28; (with_reducible refine (Qag.calls k  t466 _ A25.out).mono ?_); rintro e w27 ⟨rfl, hb⟩; replace HO452 := Aside0.mk (Kd.R_below (Zr HO452.out) hb); replace HO458 := Aside0.mk (Kd.R_below (Zr HO458.out) hb); replace HO464 := Aside0.mk (Kd.R_below (Zr HO464.out) hb); replace BK447 := Aside0.mk (Zi BK447.out hb); replace HB := Aside0.mk (Qat (Zc1 GE447.out) hb); (try clear hb); (try clear hb2); (try clear hk); (try clear hi)))
       go_ret
       exact ⟨Zq, Zc1 GE447.out⟩
      replace c24 := Bool.eq_false_iff.mpr c24
      subst c24
      have H1 : (none) = some r := by rw [if_neg (show ¬ (F = T) by decide)] at H; exact H
      clear H
      have H := H1
      clear H1
      exact absurd H (by simp)
     rw [if_neg c22] at H
     exact absurd H (by simp)
    rw [if_neg c21] at H
    exact absurd H (by simp)
   rw [if_neg c20] at H
   exact absurd H (by simp)
  rw [if_neg c19] at H
  exact absurd H (by simp)
 rw [if_neg c18] at H
 exact absurd H (by simp)
end Go.Proofs.Ytaembbndjpebhaa.Pr
