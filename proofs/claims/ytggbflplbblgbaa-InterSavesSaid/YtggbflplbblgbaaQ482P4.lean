/- Functions' values and contracts, as the print wrote them. -/
import Derived.Test.YtggbflplbblgbaaQ482P0
import Derived.Test.YtggbflplbblgbaaQ482P1
import Derived.Test.YtggbflplbblgbaaQ482P2
import Derived.Test.YtggbflplbblgbaaQ482P3
namespace Go.Proofs.Ytggbflplbblgbaa.Pr
open Go.RowKit Go.Proofs.YtggbflplbblgbaaW.PrintWords Go.Proofs.YtggbflplbblgbaaW.PrintLast Go.Proofs.YtggbflplbblgbaaW.PrintMore
attribute [local go_sem] QaJ QaL QaR QaS QaE QaF QaK QaM   -- for this text's walks alone
set_option linter.unusedVariables false
set_option linter.unusedSimpArgs false
def contangolaw25_InterSaves.f (k : Nat) (l0_0 : List ByteArray) (l0_1 : List Int) (l0_2 : List Int) (l1 : List (S75)) : Option (Bool) := (Qag.f k l0_0 l0_1 l0_2 l1).bind fun bt907 => ((Qaa.f k l0_0 l0_1 l0_2 l1).bind fun bt914 => ((Qap.f k l1).bind fun t921 => ((Qaf.f k l1).bind fun t922 => (if t921 = t922 then ((Qad.f k bt907.1 bt914.1).bind fun t923 => (if t923 = true then ((Qad.f k bt907.2.1 bt914.2.1).bind fun t924 => (if t924 = true then (if bt907.2.2 = bt914.2.2 then ((QaA.f k).bind fun t925 => (some t925)) else (none)) else (none))) else (none))) else (none)))))
theorem contangolaw25_InterSaves.mono : ∀ a0 a1 a2 a3 k, LeO (contangolaw25_InterSaves.f k a0 a1 a2 a3) (contangolaw25_InterSaves.f (k + 1) a0 a1 a2 a3) := by
 intro a0 a1 a2 a3 k
 unfold contangolaw25_InterSaves.f
 exact ZM6 QaA.mono Qaf.mono Qad.mono Qaa.mono Qap.mono Qag.mono
set_option maxHeartbeats 8000000 in
set_option maxRecDepth 100000 in
theorem contangolaw25_InterSaves.calls (k : Nat) (A0_0 : Option Addr) (c0_0 : Nat) (l0_0 : List ByteArray) (A0_1 : Option Addr) (c0_1 : Nat) (l0_1 : List Int) (A0_2 : Option Addr) (c0_2 : Nat) (l0_2 : List Int) (A1 : Option Addr) (c1 : Nat) (l1 : List (S75)) (r : Bool) (w : World) (hr0_0 : Kd.C Kd.string w A0_0 l0_0.length l0_0) (hc0_0 : l0_0.length ≤ c0_0) (hr0_1 : Kd.C (Kd.int .i64) w A0_1 l0_1.length l0_1) (hc0_1 : l0_1.length ≤ c0_1) (hr0_2 : Kd.C (Kd.int .i64) w A0_2 l0_2.length l0_2) (hc0_2 : l0_2.length ≤ c0_2) (hr1 : Kd.C k75 w A1 l1.length l1) (hc1 : l1.length ≤ c1) (h : contangolaw25_InterSaves.f k l0_0 l0_1 l0_2 l1 = some r) :
  Calls Try.prog 11 #[.agg #[.slice A0_0 l0_0.length c0_0, .slice A0_1 l0_1.length c0_1, .slice A0_2 l0_2.length c0_2], .slice A1 l1.length c1] w fun e w' => e = .returned (.bool r) ∧ Below w.heap.size w w' := by
 have hu67 := Try.underlying67
 have HR0_0 := Aside0.mk hr0_0
 have HC0_0 := Aside0.mk hc0_0
 clear hr0_0 hc0_0
 have HR0_1 := Aside0.mk hr0_1
 have HC0_1 := Aside0.mk hc0_1
 clear hr0_1 hc0_1
 have HR0_2 := Aside0.mk hr0_2
 have HC0_2 := Aside0.mk hc0_2
 clear hr0_2 hc0_2
 have HR1 := Aside0.mk hr1
 have HC1 := Aside0.mk hc1
 clear hr1 hc1
 have HB := Aside0.mk (Below.refl w.heap.size w)
 have H : ((Qag.f k l0_0 l0_1 l0_2 l1).bind fun bt907 => ((Qaa.f k l0_0 l0_1 l0_2 l1).bind fun bt914 => ((Qap.f k l1).bind fun t921 => ((Qaf.f k l1).bind fun t922 => (if t921 = t922 then ((Qad.f k bt907.1 bt914.1).bind fun t923 => (if t923 = true then ((Qad.f k bt907.2.1 bt914.2.1).bind fun t924 => (if t924 = true then (if bt907.2.2 = bt914.2.2 then ((QaA.f k).bind fun t925 => (some t925)) else (none)) else (none))) else (none))) else (none)))))) = some r := h
 clear h
 replace H := Option.bind_eq_some_iff.mp H
 obtain ⟨⟨t907, t908, t909⟩, A30, H⟩ := H
 replace H : ((Qaa.f k l0_0 l0_1 l0_2 l1).bind fun bt914 => ((Qap.f k l1).bind fun t921 => ((Qaf.f k l1).bind fun t922 => (if t921 = t922 then ((Qad.f k t907 bt914.1).bind fun t923 => (if t923 = true then ((Qad.f k t908 bt914.2.1).bind fun t924 => (if t924 = true then (if t909 = bt914.2.2 then ((QaA.f k).bind fun t925 => (some t925)) else (none)) else (none))) else (none))) else (none))))) = some r := H
 have A3 := Aside0.mk A30
 clear A30
 replace H := Option.bind_eq_some_iff.mp H
 obtain ⟨⟨t914, t915, t916⟩, A40, H⟩ := H
 replace H : ((Qap.f k l1).bind fun t921 => ((Qaf.f k l1).bind fun t922 => (if t921 = t922 then ((Qad.f k t907 t914).bind fun t923 => (if t923 = true then ((Qad.f k t908 t915).bind fun t924 => (if t924 = true then (if t909 = t916 then ((QaA.f k).bind fun t925 => (some t925)) else (none)) else (none))) else (none))) else (none)))) = some r := H
 have A4 := Aside0.mk A40
 clear A40
 go_enter Try.func11, Try.ntmps11
 go_upto_region 3 with (first | ((with_reducible refine QaI (N := 2) rfl ?_); refine Zbx (N := 2) (cs := #[.slice A0_0 l0_0.length c0_0, .slice A0_1 l0_1.length c0_1, .slice A0_2 l0_2.length c0_2]) (t := 67) ?_; intro gb906 hg w5 hbox hb; have BK906 := Aside0.mk (hbox); have GW906 := Aside0.mk (Zt w hg (Zb)); have GE906 := GW906; replace HB := Aside0.mk (Qao (Zb) hb); clear hb hbox hg; obtain ⟨hcz6_0, hfz6_0⟩ := Zy (v := (.slice A0_0 l0_0.length c0_0)) BK906.out 0; obtain ⟨hcz6_1, hfz6_1⟩ := Zy (v := (.slice A0_1 l0_1.length c0_1)) BK906.out 1; obtain ⟨hcz6_2, hfz6_2⟩ := Zy (v := (.slice A0_2 l0_2.length c0_2)) BK906.out 2) | ((with_reducible refine QaD (f := 42) rfl ?_); refine goesL_ (some 19) rfl rfl Try.func42 (by kernel_rfl) rfl #[.slice A0_0 l0_0.length c0_0, .slice A0_1 l0_1.length c0_1, .slice A0_2 l0_2.length c0_2, .slice A1 l1.length c1] rfl (Zl) ?_; (with_reducible refine (Qag.calls k _ _ l0_0 _ _ l0_1 _ _ l0_2 _ _ l1 t907 t908 t909 _ ?side1 ?side2 ?side3 ?side4 ?side5 ?side6 ?side7 ?side8 A3.out).mono ?_); (case side1 => exact Zv (Kd.C_below HR0_0.out HB.out)); (case side2 => exact HC0_0.out); (case side3 => exact Zv (Kd.C_below HR0_1.out HB.out)); (case side4 => exact HC0_1.out); (case side5 => exact Zv (Kd.C_below HR0_2.out HB.out)); (case side6 => exact HC0_2.out); (case side7 => exact Zv (Kd.C_below HR1.out HB.out)); (case side8 => exact HC1.out); rintro e w7 ⟨v910, v912, rfl, ho0, ho1, hb⟩; refine ⟨_, rfl, ?_⟩; have HO911 := Aside0.mk (Kd.R_lower ho0 (Qau (Zc1 GE906.out))); have HO913 := Aside0.mk (Kd.R_lower ho1 (Qau (Zc1 GE906.out))); replace BK906 := Aside0.mk (Zi BK906.out hb); replace HB := Aside0.mk (Qao (Zc1 GE906.out) hb); (try clear hb); (try clear hb2); (try clear hk); (try clear hi); (try clear ho0); (try clear ho1); obtain ⟨hcz8_0, hfz8_0⟩ := Zy (v := (.slice A0_0 l0_0.length c0_0)) BK906.out 0; obtain ⟨hcz8_1, hfz8_1⟩ := Zy (v := (.slice A0_1 l0_1.length c0_1)) BK906.out 1; obtain ⟨hcz8_2, hfz8_2⟩ := Zy (v := (.slice A0_2 l0_2.length c0_2)) BK906.out 2) | ((with_reducible refine QaD (f := 43) rfl ?_); refine goesL_ (some 31) rfl rfl Try.func43 (by kernel_rfl) rfl #[.slice A0_0 l0_0.length c0_0, .slice A0_1 l0_1.length c0_1, .slice A0_2 l0_2.length c0_2, .slice A1 l1.length c1] rfl (Zl) ?_; (with_reducible refine (Qaa.calls k _ _ l0_0 _ _ l0_1 _ _ l0_2 _ _ l1 t914 t915 t916 _ ?side1 ?side2 ?side3 ?side4 ?side5 ?side6 ?side7 ?side8 A4.out).mono ?_); (case side1 => exact Zv (Kd.C_below HR0_0.out HB.out)); (case side2 => exact HC0_0.out); (case side3 => exact Zv (Kd.C_below HR0_1.out HB.out)); (case side4 => exact HC0_1.out); (case side5 => exact Zv (Kd.C_below HR0_2.out HB.out)); (case side6 => exact HC0_2.out); (case side7 => exact Zv (Kd.C_below HR1.out HB.out)); (case side8 => exact HC1.out); rintro e w9 ⟨v917, v919, rfl, ho0, ho1, hb⟩; refine ⟨_, rfl, ?_⟩; have HO918 := Aside0.mk (Kd.R_lower (Kd.R_new' (Kd.R_new' ho0 (Kd.R_lt (Zr HO911.out))) (Kd.R_lt (Zr HO913.out))) (Qau (Zc1 GE906.out))); have HO920 := Aside0.mk (Kd.R_lower (Kd.R_new' (Kd.R_new' ho1 (Kd.R_lt (Zr HO911.out))) (Kd.R_lt (Zr HO913.out))) (Qau (Zc1 GE906.out))); replace HO911 := Aside0.mk (Kd.R_mono (Kd.R_told (Kd.R_told (Kd.R_old (Zr HO911.out) hb) (Kd.R_base ho0)) (Kd.R_base ho1)) (fun _ h_ => h_.1)); replace HO913 := Aside0.mk (Kd.R_mono (Kd.R_told (Kd.R_told (Kd.R_old (Zr HO913.out) hb) (Kd.R_base ho0)) (Kd.R_base ho1)) (fun _ h_ => h_.1)); replace BK906 := Aside0.mk (Zi BK906.out hb); replace HB := Aside0.mk (Qao (Zc1 GE906.out) hb); (try clear hb); (try clear hb2); (try clear hk); (try clear hi); (try clear ho0); (try clear ho1)))
 (try simp only [Act.put, Zj, Zk, Zm])
 replace H := Option.bind_eq_some_iff.mp H
 obtain ⟨t921, A100, H⟩ := H
 replace H : ((Qaf.f k l1).bind fun t922 => (if t921 = t922 then ((Qad.f k t907 t914).bind fun t923 => (if t923 = true then ((Qad.f k t908 t915).bind fun t924 => (if t924 = true then (if t909 = t916 then ((QaA.f k).bind fun t925 => (some t925)) else (none)) else (none))) else (none))) else (none))) = some r := H
 have A10 := Aside0.mk A100
 clear A100
 replace H := Option.bind_eq_some_iff.mp H
 obtain ⟨t922, A110, H⟩ := H
 replace H : (if t921 = t922 then ((Qad.f k t907 t914).bind fun t923 => (if t923 = true then ((Qad.f k t908 t915).bind fun t924 => (if t924 = true then (if t909 = t916 then ((QaA.f k).bind fun t925 => (some t925)) else (none)) else (none))) else (none))) else (none)) = some r := H
 have A11 := Aside0.mk A110
 clear A110
 by_cases c12 : t921 = t922
 ·rw [if_pos c12] at H
  have c12b0 : (t921 == t922) = true := beq_iff_eq.mpr c12
  have c12b1 : (t921 != t922) = false := bne_eq_false_iff_eq.mpr c12
  clear c12
  (try simp only [c12b0, c12b1])
  replace H := Option.bind_eq_some_iff.mp H
  obtain ⟨t923, A130, H⟩ := H
  replace H : (if t923 = true then ((Qad.f k t908 t915).bind fun t924 => (if t924 = true then (if t909 = t916 then ((QaA.f k).bind fun t925 => (some t925)) else (none)) else (none))) else (none)) = some r := H
  have A13 := Aside0.mk A130
  clear A130
  by_cases c14 : t923 = true
  ·subst c14
   have H1 : ((Qad.f k t908 t915).bind fun t924 => (if t924 = true then (if t909 = t916 then ((QaA.f k).bind fun t925 => (some t925)) else (none)) else (none))) = some r := by rw [if_pos rfl] at H; exact H
   clear H
   have H := H1
   clear H1
   replace H := Option.bind_eq_some_iff.mp H
   obtain ⟨t924, A150, H⟩ := H
   replace H : (if t924 = true then (if t909 = t916 then ((QaA.f k).bind fun t925 => (some t925)) else (none)) else (none)) = some r := H
   have A15 := Aside0.mk A150
   clear A150
   by_cases c16 : t924 = true
   ·subst c16
    have H1 : (if t909 = t916 then ((QaA.f k).bind fun t925 => (some t925)) else (none)) = some r := by rw [if_pos rfl] at H; exact H
    clear H
    have H := H1
    clear H1
    by_cases c17 : t909 = t916
    ·rw [if_pos c17] at H
     have c17b0 : (t909 == t916) = true := beq_iff_eq.mpr c17
     have c17b1 : (t909 != t916) = false := bne_eq_false_iff_eq.mpr c17
     clear c17
     replace H := Option.bind_eq_some_iff.mp H
     obtain ⟨t925, A180, H⟩ := H
     replace H : (some t925) = some r := H
     have A18 := Aside0.mk A180
     clear A180
     obtain rfl := Option.some.inj H
     go_wp2_with (first | ((with_reducible refine QaD (f := 44) rfl ?_); refine goesL_ (some 36) rfl rfl Try.func44 (by kernel_rfl) rfl #[.slice A1 l1.length c1] rfl (Zl) ?_; (with_reducible refine (Qap.calls k _ _ l1 t921 _ ?side1 ?side2 A10.out).mono ?_); (case side1 => exact Zv (Kd.C_below HR1.out HB.out)); (case side2 => exact HC1.out); rintro e w19 ⟨rfl, hb⟩; refine ⟨_, rfl, ?_⟩; replace HO911 := Aside0.mk (Kd.R_below (Zr HO911.out) hb); replace HO913 := Aside0.mk (Kd.R_below (Zr HO913.out) hb); replace HO918 := Aside0.mk (Kd.R_below (Zr HO918.out) hb); replace HO920 := Aside0.mk (Kd.R_below (Zr HO920.out) hb); replace BK906 := Aside0.mk (Zi BK906.out hb); replace HB := Aside0.mk (Qao (Zc1 GE906.out) hb); (try clear hb); (try clear hb2); (try clear hk); (try clear hi)) | ((with_reducible refine QaD (f := 45) rfl ?_); refine goesL_ (some 38) rfl rfl Try.func45 (by kernel_rfl) rfl #[.slice A1 l1.length c1] rfl (Zl) ?_; (with_reducible refine (Qaf.calls k _ _ l1 t922 _ ?side1 ?side2 A11.out).mono ?_); (case side1 => exact Zv (Kd.C_below HR1.out HB.out)); (case side2 => exact HC1.out); rintro e w20 ⟨rfl, hb⟩; refine ⟨_, rfl, ?_⟩; replace HO911 := Aside0.mk (Kd.R_below (Zr HO911.out) hb); replace HO913 := Aside0.mk (Kd.R_below (Zr HO913.out) hb); replace HO918 := Aside0.mk (Kd.R_below (Zr HO918.out) hb); replace HO920 := Aside0.mk (Kd.R_below (Zr HO920.out) hb); replace BK906 := Aside0.mk (Zi BK906.out hb); replace HB := Aside0.mk (Qao (Zc1 GE906.out) hb); (try clear hb); (try clear hb2); (try clear hk); (try clear hi); obtain ⟨Ao21, co21, eo21⟩ := Kd.R_slice HO911.out; subst eo21; obtain ⟨Ao22, co22, eo22⟩ := Kd.R_slice HO918.out; subst eo22) | (go_at_call 46; (with_reducible refine (Qad.calls k _ _ t907 _ _ t914 true _ ?side1 ?side2 ?side3 ?side4 A13.out).mono ?_); (case side1 => exact Zv (Kd.R_reads' HO911.out).2.2); (case side2 => exact (Kd.R_reads' HO911.out).2.1); (case side3 => exact Zv (Kd.R_reads' HO918.out).2.2); (case side4 => exact (Kd.R_reads' HO918.out).2.1); rintro e w' ⟨rfl, ⟨nd, rfl⟩⟩; obtain ⟨Ao23, co23, eo23⟩ := Kd.R_slice HO913.out; subst eo23; obtain ⟨Ao24, co24, eo24⟩ := Kd.R_slice HO920.out; subst eo24) | (go_at_call 46; (with_reducible refine (Qad.calls k _ _ t908 _ _ t915 true _ ?side1 ?side2 ?side3 ?side4 A15.out).mono ?_); (case side1 => exact Zv (Kd.R_reads' HO913.out).2.2); (case side2 => exact (Kd.R_reads' HO913.out).2.1); (case side3 => exact Zv (Kd.R_reads' HO920.out).2.2); (case side4 => exact (Kd.R_reads' HO920.out).2.1); rintro e w' ⟨rfl, ⟨nd, rfl⟩⟩) | (go_at_call 47; (with_reducible refine (QaA.calls k  t925 _ A18.out).mono ?_); rintro e w25 ⟨rfl, hb⟩; replace HO911 := Aside0.mk (Kd.R_below (Zr HO911.out) hb); replace HO913 := Aside0.mk (Kd.R_below (Zr HO913.out) hb); replace HO918 := Aside0.mk (Kd.R_below (Zr HO918.out) hb); replace HO920 := Aside0.mk (Kd.R_below (Zr HO920.out) hb); replace BK906 := Aside0.mk (Zi BK906.out hb); replace HB := Aside0.mk (Qao (Zc1 GE906.out) hb); (try clear hb); (try clear hb2); (try clear hk); (try clear hi)))
     go_ret
     exact ⟨Zq, Zc1 GE906.out⟩
    rw [if_neg c17] at H
    exact absurd H (by simp)
   replace c16 := Bool.eq_false_iff.mpr c16
   subst c16
   have H1 : (none) = some r := by rw [if_neg (show ¬ (false = true) by decide)] at H; exact H
   clear H
   have H := H1
   clear H1
   exact absurd H (by simp)
  replace c14 := Bool.eq_false_iff.mpr c14
  subst c14
  have H1 : (none) = some r := by rw [if_neg (show ¬ (false = true) by decide)] at H; exact H
  clear H
  have H := H1
  clear H1
  exact absurd H (by simp)
 rw [if_neg c12] at H
 exact absurd H (by simp)
end Go.Proofs.Ytggbflplbblgbaa.Pr
