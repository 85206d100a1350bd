/- Functions' values and contracts, as the print wrote them. -/
import Derived.Test.YtfcaaefdmabkhaaQ78AP0
import Derived.Test.YtfcaaefdmabkhaaQ78AP3
import Derived.Test.YtfcaaefdmabkhaaQ78AP6
import Derived.Test.YtfcaaefdmabkhaaQ78AP2
import Derived.Test.YtfcaaefdmabkhaaQ78AP7
import Derived.Test.YtfcaaefdmabkhaaQ78AP4
import Derived.Test.YtfcaaefdmabkhaaQ78AP1
import Derived.Test.YtfcaaefdmabkhaaQ78AP5
namespace Go.Proofs.Ytfcaaefdmabkhaa.Pr
open Bool renaming true → T
open Bool renaming false → F
open Go.RowKit Go.Proofs.YtfcaaefdmabkhaaW.PrintWords Go.Proofs.YtfcaaefdmabkhaaW.PrintLast Go.Proofs.YtfcaaefdmabkhaaW.PrintMore
attribute [local go_sem] QaS QaU Qa0 Qa1 QaM QaN QaT QaV   -- for this text's walks alone
set_option linter.unusedVariables false
set_option linter.unusedSimpArgs false
set_option maxRecDepth 100000
set_option maxHeartbeats 8000000
def Qbg.f (k : Nat) (l0 : List (S46)) (a1_0 : ByteArray) (a1_1 : ByteArray) (a2 : ByteArray) (a3 : Int) : Option ((List (S46)) × Int) := (Qas.f k l0).bind fun t858 => (if t858 = 0 then ((QaE.f k l0 a1_0 a1_1 a2).bind fun t859 => ((Qbn.f a3).bind fun t860 => (if t860 = T then (if t859 < a3 then (some (([] : List (S46)), 23)) else ((Qan.f k l0 a1_0 a1_1 a2 (wrap64 (t859 - a3))).bind fun t861 => (some (t861, 0)))) else (some (([] : List (S46)), 18))))) else (some (([] : List (S46)), t858)))
theorem Qbg.mono : ∀ a0 a1 a2 a3 a4 k, LeO (Qbg.f k a0 a1 a2 a3 a4) (Qbg.f (k + 1) a0 a1 a2 a3 a4) := by
 intro a0 a1 a2 a3 a4 k
 unfold Qbg.f
 exact ZM3 Qas.mono QaE.mono Qan.mono
theorem Qbg.calls (k : Nat) (A0 : Option Addr) (c0 : Nat) (l0 : List (S46)) (a1_0 : ByteArray) (a1_1 : ByteArray) (a2 : ByteArray) (a3 : Int) (r1 : List (S46)) (r2 : Int) (w : World) (hr0 : Kd.C k46 w A0 l0.length l0) (hc0 : l0.length ≤ c0) (h : Qbg.f k l0 a1_0 a1_1 a2 a3 = some (r1, r2)) :
  Calls Try.prog 68 #[.slice A0 l0.length c0, .agg #[.string a1_0, .string a1_1], .string a2, .int .i64 a3] w fun e w' => ∃ v0_ : Value, e = .returned (.tuple #[v0_, .int .i64 r2]) ∧ Kd.R k46 46 w' w.heap.size (fun _ => True) v0_ r1 ∧ Below w.heap.size w w' := by
 have hu44 := Try.underlying44
 have hu46 := Try.underlying46
 have HR0 := Aside0.mk hr0
 have HC0 := Aside0.mk hc0
 clear hr0 hc0
 have HB := Aside0.mk (Below.refl w.heap.size w)
 have H : ((Qas.f k l0).bind fun t858 => (if t858 = 0 then ((QaE.f k l0 a1_0 a1_1 a2).bind fun t859 => ((Qbn.f a3).bind fun t860 => (if t860 = T then (if t859 < a3 then (some (([] : List (S46)), 23)) else ((Qan.f k l0 a1_0 a1_1 a2 (wrap64 (t859 - a3))).bind fun t861 => (some (t861, 0)))) else (some (([] : List (S46)), 18))))) else (some (([] : List (S46)), t858)))) = some (r1, r2) := h
 clear h
 replace H := Option.bind_eq_some_iff.mp H
 obtain ⟨t858, A50, H⟩ := H
 replace H : (if t858 = 0 then ((QaE.f k l0 a1_0 a1_1 a2).bind fun t859 => ((Qbn.f a3).bind fun t860 => (if t860 = T then (if t859 < a3 then (some (([] : List (S46)), 23)) else ((Qan.f k l0 a1_0 a1_1 a2 (wrap64 (t859 - a3))).bind fun t861 => (some (t861, 0)))) else (some (([] : List (S46)), 18))))) else (some (([] : List (S46)), t858))) = some (r1, r2) := H
 have A5 := Aside0.mk A50
 clear A50
 go_enter Try.func68, Try.ntmps68
 go_upto_if 15 with (first | ((with_reducible refine QaG (N := 5) rfl ?_); refine Zbx (N := 5) (cs := #[.string a1_0, .string a1_1]) (t := 44) ?_; intro gb857 hg w6 hbox hb; have BK857 := Aside0.mk (hbox); have GW857 := Aside0.mk (Zt w hg (Zb)); have GE857 := GW857; replace HB := Aside0.mk (Qao (Zb) hb); clear hb hbox hg) | ((with_reducible refine Qax (f := 66) rfl ?_); refine goesL_ (some 13) rfl rfl Try.func66 (by kernel_rfl) rfl #[.slice A0 l0.length c0] rfl (Zl) ?_; (with_reducible refine (Qas.calls k _ _ l0 t858 _ ?side1 ?side2 A5.out).mono ?_); (case side1 => exact Zv (Kd.C_below HR0.out HB.out)); (case side2 => exact HC0.out); rintro e w7 ⟨rfl, hb⟩; refine ⟨_, rfl, ?_⟩; replace BK857 := Aside0.mk (Zi BK857.out hb); replace HB := Aside0.mk (Qao (Zc1 GE857.out) hb); (try clear hb); (try clear hb2); (try clear hk); (try clear hi)))
 (try simp only [Act.put, Zj, Zk, Zm])
 by_cases c8 : t858 = 0
 ·rw [if_pos c8] at H
  have c8b0 : (t858 == 0) = T := beq_iff_eq.mpr c8
  have c8b1 : (t858 != 0) = F := bne_eq_false_iff_eq.mpr c8
  clear c8
  (try simp only [c8b0, c8b1])
  replace H := Option.bind_eq_some_iff.mp H
  obtain ⟨t859, A90, H⟩ := H
  replace H : ((Qbn.f a3).bind fun t860 => (if t860 = T then (if t859 < a3 then (some (([] : List (S46)), 23)) else ((Qan.f k l0 a1_0 a1_1 a2 (wrap64 (t859 - a3))).bind fun t861 => (some (t861, 0)))) else (some (([] : List (S46)), 18)))) = some (r1, r2) := H
  have A9 := Aside0.mk A90
  clear A90
  replace H := Option.bind_eq_some_iff.mp H
  obtain ⟨t860, A100, H⟩ := H
  replace H : (if t860 = T then (if t859 < a3 then (some (([] : List (S46)), 23)) else ((Qan.f k l0 a1_0 a1_1 a2 (wrap64 (t859 - a3))).bind fun t861 => (some (t861, 0)))) else (some (([] : List (S46)), 18))) = some (r1, r2) := H
  have A10 := Aside0.mk A100
  clear A100
  obtain ⟨hcz11_0, hfz11_0⟩ := Zy (v := (.string a1_0)) BK857.out 0
  obtain ⟨hcz11_1, hfz11_1⟩ := Zy (v := (.string a1_1)) BK857.out 1
  go_upto_if 23 with (first | ((with_reducible refine Qax (f := 38) rfl ?_); refine goesL_ (some 20) rfl rfl Try.func38 (by kernel_rfl) rfl #[.slice A0 l0.length c0, .agg #[.string a1_0, .string a1_1], .string a2] rfl (Zl) ?_; (with_reducible refine (QaE.calls k _ _ l0 a1_0 a1_1 a2 t859 _ ?side1 ?side2 A9.out).mono ?_); (case side1 => exact Zv (Kd.C_below HR0.out HB.out)); (case side2 => exact HC0.out); rintro e w12 ⟨rfl, hb⟩; refine ⟨_, rfl, ?_⟩; replace BK857 := Aside0.mk (Zi BK857.out hb); replace HB := Aside0.mk (Qao (Zc1 GE857.out) hb); (try clear hb); (try clear hb2); (try clear hk); (try clear hi)) | ((with_reducible refine Qax (f := 101) rfl ?_); refine goesL_ (some 22) rfl rfl Try.func101 (by kernel_rfl) rfl #[.int .i64 a3] rfl (Zl) ?_; (with_reducible refine (Qbn.calls a3 t860 _ A10.out).mono ?_); rintro e w' ⟨rfl, ⟨nd, rfl⟩⟩; refine ⟨_, rfl, ?_⟩))
  (try simp only [Act.put, Zj, Zk, Zm])
  by_cases c13 : t860 = T
  ·subst c13
   have H1 : (if t859 < a3 then (some (([] : List (S46)), 23)) else ((Qan.f k l0 a1_0 a1_1 a2 (wrap64 (t859 - a3))).bind fun t861 => (some (t861, 0)))) = some (r1, r2) := by rw [if_pos rfl] at H; exact H
   clear H
   have H := H1
   clear H1
   by_cases c14 : t859 < a3
   ·rw [if_pos c14] at H
    have c14b0 : decide (t859 < a3) = T := decide_eq_true c14
    clear c14
    (try simp only [c14b0])
    simp only [Option.some.injEq, Prod.mk.injEq] at H
    obtain ⟨rfl, rfl⟩ := H
    go_wp2
    go_ret2
    exact ⟨_, Zq, by first | exact Kd.R_nil _ _ _ _ _ | exact Kd.N_nil _ _ _ _ _ | exact Kd.V_nil _ _ _ _ _ | exact Kd.Q_nil _ _ _ _ _ | exact Kd.S_nil _ _ _ _ _, Zc1 GE857.out⟩
   rw [if_neg c14] at H
   have c14b0 : decide (t859 < a3) = F := decide_eq_false c14
   clear c14
   (try simp only [c14b0])
   replace H := Option.bind_eq_some_iff.mp H
   obtain ⟨t861, A150, H⟩ := H
   replace H : (some (t861, 0)) = some (r1, r2) := H
   have A15 := Aside0.mk A150
   clear A150
   simp only [Option.some.injEq, Prod.mk.injEq] at H
   obtain ⟨rfl, rfl⟩ := H
   obtain ⟨hcz16_0, hfz16_0⟩ := Zy (v := (.string a1_0)) BK857.out 0
   obtain ⟨hcz16_1, hfz16_1⟩ := Zy (v := (.string a1_1)) BK857.out 1
   go_wp2_with (first | ((with_reducible refine Qax (f := 103) rfl ?_); refine goesL_ (some 34) rfl rfl Try.func103 (by kernel_rfl) rfl #[.slice A0 l0.length c0, .agg #[.string a1_0, .string a1_1, .string a2, .int .i64 (wrap64 (t859 - a3))]] rfl (Zl) ?_; (with_reducible refine (Qan.calls k _ _ l0 a1_0 a1_1 a2 (wrap64 (t859 - a3)) t861 _ ?side1 ?side2 A15.out).mono ?_); (case side1 => exact Zv (Kd.C_below HR0.out HB.out)); (case side2 => exact HC0.out); rintro e w17 ⟨v862, rfl, ho0, hb⟩; refine ⟨_, rfl, ?_⟩; have HO863 := Aside0.mk (Kd.R_lower ho0 (Qam (Zc1 GE857.out))); replace BK857 := Aside0.mk (Zi BK857.out hb); replace HB := Aside0.mk (Qao (Zc1 GE857.out) hb); (try clear hb); (try clear hb2); (try clear hk); (try clear hi); (try clear ho0)))
   go_ret2
   exact ⟨_, Zq, Zr HO863.out, Zc1 GE857.out⟩
  replace c13 := Bool.eq_false_iff.mpr c13
  subst c13
  have H1 : (some (([] : List (S46)), 18)) = some (r1, r2) := by rw [if_neg (show ¬ (F = T) by decide)] at H; exact H
  clear H
  have H := H1
  clear H1
  simp only [Option.some.injEq, Prod.mk.injEq] at H
  obtain ⟨rfl, rfl⟩ := H
  go_wp2
  go_ret2
  exact ⟨_, Zq, by first | exact Kd.R_nil _ _ _ _ _ | exact Kd.N_nil _ _ _ _ _ | exact Kd.V_nil _ _ _ _ _ | exact Kd.Q_nil _ _ _ _ _ | exact Kd.S_nil _ _ _ _ _, Zc1 GE857.out⟩
 rw [if_neg c8] at H
 have c8b0 : (t858 == 0) = F := beq_eq_false_iff_ne.mpr c8
 have c8b1 : (t858 != 0) = T := bne_iff_ne.mpr c8
 (try simp only [c8b0, c8b1])
 simp only [Option.some.injEq, Prod.mk.injEq] at H
 obtain ⟨rfl, rfl⟩ := H
 go_wp2
 go_ret2
 exact ⟨_, Zq, by first | exact Kd.R_nil _ _ _ _ _ | exact Kd.N_nil _ _ _ _ _ | exact Kd.V_nil _ _ _ _ _ | exact Kd.Q_nil _ _ _ _ _ | exact Kd.S_nil _ _ _ _ _, Zc1 GE857.out⟩
def QaQ.f (k : Nat) (l0_0 : List (S46)) (a0_1 : ByteArray) (a0_2 : ByteArray) (a0_3 : Int) (l0_4 : List (S84)) (l0_5 : List (S98)) (a1 : ByteArray) (a2 : Int) : Option (Bool) := if a2 > 0 then ((Qbg.f k l0_0 a0_1 a0_2 a1 a2).bind fun bt865 => ((QaO.f k bt865.1 a0_1 a0_2 a0_3 l0_4 l0_5).bind fun bt869 => (if bt869.2 = 0 then (some (decide (bt869.1 ≥ a0_3))) else (some F)))) else ((QaO.f k l0_0 a0_1 a0_2 a0_3 l0_4 l0_5).bind fun bt871 => (if bt871.2 = 0 then (some (decide (bt871.1 ≥ a0_3))) else (some F)))
theorem QaQ.mono : ∀ a0 a1 a2 a3 a4 a5 a6 a7 k, LeO (QaQ.f k a0 a1 a2 a3 a4 a5 a6 a7) (QaQ.f (k + 1) a0 a1 a2 a3 a4 a5 a6 a7) := by
 intro a0 a1 a2 a3 a4 a5 a6 a7 k
 unfold QaQ.f
 exact ZM2 Qbg.mono QaO.mono
theorem QaQ.calls (k : Nat) (A0_0 : Option Addr) (c0_0 : Nat) (l0_0 : List (S46)) (a0_1 : ByteArray) (a0_2 : ByteArray) (a0_3 : Int) (A0_4 : Option Addr) (c0_4 : Nat) (l0_4 : List (S84)) (A0_5 : Option Addr) (c0_5 : Nat) (l0_5 : List (S98)) (a1 : ByteArray) (a2 : Int) (r : Bool) (w : World) (hr0_0 : Kd.C k46 w A0_0 l0_0.length l0_0) (hc0_0 : l0_0.length ≤ c0_0) (hr0_4 : Kd.C k84 w A0_4 l0_4.length l0_4) (hc0_4 : l0_4.length ≤ c0_4) (hr0_5 : Kd.C k98 w A0_5 l0_5.length l0_5) (hc0_5 : l0_5.length ≤ c0_5) (h : QaQ.f k l0_0 a0_1 a0_2 a0_3 l0_4 l0_5 a1 a2 = some r) :
  Calls Try.prog 39 #[.agg #[.slice A0_0 l0_0.length c0_0, .string a0_1, .string a0_2, .int .i64 a0_3, .slice A0_4 l0_4.length c0_4, .slice A0_5 l0_5.length c0_5], .string a1, .int .i64 a2] w fun e w' => e = .returned (.bool r) ∧ Below w.heap.size w w' := by
 have hu61 := Try.underlying61
 have hu44 := Try.underlying44
 have HR0_0 := Aside0.mk hr0_0
 have HC0_0 := Aside0.mk hc0_0
 clear hr0_0 hc0_0
 have HR0_4 := Aside0.mk hr0_4
 have HC0_4 := Aside0.mk hc0_4
 clear hr0_4 hc0_4
 have HR0_5 := Aside0.mk hr0_5
 have HC0_5 := Aside0.mk hc0_5
 clear hr0_5 hc0_5
 have HB := Aside0.mk (Below.refl w.heap.size w)
 have H : (if a2 > 0 then ((Qbg.f k l0_0 a0_1 a0_2 a1 a2).bind fun bt865 => ((QaO.f k bt865.1 a0_1 a0_2 a0_3 l0_4 l0_5).bind fun bt869 => (if bt869.2 = 0 then (some (decide (bt869.1 ≥ a0_3))) else (some F)))) else ((QaO.f k l0_0 a0_1 a0_2 a0_3 l0_4 l0_5).bind fun bt871 => (if bt871.2 = 0 then (some (decide (bt871.1 ≥ a0_3))) else (some F)))) = some r := h
 clear h
 go_enter Try.func39, Try.ntmps39
 go_upto_if 13 with (first | ((with_reducible refine QaG (N := 3) rfl ?_); refine Zbx (N := 3) (cs := #[.slice A0_0 l0_0.length c0_0, .string a0_1, .string a0_2, .int .i64 a0_3, .slice A0_4 l0_4.length c0_4, .slice A0_5 l0_5.length c0_5]) (t := 61) ?_; intro gb864 hg w4 hbox hb; have BK864 := Aside0.mk (hbox); have GW864 := Aside0.mk (Zt w hg (Zb)); have GE864 := GW864; replace HB := Aside0.mk (Qao (Zb) hb); clear hb hbox hg; obtain ⟨hcz5_0, hfz5_0⟩ := Zy (v := (.slice A0_0 l0_0.length c0_0)) BK864.out 0; obtain ⟨hcz5_1, hfz5_1⟩ := Zy (v := (.string a0_1)) BK864.out 1; obtain ⟨hcz5_2, hfz5_2⟩ := Zy (v := (.string a0_2)) BK864.out 2; obtain ⟨hcz5_3, hfz5_3⟩ := Zy (v := (.int .i64 a0_3)) BK864.out 3; obtain ⟨hcz5_4, hfz5_4⟩ := Zy (v := (.slice A0_4 l0_4.length c0_4)) BK864.out 4; obtain ⟨hcz5_5, hfz5_5⟩ := Zy (v := (.slice A0_5 l0_5.length c0_5)) BK864.out 5))
 (try simp only [Act.put, Zj, Zk, Zm])
 by_cases c6 : a2 > 0
 ·rw [if_pos c6] at H
  have c6b0 : decide (0 < a2) = T := decide_eq_true c6
  clear c6
  (try simp only [c6b0])
  replace H := Option.bind_eq_some_iff.mp H
  obtain ⟨⟨t865, t868⟩, A70, H⟩ := H
  replace H : ((QaO.f k t865 a0_1 a0_2 a0_3 l0_4 l0_5).bind fun bt869 => (if bt869.2 = 0 then (some (decide (bt869.1 ≥ a0_3))) else (some F))) = some r := H
  have A7 := Aside0.mk A70
  clear A70
  replace H := Option.bind_eq_some_iff.mp H
  obtain ⟨⟨t869, t870⟩, A80, H⟩ := H
  replace H : (if t870 = 0 then (some (decide (t869 ≥ a0_3))) else (some F)) = some r := H
  have A8 := Aside0.mk A80
  clear A80
  obtain ⟨hcz9_0, hfz9_0⟩ := Zy (v := (.slice A0_0 l0_0.length c0_0)) BK864.out 0
  obtain ⟨hcz9_1, hfz9_1⟩ := Zy (v := (.string a0_1)) BK864.out 1
  obtain ⟨hcz9_2, hfz9_2⟩ := Zy (v := (.string a0_2)) BK864.out 2
  obtain ⟨hcz9_3, hfz9_3⟩ := Zy (v := (.int .i64 a0_3)) BK864.out 3
  obtain ⟨hcz9_4, hfz9_4⟩ := Zy (v := (.slice A0_4 l0_4.length c0_4)) BK864.out 4
  obtain ⟨hcz9_5, hfz9_5⟩ := Zy (v := (.slice A0_5 l0_5.length c0_5)) BK864.out 5
  go_upto_region 5 with (first | ((with_reducible refine Qax (f := 68) rfl ?_); refine goesL_ (some 21) rfl rfl Try.func68 (by kernel_rfl) rfl #[.slice A0_0 l0_0.length c0_0, .agg #[.string a0_1, .string a0_2], .string a1, .int .i64 a2] rfl (Zl) ?_; (with_reducible refine (Qbg.calls k _ _ l0_0 a0_1 a0_2 a1 a2 t865 t868 _ ?side1 ?side2 A7.out).mono ?_); (case side1 => exact Zv (Kd.C_below HR0_0.out HB.out)); (case side2 => exact HC0_0.out); rintro e w10 ⟨v866, rfl, ho0, hb⟩; refine ⟨_, rfl, ?_⟩; have HO867 := Aside0.mk (Kd.R_lower ho0 (Qam (Zc1 GE864.out))); replace BK864 := Aside0.mk (Zi BK864.out hb); replace HB := Aside0.mk (Qao (Zc1 GE864.out) hb); (try clear hb); (try clear hb2); (try clear hk); (try clear hi); (try clear ho0); obtain ⟨hcz11_0, hfz11_0⟩ := Zy (v := (.slice A0_0 l0_0.length c0_0)) BK864.out 0; obtain ⟨hcz11_1, hfz11_1⟩ := Zy (v := (.string a0_1)) BK864.out 1; obtain ⟨hcz11_2, hfz11_2⟩ := Zy (v := (.string a0_2)) BK864.out 2; obtain ⟨hcz11_3, hfz11_3⟩ := Zy (v := (.int .i64 a0_3)) BK864.out 3; obtain ⟨hcz11_4, hfz11_4⟩ := Zy (v := (.slice A0_4 l0_4.length c0_4)) BK864.out 4; obtain ⟨hcz11_5, hfz11_5⟩ := Zy (v := (.slice A0_5 l0_5.length c0_5)) BK864.out 5; obtain ⟨Ao12, co12, eo12⟩ := Kd.R_slice HO867.out; subst eo12) | ((with_reducible refine Qax (f := 30) rfl ?_); refine goesL_ (some 34) rfl rfl Try.func30 (by kernel_rfl) rfl #[.slice Ao12 t865.length co12, .agg #[.string a0_1, .string a0_2], .int .i64 a0_3, .slice A0_4 l0_4.length c0_4, .slice A0_5 l0_5.length c0_5] rfl (Zl) ?_; (with_reducible refine (QaO.calls k _ _ t865 a0_1 a0_2 a0_3 _ _ l0_4 _ _ l0_5 t869 t870 _ ?side1 ?side2 ?side3 ?side4 ?side5 ?side6 A8.out).mono ?_); (case side1 => exact Zv (Kd.R_reads' HO867.out).2.2); (case side2 => exact (Kd.R_reads' HO867.out).2.1); (case side3 => exact Zv (Kd.C_below HR0_4.out HB.out)); (case side4 => exact HC0_4.out); (case side5 => exact Zv (Kd.C_below HR0_5.out HB.out)); (case side6 => exact HC0_5.out); rintro e w13 ⟨rfl, hb⟩; refine ⟨_, rfl, ?_⟩; replace HO867 := Aside0.mk (Kd.R_below (Zr HO867.out) hb); replace BK864 := Aside0.mk (Zi BK864.out hb); replace HB := Aside0.mk (Qao (Zc1 GE864.out) hb); (try clear hb); (try clear hb2); (try clear hk); (try clear hi)))
  (try simp only [Act.put, Zj, Zk, Zm])
  by_cases c14 : t870 = 0
  ·rw [if_pos c14] at H
   have c14b0 : (t870 == 0) = T := beq_iff_eq.mpr c14
   have c14b1 : (t870 != 0) = F := bne_eq_false_iff_eq.mpr c14
   clear c14
   (try simp only [c14b0, c14b1])
   obtain rfl := Option.some.inj H
   obtain ⟨hcz15_0, hfz15_0⟩ := Zy (v := (.slice A0_0 l0_0.length c0_0)) BK864.out 0
   obtain ⟨hcz15_1, hfz15_1⟩ := Zy (v := (.string a0_1)) BK864.out 1
   obtain ⟨hcz15_2, hfz15_2⟩ := Zy (v := (.string a0_2)) BK864.out 2
   obtain ⟨hcz15_3, hfz15_3⟩ := Zy (v := (.int .i64 a0_3)) BK864.out 3
   obtain ⟨hcz15_4, hfz15_4⟩ := Zy (v := (.slice A0_4 l0_4.length c0_4)) BK864.out 4
   obtain ⟨hcz15_5, hfz15_5⟩ := Zy (v := (.slice A0_5 l0_5.length c0_5)) BK864.out 5
   go_wp2
   go_ret
   exact ⟨Zq, Zc1 GE864.out⟩
  rw [if_neg c14] at H
  have c14b0 : (t870 == 0) = F := beq_eq_false_iff_ne.mpr c14
  have c14b1 : (t870 != 0) = T := bne_iff_ne.mpr c14
  (try simp only [c14b0, c14b1])
  obtain rfl := Option.some.inj H
  go_wp2
  go_ret
  exact ⟨Zq, Zc1 GE864.out⟩
 rw [if_neg c6] at H
 have c6b0 : decide (0 < a2) = F := decide_eq_false c6
 clear c6
 (try simp only [c6b0])
 replace H := Option.bind_eq_some_iff.mp H
 obtain ⟨⟨t871, t872⟩, A160, H⟩ := H
 replace H : (if t872 = 0 then (some (decide (t871 ≥ a0_3))) else (some F)) = some r := H
 have A16 := Aside0.mk A160
 clear A160
 obtain ⟨hcz17_0, hfz17_0⟩ := Zy (v := (.slice A0_0 l0_0.length c0_0)) BK864.out 0
 obtain ⟨hcz17_1, hfz17_1⟩ := Zy (v := (.string a0_1)) BK864.out 1
 obtain ⟨hcz17_2, hfz17_2⟩ := Zy (v := (.string a0_2)) BK864.out 2
 obtain ⟨hcz17_3, hfz17_3⟩ := Zy (v := (.int .i64 a0_3)) BK864.out 3
 obtain ⟨hcz17_4, hfz17_4⟩ := Zy (v := (.slice A0_4 l0_4.length c0_4)) BK864.out 4
 obtain ⟨hcz17_5, hfz17_5⟩ := Zy (v := (.slice A0_5 l0_5.length c0_5)) BK864.out 5
 go_upto_region 5 with (first | ((with_reducible refine Qax (f := 30) rfl ?_); refine goesL_ (some 34) rfl rfl Try.func30 (by kernel_rfl) rfl #[.slice A0_0 l0_0.length c0_0, .agg #[.string a0_1, .string a0_2], .int .i64 a0_3, .slice A0_4 l0_4.length c0_4, .slice A0_5 l0_5.length c0_5] rfl (Zl) ?_; (with_reducible refine (QaO.calls k _ _ l0_0 a0_1 a0_2 a0_3 _ _ l0_4 _ _ l0_5 t871 t872 _ ?side1 ?side2 ?side3 ?side4 ?side5 ?side6 A16.out).mono ?_); (case side1 => exact Zv (Kd.C_below HR0_0.out HB.out)); (case side2 => exact HC0_0.out); (case side3 => exact Zv (Kd.C_below HR0_4.out HB.out)); (case side4 => exact HC0_4.out); (case side5 => exact Zv (Kd.C_below HR0_5.out HB.out)); (case side6 => exact HC0_5.out); rintro e w18 ⟨rfl, hb⟩; refine ⟨_, rfl, ?_⟩; replace BK864 := Aside0.mk (Zi BK864.out hb); replace HB := Aside0.mk (Qao (Zc1 GE864.out) hb); (try clear hb); (try clear hb2); (try clear hk); (try clear hi)))
 (try simp only [Act.put, Zj, Zk, Zm])
 by_cases c19 : t872 = 0
 ·rw [if_pos c19] at H
  have c19b0 : (t872 == 0) = T := beq_iff_eq.mpr c19
  have c19b1 : (t872 != 0) = F := bne_eq_false_iff_eq.mpr c19
  clear c19
  (try simp only [c19b0, c19b1])
  obtain rfl := Option.some.inj H
  obtain ⟨hcz20_0, hfz20_0⟩ := Zy (v := (.slice A0_0 l0_0.length c0_0)) BK864.out 0
  obtain ⟨hcz20_1, hfz20_1⟩ := Zy (v := (.string a0_1)) BK864.out 1
  obtain ⟨hcz20_2, hfz20_2⟩ := Zy (v := (.string a0_2)) BK864.out 2
  obtain ⟨hcz20_3, hfz20_3⟩ := Zy (v := (.int .i64 a0_3)) BK864.out 3
  obtain ⟨hcz20_4, hfz20_4⟩ := Zy (v := (.slice A0_4 l0_4.length c0_4)) BK864.out 4
  obtain ⟨hcz20_5, hfz20_5⟩ := Zy (v := (.slice A0_5 l0_5.length c0_5)) BK864.out 5
  go_wp2
  go_ret
  exact ⟨Zq, Zc1 GE864.out⟩
 rw [if_neg c19] at H
 have c19b0 : (t872 == 0) = F := beq_eq_false_iff_ne.mpr c19
 have c19b1 : (t872 != 0) = T := bne_iff_ne.mpr c19
 (try simp only [c19b0, c19b1])
 obtain rfl := Option.some.inj H
 go_wp2
 go_ret
 exact ⟨Zq, Zc1 GE864.out⟩
mutual
def contangolaw33_LimitFrees.j0 : Nat → ByteArray → Int → Bool → List (S46) → ByteArray → ByteArray → Int → List (S84) → List (S98) → Option (Bool)
 | 0, _, _, _, _, _, _, _, _, _ => none
 | k + 1, x1, x5, x50, x874000, x874001, x874002, x874003, x874004, x874005 => if x50 = T then (if x5 = 0 then ((QaI.f k).bind fun t880 => (some t880)) else (some F)) else ((QaE.f k x874000 x874001 x874002 x1).bind fun t881 => (if x5 < 0 then (contangolaw33_LimitFrees.j1 k x1 x5 t881 T x874000 x874001 x874002 x874003 x874004 x874005) else (contangolaw33_LimitFrees.j1 k x1 x5 t881 (decide (x5 > t881)) x874000 x874001 x874002 x874003 x874004 x874005)))
def contangolaw33_LimitFrees.j1 : Nat → ByteArray → Int → Int → Bool → List (S46) → ByteArray → ByteArray → Int → List (S84) → List (S98) → Option (Bool)
 | 0, _, _, _, _, _, _, _, _, _, _ => none
 | k + 1, x1, x5, x9, x68, x874000, x874001, x874002, x874003, x874004, x874005 => if x68 = T then (some F) else ((QaQ.f k x874000 x874001 x874002 x874003 x874004 x874005 x1 x5).bind fun t882 => (if t882 = T then (if x5 = x9 then ((QaI.f k).bind fun t883 => (some t883)) else ((QaQ.f k x874000 x874001 x874002 x874003 x874004 x874005 x1 (wrap64 (x5 + 1))).bind fun t884 => (if t884 = T then (some F) else ((QaI.f k).bind fun t885 => (some t885))))) else (some F)))
end
def contangolaw33_LimitFrees.f (k : Nat) (l0_0 : List (S46)) (a0_1 : ByteArray) (a0_2 : ByteArray) (a0_3 : Int) (l0_4 : List (S84)) (l0_5 : List (S98)) (a1 : ByteArray) : Option (Bool) := (QbC.f l0_0 a0_1 a0_2 a0_3 l0_4 l0_5).bind fun t874 => (if t874 = T then ((QaC.f k l0_0 a0_1 a0_2 a1 a0_3 l0_4 l0_5).bind fun bt876 => ((QaO.f k l0_0 a0_1 a0_2 a0_3 l0_4 l0_5).bind fun bt878 => (if bt876.2 = 0 then (contangolaw33_LimitFrees.j0 k a1 bt876.1 (decide (bt878.1 < a0_3)) l0_0 a0_1 a0_2 a0_3 l0_4 l0_5) else (contangolaw33_LimitFrees.j0 k a1 bt876.1 T l0_0 a0_1 a0_2 a0_3 l0_4 l0_5)))) else ((QaI.f k).bind fun t875 => (some t875)))
theorem contangolaw33_LimitFrees.mono_l : ∀ k, (∀ y0 y1 y2 y3 y4 y5 y6 y7 y8, LeO (contangolaw33_LimitFrees.j0 k y0 y1 y2 y3 y4 y5 y6 y7 y8) (contangolaw33_LimitFrees.j0 (k + 1) y0 y1 y2 y3 y4 y5 y6 y7 y8)) ∧ (∀ y0 y1 y2 y3 y4 y5 y6 y7 y8 y9, LeO (contangolaw33_LimitFrees.j1 k y0 y1 y2 y3 y4 y5 y6 y7 y8 y9) (contangolaw33_LimitFrees.j1 (k + 1) y0 y1 y2 y3 y4 y5 y6 y7 y8 y9))
 | 0 => ⟨fun _ _ _ _ _ _ _ _ _ r h => by simp [contangolaw33_LimitFrees.j0] at h, fun _ _ _ _ _ _ _ _ _ _ r h => by simp [contangolaw33_LimitFrees.j1] at h⟩
 | k + 1 => by
  obtain ⟨ih0, ih1⟩ := contangolaw33_LimitFrees.mono_l k
  refine ⟨?_, ?_⟩
  ·intro y0 y1 y2 y3 y4 y5 y6 y7 y8
   unfold contangolaw33_LimitFrees.j0
   exact ZM7 ih0 ih1 QaQ.mono QaI.mono QaE.mono QaO.mono QaC.mono
  intro y0 y1 y2 y3 y4 y5 y6 y7 y8 y9
  unfold contangolaw33_LimitFrees.j1
  exact ZM7 ih0 ih1 QaQ.mono QaI.mono QaE.mono QaO.mono QaC.mono
theorem contangolaw33_LimitFrees.mono : ∀ a0 a1 a2 a3 a4 a5 a6 k, LeO (contangolaw33_LimitFrees.f k a0 a1 a2 a3 a4 a5 a6) (contangolaw33_LimitFrees.f (k + 1) a0 a1 a2 a3 a4 a5 a6) := by
 intro a0 a1 a2 a3 a4 a5 a6 k
 obtain ⟨ih0, ih1⟩ := contangolaw33_LimitFrees.mono_l k
 unfold contangolaw33_LimitFrees.f
 exact ZM7 ih0 ih1 QaQ.mono QaI.mono QaE.mono QaO.mono QaC.mono
theorem contangolaw33_LimitFrees.calls (k : Nat) (A0_0 : Option Addr) (c0_0 : Nat) (l0_0 : List (S46)) (a0_1 : ByteArray) (a0_2 : ByteArray) (a0_3 : Int) (A0_4 : Option Addr) (c0_4 : Nat) (l0_4 : List (S84)) (A0_5 : Option Addr) (c0_5 : Nat) (l0_5 : List (S98)) (a1 : ByteArray) (r : Bool) (w : World) (hr0_0 : Kd.C k46 w A0_0 l0_0.length l0_0) (hc0_0 : l0_0.length ≤ c0_0) (hr0_4 : Kd.C k84 w A0_4 l0_4.length l0_4) (hc0_4 : l0_4.length ≤ c0_4) (hr0_5 : Kd.C k98 w A0_5 l0_5.length l0_5) (hc0_5 : l0_5.length ≤ c0_5) (h : contangolaw33_LimitFrees.f k l0_0 a0_1 a0_2 a0_3 l0_4 l0_5 a1 = some r) :
  Calls Try.prog 11 #[.agg #[.slice A0_0 l0_0.length c0_0, .string a0_1, .string a0_2, .int .i64 a0_3, .slice A0_4 l0_4.length c0_4, .slice A0_5 l0_5.length c0_5], .string a1] w fun e w' => e = .returned (.bool r) ∧ Below w.heap.size w w' := by
 have hu61 := Try.underlying61
 have hu44 := Try.underlying44
 have HR0_0 := Aside0.mk hr0_0
 have HC0_0 := Aside0.mk hc0_0
 clear hr0_0 hc0_0
 have HR0_4 := Aside0.mk hr0_4
 have HC0_4 := Aside0.mk hc0_4
 clear hr0_4 hc0_4
 have HR0_5 := Aside0.mk hr0_5
 have HC0_5 := Aside0.mk hc0_5
 clear hr0_5 hc0_5
 have HB := Aside0.mk (Below.refl w.heap.size w)
 have H : ((QbC.f l0_0 a0_1 a0_2 a0_3 l0_4 l0_5).bind fun t874 => (if t874 = T then ((QaC.f k l0_0 a0_1 a0_2 a1 a0_3 l0_4 l0_5).bind fun bt876 => ((QaO.f k l0_0 a0_1 a0_2 a0_3 l0_4 l0_5).bind fun bt878 => (if bt876.2 = 0 then (contangolaw33_LimitFrees.j0 k a1 bt876.1 (decide (bt878.1 < a0_3)) l0_0 a0_1 a0_2 a0_3 l0_4 l0_5) else (contangolaw33_LimitFrees.j0 k a1 bt876.1 T l0_0 a0_1 a0_2 a0_3 l0_4 l0_5)))) else ((QaI.f k).bind fun t875 => (some t875)))) = some r := h
 clear h
 replace H := Option.bind_eq_some_iff.mp H
 obtain ⟨t874, A30, H⟩ := H
 replace H : (if t874 = T then ((QaC.f k l0_0 a0_1 a0_2 a1 a0_3 l0_4 l0_5).bind fun bt876 => ((QaO.f k l0_0 a0_1 a0_2 a0_3 l0_4 l0_5).bind fun bt878 => (if bt876.2 = 0 then (contangolaw33_LimitFrees.j0 k a1 bt876.1 (decide (bt878.1 < a0_3)) l0_0 a0_1 a0_2 a0_3 l0_4 l0_5) else (contangolaw33_LimitFrees.j0 k a1 bt876.1 T l0_0 a0_1 a0_2 a0_3 l0_4 l0_5)))) else ((QaI.f k).bind fun t875 => (some t875))) = some r := H
 have A3 := Aside0.mk A30
 clear A30
 go_enter Try.func11, Try.ntmps11
 go_upto_if 12 with (first | ((with_reducible refine QaG (N := 2) rfl ?_); refine Zbx (N := 2) (cs := #[.slice A0_0 l0_0.length c0_0, .string a0_1, .string a0_2, .int .i64 a0_3, .slice A0_4 l0_4.length c0_4, .slice A0_5 l0_5.length c0_5]) (t := 61) ?_; intro gb873 hg w4 hbox hb; have BK873 := Aside0.mk (hbox); have GW873 := Aside0.mk (Zt w hg (Zb)); have GE873 := GW873; replace HB := Aside0.mk (Qao (Zb) hb); clear hb hbox hg; obtain ⟨hcz5_0, hfz5_0⟩ := Zy (v := (.slice A0_0 l0_0.length c0_0)) BK873.out 0; obtain ⟨hcz5_1, hfz5_1⟩ := Zy (v := (.string a0_1)) BK873.out 1; obtain ⟨hcz5_2, hfz5_2⟩ := Zy (v := (.string a0_2)) BK873.out 2; obtain ⟨hcz5_3, hfz5_3⟩ := Zy (v := (.int .i64 a0_3)) BK873.out 3; obtain ⟨hcz5_4, hfz5_4⟩ := Zy (v := (.slice A0_4 l0_4.length c0_4)) BK873.out 4; obtain ⟨hcz5_5, hfz5_5⟩ := Zy (v := (.slice A0_5 l0_5.length c0_5)) BK873.out 5) | ((with_reducible refine Qax (f := 26) rfl ?_); refine goesL_ (some 11) rfl rfl Try.func26 (by kernel_rfl) rfl #[.agg #[.slice A0_0 l0_0.length c0_0, .string a0_1, .string a0_2, .int .i64 a0_3, .slice A0_4 l0_4.length c0_4, .slice A0_5 l0_5.length c0_5]] rfl (Zl) ?_; (with_reducible refine (QbC.calls _ _ l0_0 a0_1 a0_2 a0_3 _ _ l0_4 _ _ l0_5 t874 _ ?side1 ?side2 ?side3 ?side4 ?side5 ?side6 A3.out).mono ?_); (case side1 => exact Zv (Kd.C_below HR0_0.out HB.out)); (case side2 => exact HC0_0.out); (case side3 => exact Zv (Kd.C_below HR0_4.out HB.out)); (case side4 => exact HC0_4.out); (case side5 => exact Zv (Kd.C_below HR0_5.out HB.out)); (case side6 => exact HC0_5.out); rintro e w6 ⟨rfl, hb⟩; refine ⟨_, rfl, ?_⟩; replace BK873 := Aside0.mk (Zi BK873.out hb); replace HB := Aside0.mk (Qao (Zc1 GE873.out) hb); (try clear hb); (try clear hb2); (try clear hk); (try clear hi)))
 (try simp only [Act.put, Zj, Zk, Zm])
 by_cases c7 : t874 = T
 ·subst c7
  have H1 : ((QaC.f k l0_0 a0_1 a0_2 a1 a0_3 l0_4 l0_5).bind fun bt876 => ((QaO.f k l0_0 a0_1 a0_2 a0_3 l0_4 l0_5).bind fun bt878 => (if bt876.2 = 0 then (contangolaw33_LimitFrees.j0 k a1 bt876.1 (decide (bt878.1 < a0_3)) l0_0 a0_1 a0_2 a0_3 l0_4 l0_5) else (contangolaw33_LimitFrees.j0 k a1 bt876.1 T l0_0 a0_1 a0_2 a0_3 l0_4 l0_5)))) = some r := by rw [if_pos rfl] at H; exact H
  clear H
  have H := H1
  clear H1
  replace H := Option.bind_eq_some_iff.mp H
  obtain ⟨⟨t876, t877⟩, A80, H⟩ := H
  replace H : ((QaO.f k l0_0 a0_1 a0_2 a0_3 l0_4 l0_5).bind fun bt878 => (if t877 = 0 then (contangolaw33_LimitFrees.j0 k a1 t876 (decide (bt878.1 < a0_3)) l0_0 a0_1 a0_2 a0_3 l0_4 l0_5) else (contangolaw33_LimitFrees.j0 k a1 t876 T l0_0 a0_1 a0_2 a0_3 l0_4 l0_5))) = some r := H
  have A8 := Aside0.mk A80
  clear A80
  replace H := Option.bind_eq_some_iff.mp H
  obtain ⟨⟨t878, t879⟩, A90, H⟩ := H
  replace H : (if t877 = 0 then (contangolaw33_LimitFrees.j0 k a1 t876 (decide (t878 < a0_3)) l0_0 a0_1 a0_2 a0_3 l0_4 l0_5) else (contangolaw33_LimitFrees.j0 k a1 t876 T l0_0 a0_1 a0_2 a0_3 l0_4 l0_5)) = some r := H
  have A9 := Aside0.mk A90
  clear A90
  have HC10 := Aside0.mk H
  clear H
  obtain ⟨hcz11_0, hfz11_0⟩ := Zy (v := (.slice A0_0 l0_0.length c0_0)) BK873.out 0
  obtain ⟨hcz11_1, hfz11_1⟩ := Zy (v := (.string a0_1)) BK873.out 1
  obtain ⟨hcz11_2, hfz11_2⟩ := Zy (v := (.string a0_2)) BK873.out 2
  obtain ⟨hcz11_3, hfz11_3⟩ := Zy (v := (.int .i64 a0_3)) BK873.out 3
  obtain ⟨hcz11_4, hfz11_4⟩ := Zy (v := (.slice A0_4 l0_4.length c0_4)) BK873.out 4
  obtain ⟨hcz11_5, hfz11_5⟩ := Zy (v := (.slice A0_5 l0_5.length c0_5)) BK873.out 5
  go_upto_region 5 with (first | ((with_reducible refine Qax (f := 33) rfl ?_); refine goesL_ (some 26) rfl rfl Try.func33 (by kernel_rfl) rfl #[.slice A0_0 l0_0.length c0_0, .agg #[.string a0_1, .string a0_2], .string a1, .int .i64 a0_3, .slice A0_4 l0_4.length c0_4, .slice A0_5 l0_5.length c0_5] rfl (Zl) ?_; (with_reducible refine (QaC.calls k _ _ l0_0 a0_1 a0_2 a1 a0_3 _ _ l0_4 _ _ l0_5 t876 t877 _ ?side1 ?side2 ?side3 ?side4 ?side5 ?side6 A8.out).mono ?_); (case side1 => exact Zv (Kd.C_below HR0_0.out HB.out)); (case side2 => exact HC0_0.out); (case side3 => exact Zv (Kd.C_below HR0_4.out HB.out)); (case side4 => exact HC0_4.out); (case side5 => exact Zv (Kd.C_below HR0_5.out HB.out)); (case side6 => exact HC0_5.out); rintro e w12 ⟨rfl, hb⟩; refine ⟨_, rfl, ?_⟩; replace BK873 := Aside0.mk (Zi BK873.out hb); replace HB := Aside0.mk (Qao (Zc1 GE873.out) hb); (try clear hb); (try clear hb2); (try clear hk); (try clear hi); obtain ⟨hcz13_0, hfz13_0⟩ := Zy (v := (.slice A0_0 l0_0.length c0_0)) BK873.out 0; obtain ⟨hcz13_1, hfz13_1⟩ := Zy (v := (.string a0_1)) BK873.out 1; obtain ⟨hcz13_2, hfz13_2⟩ := Zy (v := (.string a0_2)) BK873.out 2; obtain ⟨hcz13_3, hfz13_3⟩ := Zy (v := (.int .i64 a0_3)) BK873.out 3; obtain ⟨hcz13_4, hfz13_4⟩ := Zy (v := (.slice A0_4 l0_4.length c0_4)) BK873.out 4; obtain ⟨hcz13_5, hfz13_5⟩ := Zy (v := (.slice A0_5 l0_5.length c0_5)) BK873.out 5) | ((with_reducible refine Qax (f := 30) rfl ?_); refine goesL_ (some 40) rfl rfl Try.func30 (by kernel_rfl) rfl #[.slice A0_0 l0_0.length c0_0, .agg #[.string a0_1, .string a0_2], .int .i64 a0_3, .slice A0_4 l0_4.length c0_4, .slice A0_5 l0_5.length c0_5] rfl (Zl) ?_; (with_reducible refine (QaO.calls k _ _ l0_0 a0_1 a0_2 a0_3 _ _ l0_4 _ _ l0_5 t878 t879 _ ?side1 ?side2 ?side3 ?side4 ?side5 ?side6 A9.out).mono ?_); (case side1 => exact Zv (Kd.C_below HR0_0.out HB.out)); (case side2 => exact HC0_0.out); (case side3 => exact Zv (Kd.C_below HR0_4.out HB.out)); (case side4 => exact HC0_4.out); (case side5 => exact Zv (Kd.C_below HR0_5.out HB.out)); (case side6 => exact HC0_5.out); rintro e w14 ⟨rfl, hb⟩; refine ⟨_, rfl, ?_⟩; replace BK873 := Aside0.mk (Zi BK873.out hb); replace HB := Aside0.mk (Qao (Zc1 GE873.out) hb); (try clear hb); (try clear hb2); (try clear hk); (try clear hi)))
  (try simp only [Act.put, Zj, Zk, Zm])
  go_cut [50] (fun v50 wc => ∃ (kq : Nat) (x50_9 : Bool), v50 = .bool x50_9 ∧ Aside0 (contangolaw33_LimitFrees.j0 kq a1 t876 x50_9 l0_0 a0_1 a0_2 a0_3 l0_4 l0_5 = some r) ∧ Aside0 (kq ≤ k) ∧ Aside0 (wc.heap[gb873]? = some (.cells #[(.slice A0_0 l0_0.length c0_0), .string a0_1, .string a0_2, .int .i64 a0_3, (.slice A0_4 l0_4.length c0_4), (.slice A0_5 l0_5.length c0_5)] 61 (0, 0))) ∧ Aside0 (Below w.heap.size w wc))
  case first =>
   have H := HC10.out
   clear HC10
   by_cases c15 : t877 = 0
   ·rw [if_pos c15] at H
    have c15b0 : (t877 == 0) = T := beq_iff_eq.mpr c15
    have c15b1 : (t877 != 0) = F := bne_eq_false_iff_eq.mpr c15
    clear c15
    have H' := Aside0.mk H
    clear H
    obtain ⟨hcz16_0, hfz16_0⟩ := Zy (v := (.slice A0_0 l0_0.length c0_0)) BK873.out 0
    obtain ⟨hcz16_1, hfz16_1⟩ := Zy (v := (.string a0_1)) BK873.out 1
    obtain ⟨hcz16_2, hfz16_2⟩ := Zy (v := (.string a0_2)) BK873.out 2
    obtain ⟨hcz16_3, hfz16_3⟩ := Zy (v := (.int .i64 a0_3)) BK873.out 3
    obtain ⟨hcz16_4, hfz16_4⟩ := Zy (v := (.slice A0_4 l0_4.length c0_4)) BK873.out 4
    obtain ⟨hcz16_5, hfz16_5⟩ := Zy (v := (.slice A0_5 l0_5.length c0_5)) BK873.out 5
    go_wp2
    go_meet
    case rel => exact ⟨_, (decide (t878 < a0_3)), (Zs), H', ⟨by first | omega | exact Nat.le_refl _⟩, ⟨Zu BK873.out⟩, ⟨Zc1 GE873.out⟩⟩
   rw [if_neg c15] at H
   have c15b0 : (t877 == 0) = F := beq_eq_false_iff_ne.mpr c15
   have c15b1 : (t877 != 0) = T := bne_iff_ne.mpr c15
   have H' := Aside0.mk H
   clear H
   go_wp2
   go_meet
   case rel => exact ⟨_, (T), (Zs), H', ⟨by first | omega | exact Nat.le_refl _⟩, ⟨Zu BK873.out⟩, ⟨Zc1 GE873.out⟩⟩
  case rest =>
   clear HC10
   try clear c1
   try clear c2
   try clear p2
   try clear c3
   try clear c7
   try clear c11
   try clear c15
   try clear c15b0
   try clear c15b1
   try clear hcz11_0
   try clear hcz11_1
   try clear hcz11_2
   try clear hcz11_3
   try clear hcz11_4
   try clear hcz11_5
   try clear hcz13_0
   try clear hcz13_1
   try clear hcz13_2
   try clear hcz13_3
   try clear hcz13_4
   try clear hcz13_5
   try clear hcz16_0
   try clear hcz16_1
   try clear hcz16_2
   try clear hcz16_3
   try clear hcz16_4
   try clear hcz16_5
   try clear hcz5_0
   try clear hcz5_1
   try clear hcz5_2
   try clear hcz5_3
   try clear hcz5_4
   try clear hcz5_5
   try clear hfz11_0
   try clear hfz11_1
   try clear hfz11_2
   try clear hfz11_3
   try clear hfz11_4
   try clear hfz11_5
   try clear hfz13_0
   try clear hfz13_1
   try clear hfz13_2
   try clear hfz13_3
   try clear hfz13_4
   try clear hfz13_5
   try clear hfz16_0
   try clear hfz16_1
   try clear hfz16_2
   try clear hfz16_3
   try clear hfz16_4
   try clear hfz16_5
   try clear hfz5_0
   try clear hfz5_1
   try clear hfz5_2
   try clear hfz5_3
   try clear hfz5_4
   try clear hfz5_5
   obtain ⟨kq, x50_9, rfl, HA, HJ9, BK873, HB⟩ := hcut
   cases kq with
   | zero => exact absurd HA.out (by simp [contangolaw33_LimitFrees.j0])
   | succ kj9 =>
    have H := HA.out
    clear HA
    simp only [contangolaw33_LimitFrees.j0] at H
    by_cases c17 : x50_9 = T
    ·subst c17
     have H1 : (if t876 = 0 then ((QaI.f kj9).bind fun t880 => (some t880)) else (some F)) = some r := by rw [if_pos rfl] at H; exact H
     clear H
     have H := H1
     clear H1
     by_cases c18 : t876 = 0
     ·rw [if_pos c18] at H
      have c18b0 : (t876 == 0) = T := beq_iff_eq.mpr c18
      have c18b1 : (t876 != 0) = F := bne_eq_false_iff_eq.mpr c18
      clear c18
      replace H := Option.bind_eq_some_iff.mp H
      obtain ⟨t880, A190, H⟩ := H
      replace H : (some t880) = some r := H
      have A19 := Aside0.mk A190
      clear A190
      obtain rfl := Option.some.inj H
      go_wp2_with (first | (go_at_call 27; (with_reducible refine (QaI.calls kj9  t880 _ A19.out).mono ?_); rintro e w20 ⟨rfl, hb⟩; replace BK873 := Aside0.mk (Zi BK873.out hb); replace HB := Aside0.mk (Qao (Zc1 GE873.out) hb); (try clear hb); (try clear hb2); (try clear hk); (try clear hi)))
      go_ret
      exact ⟨Zq, Zc1 GE873.out⟩
     rw [if_neg c18] at H
     have c18b0 : (t876 == 0) = F := beq_eq_false_iff_ne.mpr c18
     have c18b1 : (t876 != 0) = T := bne_iff_ne.mpr c18
     obtain rfl := Option.some.inj H
     go_wp2
     go_ret
     exact ⟨Zq, Zc1 GE873.out⟩
    replace c17 := Bool.eq_false_iff.mpr c17
    subst c17
    have H1 : ((QaE.f kj9 l0_0 a0_1 a0_2 a1).bind fun t881 => (if t876 < 0 then (contangolaw33_LimitFrees.j1 kj9 a1 t876 t881 T l0_0 a0_1 a0_2 a0_3 l0_4 l0_5) else (contangolaw33_LimitFrees.j1 kj9 a1 t876 t881 (decide (t876 > t881)) l0_0 a0_1 a0_2 a0_3 l0_4 l0_5))) = some r := by rw [if_neg (show ¬ (F = T) by decide)] at H; exact H
    clear H
    have H := H1
    clear H1
    replace H := Option.bind_eq_some_iff.mp H
    obtain ⟨t881, A210, H⟩ := H
    replace H : (if t876 < 0 then (contangolaw33_LimitFrees.j1 kj9 a1 t876 t881 T l0_0 a0_1 a0_2 a0_3 l0_4 l0_5) else (contangolaw33_LimitFrees.j1 kj9 a1 t876 t881 (decide (t876 > t881)) l0_0 a0_1 a0_2 a0_3 l0_4 l0_5)) = some r := H
    have A21 := Aside0.mk A210
    clear A210
    have HC22 := Aside0.mk H
    clear H
    obtain ⟨hcz23_0, hfz23_0⟩ := Zy (v := (.slice A0_0 l0_0.length c0_0)) BK873.out 0
    obtain ⟨hcz23_1, hfz23_1⟩ := Zy (v := (.string a0_1)) BK873.out 1
    obtain ⟨hcz23_2, hfz23_2⟩ := Zy (v := (.string a0_2)) BK873.out 2
    obtain ⟨hcz23_3, hfz23_3⟩ := Zy (v := (.int .i64 a0_3)) BK873.out 3
    obtain ⟨hcz23_4, hfz23_4⟩ := Zy (v := (.slice A0_4 l0_4.length c0_4)) BK873.out 4
    obtain ⟨hcz23_5, hfz23_5⟩ := Zy (v := (.slice A0_5 l0_5.length c0_5)) BK873.out 5
    go_upto_region 8 with (first | ((with_reducible refine Qax (f := 38) rfl ?_); refine goesL_ (some 61) rfl rfl Try.func38 (by kernel_rfl) rfl #[.slice A0_0 l0_0.length c0_0, .agg #[.string a0_1, .string a0_2], .string a1] rfl (Zl) ?_; (with_reducible refine (QaE.calls kj9 _ _ l0_0 a0_1 a0_2 a1 t881 _ ?side1 ?side2 A21.out).mono ?_); (case side1 => exact Zv (Kd.C_below HR0_0.out HB.out)); (case side2 => exact HC0_0.out); rintro e w24 ⟨rfl, hb⟩; refine ⟨_, rfl, ?_⟩; replace BK873 := Aside0.mk (Zi BK873.out hb); replace HB := Aside0.mk (Qao (Zc1 GE873.out) hb); (try clear hb); (try clear hb2); (try clear hk); (try clear hi)))
    (try simp only [Act.put, Zj, Zk, Zm])
    go_cut [68] (fun v68 wc => ∃ (kq : Nat) (x68_21 : Bool), v68 = .bool x68_21 ∧ Aside0 (contangolaw33_LimitFrees.j1 kq a1 t876 t881 x68_21 l0_0 a0_1 a0_2 a0_3 l0_4 l0_5 = some r) ∧ Aside0 (kq ≤ kj9) ∧ Aside0 (wc.heap[gb873]? = some (.cells #[(.slice A0_0 l0_0.length c0_0), .string a0_1, .string a0_2, .int .i64 a0_3, (.slice A0_4 l0_4.length c0_4), (.slice A0_5 l0_5.length c0_5)] 61 (0, 0))) ∧ Aside0 (Below w.heap.size w wc))
    case first =>
     have H := HC22.out
     clear HC22
     by_cases c25 : t876 < 0
     ·rw [if_pos c25] at H
      have c25b0 : decide (t876 < 0) = T := decide_eq_true c25
      clear c25
      have H' := Aside0.mk H
      clear H
      go_wp2
      go_meet
      case rel => exact ⟨_, (T), (Zs), H', ⟨by have := HJ9.out; first | omega | exact Nat.le_refl _⟩, ⟨Zu BK873.out⟩, ⟨Zc1 GE873.out⟩⟩
     rw [if_neg c25] at H
     have c25b0 : decide (t876 < 0) = F := decide_eq_false c25
     clear c25
     have H' := Aside0.mk H
     clear H
     go_wp2
     go_meet
     case rel => exact ⟨_, (decide (t876 > t881)), (Zs), H', ⟨by have := HJ9.out; first | omega | exact Nat.le_refl _⟩, ⟨Zu BK873.out⟩, ⟨Zc1 GE873.out⟩⟩
    case rest =>
     clear HC22
     try clear c1
     try clear c2
     try clear p2
     try clear c3
     try clear c7
     try clear c11
     try clear c15
     try clear c15b0
     try clear c15b1
     try clear c17
     try clear c18
     try clear c18b0
     try clear c18b1
     try clear c25
     try clear c25b0
     try clear hcz11_0
     try clear hcz11_1
     try clear hcz11_2
     try clear hcz11_3
     try clear hcz11_4
     try clear hcz11_5
     try clear hcz13_0
     try clear hcz13_1
     try clear hcz13_2
     try clear hcz13_3
     try clear hcz13_4
     try clear hcz13_5
     try clear hcz16_0
     try clear hcz16_1
     try clear hcz16_2
     try clear hcz16_3
     try clear hcz16_4
     try clear hcz16_5
     try clear hcz23_0
     try clear hcz23_1
     try clear hcz23_2
     try clear hcz23_3
     try clear hcz23_4
     try clear hcz23_5
     try clear hcz5_0
     try clear hcz5_1
     try clear hcz5_2
     try clear hcz5_3
     try clear hcz5_4
     try clear hcz5_5
     try clear hfz11_0
     try clear hfz11_1
     try clear hfz11_2
     try clear hfz11_3
     try clear hfz11_4
     try clear hfz11_5
     try clear hfz13_0
     try clear hfz13_1
     try clear hfz13_2
     try clear hfz13_3
     try clear hfz13_4
     try clear hfz13_5
     try clear hfz16_0
     try clear hfz16_1
     try clear hfz16_2
     try clear hfz16_3
     try clear hfz16_4
     try clear hfz16_5
     try clear hfz23_0
     try clear hfz23_1
     try clear hfz23_2
     try clear hfz23_3
     try clear hfz23_4
     try clear hfz23_5
     try clear hfz5_0
     try clear hfz5_1
     try clear hfz5_2
     try clear hfz5_3
     try clear hfz5_4
     try clear hfz5_5
     try clear p2
     obtain ⟨kq, x68_21, rfl, HA, HJ21, BK873, HB⟩ := hcut
     cases kq with
     | zero => exact absurd HA.out (by simp [contangolaw33_LimitFrees.j1])
     | succ kj21 =>
      have H := HA.out
      clear HA
      simp only [contangolaw33_LimitFrees.j1] at H
      by_cases c26 : x68_21 = T
      ·subst c26
       have H1 : (some F) = some r := by rw [if_pos rfl] at H; exact H
       clear H
       have H := H1
       clear H1
       obtain rfl := Option.some.inj H
       go_wp2
       go_ret
       exact ⟨Zq, Zc1 GE873.out⟩
      replace c26 := Bool.eq_false_iff.mpr c26
      subst c26
      have H1 : ((QaQ.f kj21 l0_0 a0_1 a0_2 a0_3 l0_4 l0_5 a1 t876).bind fun t882 => (if t882 = T then (if t876 = t881 then ((QaI.f kj21).bind fun t883 => (some t883)) else ((QaQ.f kj21 l0_0 a0_1 a0_2 a0_3 l0_4 l0_5 a1 (wrap64 (t876 + 1))).bind fun t884 => (if t884 = T then (some F) else ((QaI.f kj21).bind fun t885 => (some t885))))) else (some F))) = some r := by rw [if_neg (show ¬ (F = T) by decide)] at H; exact H
      clear H
      have H := H1
      clear H1
      replace H := Option.bind_eq_some_iff.mp H
      obtain ⟨t882, A270, H⟩ := H
      replace H : (if t882 = T then (if t876 = t881 then ((QaI.f kj21).bind fun t883 => (some t883)) else ((QaQ.f kj21 l0_0 a0_1 a0_2 a0_3 l0_4 l0_5 a1 (wrap64 (t876 + 1))).bind fun t884 => (if t884 = T then (some F) else ((QaI.f kj21).bind fun t885 => (some t885))))) else (some F)) = some r := H
      have A27 := Aside0.mk A270
      clear A270
      by_cases c28 : t882 = T
      ·subst c28
       have H1 : (if t876 = t881 then ((QaI.f kj21).bind fun t883 => (some t883)) else ((QaQ.f kj21 l0_0 a0_1 a0_2 a0_3 l0_4 l0_5 a1 (wrap64 (t876 + 1))).bind fun t884 => (if t884 = T then (some F) else ((QaI.f kj21).bind fun t885 => (some t885))))) = some r := by rw [if_pos rfl] at H; exact H
       clear H
       have H := H1
       clear H1
       by_cases c29 : t876 = t881
       ·rw [if_pos c29] at H
        have c29b0 : (t876 == t881) = T := beq_iff_eq.mpr c29
        have c29b1 : (t876 != t881) = F := bne_eq_false_iff_eq.mpr c29
        clear c29
        replace H := Option.bind_eq_some_iff.mp H
        obtain ⟨t883, A300, H⟩ := H
        replace H : (some t883) = some r := H
        have A30 := Aside0.mk A300
        clear A300
        obtain rfl := Option.some.inj H
        obtain ⟨hcz31_0, hfz31_0⟩ := Zy (v := (.slice A0_0 l0_0.length c0_0)) BK873.out 0
        obtain ⟨hcz31_1, hfz31_1⟩ := Zy (v := (.string a0_1)) BK873.out 1
        obtain ⟨hcz31_2, hfz31_2⟩ := Zy (v := (.string a0_2)) BK873.out 2
        obtain ⟨hcz31_3, hfz31_3⟩ := Zy (v := (.int .i64 a0_3)) BK873.out 3
        obtain ⟨hcz31_4, hfz31_4⟩ := Zy (v := (.slice A0_4 l0_4.length c0_4)) BK873.out 4
        obtain ⟨hcz31_5, hfz31_5⟩ := Zy (v := (.slice A0_5 l0_5.length c0_5)) BK873.out 5
        go_wp2_with (first | ((with_reducible refine Qax (f := 39) rfl ?_); refine goesL_ (some 72) rfl rfl Try.func39 (by kernel_rfl) rfl #[.agg #[.slice A0_0 l0_0.length c0_0, .string a0_1, .string a0_2, .int .i64 a0_3, .slice A0_4 l0_4.length c0_4, .slice A0_5 l0_5.length c0_5], .string a1, .int .i64 t876] rfl (Zl) ?_; (with_reducible refine (QaQ.calls kj21 _ _ l0_0 a0_1 a0_2 a0_3 _ _ l0_4 _ _ l0_5 a1 t876 T _ ?side1 ?side2 ?side3 ?side4 ?side5 ?side6 A27.out).mono ?_); (case side1 => exact Zv (Kd.C_below HR0_0.out HB.out)); (case side2 => exact HC0_0.out); (case side3 => exact Zv (Kd.C_below HR0_4.out HB.out)); (case side4 => exact HC0_4.out); (case side5 => exact Zv (Kd.C_below HR0_5.out HB.out)); (case side6 => exact HC0_5.out); rintro e w32 ⟨rfl, hb⟩; refine ⟨_, rfl, ?_⟩; replace BK873 := Aside0.mk (Zi BK873.out hb); replace HB := Aside0.mk (Qao (Zc1 GE873.out) hb); (try clear hb); (try clear hb2); (try clear hk); (try clear hi)) | (go_at_call 27; (with_reducible refine (QaI.calls kj21  t883 _ A30.out).mono ?_); rintro e w33 ⟨rfl, hb⟩; replace BK873 := Aside0.mk (Zi BK873.out hb); replace HB := Aside0.mk (Qao (Zc1 GE873.out) hb); (try clear hb); (try clear hb2); (try clear hk); (try clear hi)))
        go_ret
        exact ⟨Zq, Zc1 GE873.out⟩
       rw [if_neg c29] at H
       have c29b0 : (t876 == t881) = F := beq_eq_false_iff_ne.mpr c29
       have c29b1 : (t876 != t881) = T := bne_iff_ne.mpr c29
       replace H := Option.bind_eq_some_iff.mp H
       obtain ⟨t884, A340, H⟩ := H
       replace H : (if t884 = T then (some F) else ((QaI.f kj21).bind fun t885 => (some t885))) = some r := H
       have A34 := Aside0.mk A340
       clear A340
       by_cases c35 : t884 = T
       ·subst c35
        have H1 : (some F) = some r := by rw [if_pos rfl] at H; exact H
        clear H
        have H := H1
        clear H1
        obtain rfl := Option.some.inj H
        obtain ⟨hcz36_0, hfz36_0⟩ := Zy (v := (.slice A0_0 l0_0.length c0_0)) BK873.out 0
        obtain ⟨hcz36_1, hfz36_1⟩ := Zy (v := (.string a0_1)) BK873.out 1
        obtain ⟨hcz36_2, hfz36_2⟩ := Zy (v := (.string a0_2)) BK873.out 2
        obtain ⟨hcz36_3, hfz36_3⟩ := Zy (v := (.int .i64 a0_3)) BK873.out 3
        obtain ⟨hcz36_4, hfz36_4⟩ := Zy (v := (.slice A0_4 l0_4.length c0_4)) BK873.out 4
        obtain ⟨hcz36_5, hfz36_5⟩ := Zy (v := (.slice A0_5 l0_5.length c0_5)) BK873.out 5
        go_wp2_with (first | ((with_reducible refine Qax (f := 39) rfl ?_); refine goesL_ (some 72) rfl rfl Try.func39 (by kernel_rfl) rfl #[.agg #[.slice A0_0 l0_0.length c0_0, .string a0_1, .string a0_2, .int .i64 a0_3, .slice A0_4 l0_4.length c0_4, .slice A0_5 l0_5.length c0_5], .string a1, .int .i64 t876] rfl (Zl) ?_; (with_reducible refine (QaQ.calls kj21 _ _ l0_0 a0_1 a0_2 a0_3 _ _ l0_4 _ _ l0_5 a1 t876 T _ ?side1 ?side2 ?side3 ?side4 ?side5 ?side6 A27.out).mono ?_); (case side1 => exact Zv (Kd.C_below HR0_0.out HB.out)); (case side2 => exact HC0_0.out); (case side3 => exact Zv (Kd.C_below HR0_4.out HB.out)); (case side4 => exact HC0_4.out); (case side5 => exact Zv (Kd.C_below HR0_5.out HB.out)); (case side6 => exact HC0_5.out); rintro e w37 ⟨rfl, hb⟩; refine ⟨_, rfl, ?_⟩; replace BK873 := Aside0.mk (Zi BK873.out hb); replace HB := Aside0.mk (Qao (Zc1 GE873.out) hb); (try clear hb); (try clear hb2); (try clear hk); (try clear hi); obtain ⟨hcz38_0, hfz38_0⟩ := Zy (v := (.slice A0_0 l0_0.length c0_0)) BK873.out 0; obtain ⟨hcz38_1, hfz38_1⟩ := Zy (v := (.string a0_1)) BK873.out 1; obtain ⟨hcz38_2, hfz38_2⟩ := Zy (v := (.string a0_2)) BK873.out 2; obtain ⟨hcz38_3, hfz38_3⟩ := Zy (v := (.int .i64 a0_3)) BK873.out 3; obtain ⟨hcz38_4, hfz38_4⟩ := Zy (v := (.slice A0_4 l0_4.length c0_4)) BK873.out 4; obtain ⟨hcz38_5, hfz38_5⟩ := Zy (v := (.slice A0_5 l0_5.length c0_5)) BK873.out 5) | (go_at_call 39; (with_reducible refine (QaQ.calls kj21 _ _ l0_0 a0_1 a0_2 a0_3 _ _ l0_4 _ _ l0_5 a1 (wrap64 (t876 + 1)) T _ ?side1 ?side2 ?side3 ?side4 ?side5 ?side6 A34.out).mono ?_); (case side1 => exact Zv (Kd.C_below HR0_0.out HB.out)); (case side2 => exact HC0_0.out); (case side3 => exact Zv (Kd.C_below HR0_4.out HB.out)); (case side4 => exact HC0_4.out); (case side5 => exact Zv (Kd.C_below HR0_5.out HB.out)); (case side6 => exact HC0_5.out); rintro e w39 ⟨rfl, hb⟩; replace BK873 := Aside0.mk (Zi BK873.out hb); replace HB := Aside0.mk (Qao (Zc1 GE873.out) hb); (try clear hb); (try clear hb2); (try clear hk); (try clear hi)))
        go_ret
        exact ⟨Zq, Zc1 GE873.out⟩
       replace c35 := Bool.eq_false_iff.mpr c35
       subst c35
       have H1 : ((QaI.f kj21).bind fun t885 => (some t885)) = some r := by rw [if_neg (show ¬ (F = T) by decide)] at H; exact H
       clear H
       have H := H1
       clear H1
       replace H := Option.bind_eq_some_iff.mp H
       obtain ⟨t885, A400, H⟩ := H
       replace H : (some t885) = some r := H
       have A40 := Aside0.mk A400
       clear A400
       obtain rfl := Option.some.inj H
       obtain ⟨hcz41_0, hfz41_0⟩ := Zy (v := (.slice A0_0 l0_0.length c0_0)) BK873.out 0
       obtain ⟨hcz41_1, hfz41_1⟩ := Zy (v := (.string a0_1)) BK873.out 1
       obtain ⟨hcz41_2, hfz41_2⟩ := Zy (v := (.string a0_2)) BK873.out 2
       obtain ⟨hcz41_3, hfz41_3⟩ := Zy (v := (.int .i64 a0_3)) BK873.out 3
       obtain ⟨hcz41_4, hfz41_4⟩ := Zy (v := (.slice A0_4 l0_4.length c0_4)) BK873.out 4
       obtain ⟨hcz41_5, hfz41_5⟩ := Zy (v := (.slice A0_5 l0_5.length c0_5)) BK873.out 5
       go_wp2_with (first | ((with_reducible refine Qax (f := 39) rfl ?_); refine goesL_ (some 72) rfl rfl Try.func39 (by kernel_rfl) rfl #[.agg #[.slice A0_0 l0_0.length c0_0, .string a0_1, .string a0_2, .int .i64 a0_3, .slice A0_4 l0_4.length c0_4, .slice A0_5 l0_5.length c0_5], .string a1, .int .i64 t876] rfl (Zl) ?_; (with_reducible refine (QaQ.calls kj21 _ _ l0_0 a0_1 a0_2 a0_3 _ _ l0_4 _ _ l0_5 a1 t876 T _ ?side1 ?side2 ?side3 ?side4 ?side5 ?side6 A27.out).mono ?_); (case side1 => exact Zv (Kd.C_below HR0_0.out HB.out)); (case side2 => exact HC0_0.out); (case side3 => exact Zv (Kd.C_below HR0_4.out HB.out)); (case side4 => exact HC0_4.out); (case side5 => exact Zv (Kd.C_below HR0_5.out HB.out)); (case side6 => exact HC0_5.out); rintro e w42 ⟨rfl, hb⟩; refine ⟨_, rfl, ?_⟩; replace BK873 := Aside0.mk (Zi BK873.out hb); replace HB := Aside0.mk (Qao (Zc1 GE873.out) hb); (try clear hb); (try clear hb2); (try clear hk); (try clear hi); obtain ⟨hcz43_0, hfz43_0⟩ := Zy (v := (.slice A0_0 l0_0.length c0_0)) BK873.out 0; obtain ⟨hcz43_1, hfz43_1⟩ := Zy (v := (.string a0_1)) BK873.out 1; obtain ⟨hcz43_2, hfz43_2⟩ := Zy (v := (.string a0_2)) BK873.out 2; obtain ⟨hcz43_3, hfz43_3⟩ := Zy (v := (.int .i64 a0_3)) BK873.out 3; obtain ⟨hcz43_4, hfz43_4⟩ := Zy (v := (.slice A0_4 l0_4.length c0_4)) BK873.out 4; obtain ⟨hcz43_5, hfz43_5⟩ := Zy (v := (.slice A0_5 l0_5.length c0_5)) BK873.out 5) | (go_at_call 39; (with_reducible refine (QaQ.calls kj21 _ _ l0_0 a0_1 a0_2 a0_3 _ _ l0_4 _ _ l0_5 a1 (wrap64 (t876 + 1)) F _ ?side1 ?side2 ?side3 ?side4 ?side5 ?side6 A34.out).mono ?_); (case side1 => exact Zv (Kd.C_below HR0_0.out HB.out)); (case side2 => exact HC0_0.out); (case side3 => exact Zv (Kd.C_below HR0_4.out HB.out)); (case side4 => exact HC0_4.out); (case side5 => exact Zv (Kd.C_below HR0_5.out HB.out)); (case side6 => exact HC0_5.out); rintro e w44 ⟨rfl, hb⟩; replace BK873 := Aside0.mk (Zi BK873.out hb); replace HB := Aside0.mk (Qao (Zc1 GE873.out) hb); (try clear hb); (try clear hb2); (try clear hk); (try clear hi)) | (go_at_call 27; (with_reducible refine (QaI.calls kj21  t885 _ A40.out).mono ?_); rintro e w45 ⟨rfl, hb⟩; replace BK873 := Aside0.mk (Zi BK873.out hb); replace HB := Aside0.mk (Qao (Zc1 GE873.out) hb); (try clear hb); (try clear hb2); (try clear hk); (try clear hi)))
       go_ret
       exact ⟨Zq, Zc1 GE873.out⟩
      replace c28 := Bool.eq_false_iff.mpr c28
      subst c28
      have H1 : (some F) = some r := by rw [if_neg (show ¬ (F = T) by decide)] at H; exact H
      clear H
      have H := H1
      clear H1
      obtain rfl := Option.some.inj H
      obtain ⟨hcz46_0, hfz46_0⟩ := Zy (v := (.slice A0_0 l0_0.length c0_0)) BK873.out 0
      obtain ⟨hcz46_1, hfz46_1⟩ := Zy (v := (.string a0_1)) BK873.out 1
      obtain ⟨hcz46_2, hfz46_2⟩ := Zy (v := (.string a0_2)) BK873.out 2
      obtain ⟨hcz46_3, hfz46_3⟩ := Zy (v := (.int .i64 a0_3)) BK873.out 3
      obtain ⟨hcz46_4, hfz46_4⟩ := Zy (v := (.slice A0_4 l0_4.length c0_4)) BK873.out 4
      obtain ⟨hcz46_5, hfz46_5⟩ := Zy (v := (.slice A0_5 l0_5.length c0_5)) BK873.out 5
      go_wp2_with (first | ((with_reducible refine Qax (f := 39) rfl ?_); refine goesL_ (some 72) rfl rfl Try.func39 (by kernel_rfl) rfl #[.agg #[.slice A0_0 l0_0.length c0_0, .string a0_1, .string a0_2, .int .i64 a0_3, .slice A0_4 l0_4.length c0_4, .slice A0_5 l0_5.length c0_5], .string a1, .int .i64 t876] rfl (Zl) ?_; (with_reducible refine (QaQ.calls kj21 _ _ l0_0 a0_1 a0_2 a0_3 _ _ l0_4 _ _ l0_5 a1 t876 F _ ?side1 ?side2 ?side3 ?side4 ?side5 ?side6 A27.out).mono ?_); (case side1 => exact Zv (Kd.C_below HR0_0.out HB.out)); (case side2 => exact HC0_0.out); (case side3 => exact Zv (Kd.C_below HR0_4.out HB.out)); (case side4 => exact HC0_4.out); (case side5 => exact Zv (Kd.C_below HR0_5.out HB.out)); (case side6 => exact HC0_5.out); rintro e w47 ⟨rfl, hb⟩; refine ⟨_, rfl, ?_⟩; replace BK873 := Aside0.mk (Zi BK873.out hb); replace HB := Aside0.mk (Qao (Zc1 GE873.out) hb); (try clear hb); (try clear hb2); (try clear hk); (try clear hi)))
      go_ret
      exact ⟨Zq, Zc1 GE873.out⟩
 replace c7 := Bool.eq_false_iff.mpr c7
 subst c7
 have H1 : ((QaI.f k).bind fun t875 => (some t875)) = some r := by rw [if_neg (show ¬ (F = T) by decide)] at H; exact H
 clear H
 have H := H1
 clear H1
 replace H := Option.bind_eq_some_iff.mp H
 obtain ⟨t875, A480, H⟩ := H
 replace H : (some t875) = some r := H
 have A48 := Aside0.mk A480
 clear A480
 obtain rfl := Option.some.inj H
 go_wp2_with (first | ((with_reducible refine Qax (f := 27) rfl ?_); refine goesL_ (some 13) rfl rfl Try.func27 (by kernel_rfl) rfl #[] rfl (Zl) ?_; (with_reducible refine (QaI.calls k  t875 _ A48.out).mono ?_); rintro e w49 ⟨rfl, hb⟩; refine ⟨_, rfl, ?_⟩; replace BK873 := Aside0.mk (Zi BK873.out hb); replace HB := Aside0.mk (Qao (Zc1 GE873.out) hb); (try clear hb); (try clear hb2); (try clear hk); (try clear hi)))
 go_ret
 exact ⟨Zq, Zc1 GE873.out⟩
end Go.Proofs.Ytfcaaefdmabkhaa.Pr
