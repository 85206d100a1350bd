/- Functions' values and contracts, as the print wrote them. -/
import Derived.Test.YtgnmhfjfefgbfaaQ3D7P0
import Derived.Test.YtgnmhfjfefgbfaaQ3D7P2
import Derived.Test.YtgnmhfjfefgbfaaQ3D7P4
import Derived.Test.YtgnmhfjfefgbfaaQ3D7P8
import Derived.Test.YtgnmhfjfefgbfaaQ3D7P6
import Derived.Test.YtgnmhfjfefgbfaaQ3D7P5
namespace Go.Proofs.Ytgnmhfjfefgbfaa.Pr
open Bool renaming true → T
open Go.RowKit Go.Proofs.YtgnmhfjfefgbfaaW.PrintWords Go.Proofs.YtgnmhfjfefgbfaaW.PrintLast Go.Proofs.YtgnmhfjfefgbfaaW.PrintMore
attribute [local go_sem] QaN QaP QaW QaX QaH QaI QaO QaQ   -- for this text's walks alone
set_option linter.unusedVariables false
set_option linter.unusedSimpArgs false
mutual
def contangotop_TopCallMet.j0 : Nat → Int → Bool → ByteArray → ByteArray → Int → Int → Int → Int → Int → Int → Int → List (S346) → List (S112) → List (S279) → ByteArray → ByteArray → ByteArray → Int → Int → Int → ByteArray → Int → Int → Int → Int → Int → Option (Bool)
 | 0, _, _, _, _, _, _, _, _, _, _, _, _, _, _, _, _, _, _, _, _, _, _, _, _, _, _ => none
 | k + 1, x1, x54, x1129000, x1129001, x1129002, x1129003, x1129004, x1129005, x1129006, x1129007, x1129008, x1129009, x1129010, x1129011, x1129012, x1138000, x1138001, x1138002, x1138003, x1138004, x1146000, x1146001, x1146002, x1146003, x1146004, x1146005 => if x54 = T then ((QaF.f k).bind fun t1146 => (some t1146)) else ((Qa8.f k x1146000 x1146001 x1146002 x1146003 x1146004 x1146005 x1138004 x1129011).bind fun bt1147 => ((Qbh.f k ([] : List (S226)) x1129000 x1129001 x1138004 x1).bind fun bt1149 => (if bt1147.2 = 0 then (contangotop_TopCallMet.j1 k bt1147.1 bt1149.1 bt1149.2.1 bt1149.2.2 (bt1149.2.2 != 0) x1129000 x1129001 x1129002 x1129003 x1129004 x1129005 x1129006 x1129007 x1129008 x1129009 x1129010 x1129011 x1129012 x1138000 x1138001 x1138002 x1138003 x1138004 x1146000 x1146001 x1146002 x1146003 x1146004 x1146005) else (contangotop_TopCallMet.j1 k bt1147.1 bt1149.1 bt1149.2.1 bt1149.2.2 T x1129000 x1129001 x1129002 x1129003 x1129004 x1129005 x1129006 x1129007 x1129008 x1129009 x1129010 x1129011 x1129012 x1138000 x1138001 x1138002 x1138003 x1138004 x1146000 x1146001 x1146002 x1146003 x1146004 x1146005))))
def contangotop_TopCallMet.j1 : Nat → Int → List (S226) → Int → Int → Bool → ByteArray → ByteArray → Int → Int → Int → Int → Int → Int → Int → List (S346) → List (S112) → List (S279) → ByteArray → ByteArray → ByteArray → Int → Int → Int → ByteArray → Int → Int → Int → Int → Int → Option (Bool)
 | 0, _, _, _, _, _, _, _, _, _, _, _, _, _, _, _, _, _, _, _, _, _, _, _, _, _, _, _, _, _ => none
 | k + 1, x9, x11, x12, x13, x81, x1129000, x1129001, x1129002, x1129003, x1129004, x1129005, x1129006, x1129007, x1129008, x1129009, x1129010, x1129011, x1129012, x1138000, x1138001, x1138002, x1138003, x1138004, x1146000, x1146001, x1146002, x1146003, x1146004, x1146005 => if x81 = T then (if x13 = 0 then ((QaF.f k).bind fun t1154 => (some t1154)) else (if (x11.length : Int) = 0 then (if x12 = 0 then ((QaF.f k).bind fun t1155 => (some t1155)) else (none)) else (none))) else ((QaZ.f k x1146000 x1146001 x1146002 x1146003 x1146004 x1146005 x9 x1129011).bind fun bt1156 => ((Qbs.f k x11 x1129000 x1129001 bt1156.1).bind fun bt1158 => ((Qbd.f k bt1158.1 x1129000 x1129001).bind fun bt1163 => ((Qbp.f k bt1158.1 73048).bind fun bt1165 => ((Qbc.f k bt1158.1).bind fun bt1169 => (if x12 = 1 then (if bt1156.2 = 0 then (if bt1158.2.2 = 0 then (if bt1158.2.1 = (wrap64 (bt1156.1 - x1138004)) then (if bt1163.1 = 0 then (if bt1163.2 = 0 then (if (bt1165.1.length : Int) = 0 then (if bt1165.2 = 0 then (if (bt1169.1.length : Int) = 0 then (if bt1169.2 = 0 then ((QaF.f k).bind fun t1173 => (some t1173)) else (none)) else (none)) else (none)) else (none)) else (none)) else (none)) else (none)) else (none)) else (none)) else (none)))))))
end
def contangotop_TopCallMet.f (k : Nat) (a0_0 : ByteArray) (a0_1 : ByteArray) (a0_2 : Int) (a0_3 : Int) (a0_4 : Int) (a0_5 : Int) (a0_6 : Int) (a0_7 : Int) (a0_8 : Int) (l0_9 : List (S346)) (l0_10 : List (S112)) (l0_11 : List (S279)) (a0_12 : ByteArray) (a1 : Int) : Option (Bool) := (Qbv.f a0_0 a0_1 a0_2 a0_3 a0_4 a0_5 a0_6 a0_7 a0_8 l0_9 l0_10 l0_11 a0_12).bind fun t1129 => (if t1129 = T then ((Qa3.f k a0_0 a0_1 a0_2 a0_3 a0_4 a0_5 a0_6 a0_7 a0_8 l0_9 l0_10 l0_11 a0_12 l0_9).bind fun bt1131 => ((Qbb.f k l0_10 a0_12).bind fun bt1138 => (if bt1131.2.2.2.2.2 = T then (if bt1138.2.2.2.2.2.2 = T then (contangotop_TopCallMet.j0 k a1 (bt1131.2.2.2.2.1 == 0) a0_0 a0_1 a0_2 a0_3 a0_4 a0_5 a0_6 a0_7 a0_8 l0_9 l0_10 l0_11 a0_12 bt1131.1 bt1131.2.1 bt1131.2.2.1 bt1131.2.2.2.1 bt1131.2.2.2.2.1 bt1138.1 bt1138.2.1 bt1138.2.2.1 bt1138.2.2.2.1 bt1138.2.2.2.2.1 bt1138.2.2.2.2.2.1) else (contangotop_TopCallMet.j0 k a1 T a0_0 a0_1 a0_2 a0_3 a0_4 a0_5 a0_6 a0_7 a0_8 l0_9 l0_10 l0_11 a0_12 bt1131.1 bt1131.2.1 bt1131.2.2.1 bt1131.2.2.2.1 bt1131.2.2.2.2.1 bt1138.1 bt1138.2.1 bt1138.2.2.1 bt1138.2.2.2.1 bt1138.2.2.2.2.1 bt1138.2.2.2.2.2.1)) else (contangotop_TopCallMet.j0 k a1 T a0_0 a0_1 a0_2 a0_3 a0_4 a0_5 a0_6 a0_7 a0_8 l0_9 l0_10 l0_11 a0_12 bt1131.1 bt1131.2.1 bt1131.2.2.1 bt1131.2.2.2.1 bt1131.2.2.2.2.1 bt1138.1 bt1138.2.1 bt1138.2.2.1 bt1138.2.2.2.1 bt1138.2.2.2.2.1 bt1138.2.2.2.2.2.1)))) else ((QaF.f k).bind fun t1130 => (some t1130)))
theorem contangotop_TopCallMet.mono_l : ∀ k, (∀ y0 y1 y2 y3 y4 y5 y6 y7 y8 y9 y10 y11 y12 y13 y14 y15 y16 y17 y18 y19 y20 y21 y22 y23 y24 y25, LeO (contangotop_TopCallMet.j0 k y0 y1 y2 y3 y4 y5 y6 y7 y8 y9 y10 y11 y12 y13 y14 y15 y16 y17 y18 y19 y20 y21 y22 y23 y24 y25) (contangotop_TopCallMet.j0 (k + 1) y0 y1 y2 y3 y4 y5 y6 y7 y8 y9 y10 y11 y12 y13 y14 y15 y16 y17 y18 y19 y20 y21 y22 y23 y24 y25)) ∧ (∀ y0 y1 y2 y3 y4 y5 y6 y7 y8 y9 y10 y11 y12 y13 y14 y15 y16 y17 y18 y19 y20 y21 y22 y23 y24 y25 y26 y27 y28, LeO (contangotop_TopCallMet.j1 k y0 y1 y2 y3 y4 y5 y6 y7 y8 y9 y10 y11 y12 y13 y14 y15 y16 y17 y18 y19 y20 y21 y22 y23 y24 y25 y26 y27 y28) (contangotop_TopCallMet.j1 (k + 1) y0 y1 y2 y3 y4 y5 y6 y7 y8 y9 y10 y11 y12 y13 y14 y15 y16 y17 y18 y19 y20 y21 y22 y23 y24 y25 y26 y27 y28))
 | 0 => ⟨fun _ _ _ _ _ _ _ _ _ _ _ _ _ _ _ _ _ _ _ _ _ _ _ _ _ _ r h => by simp [contangotop_TopCallMet.j0] at h, fun _ _ _ _ _ _ _ _ _ _ _ _ _ _ _ _ _ _ _ _ _ _ _ _ _ _ _ _ _ r h => by simp [contangotop_TopCallMet.j1] at h⟩
 | k + 1 => by
  obtain ⟨ih0, ih1⟩ := contangotop_TopCallMet.mono_l k
  refine ⟨?_, ?_⟩
  ·intro y0 y1 y2 y3 y4 y5 y6 y7 y8 y9 y10 y11 y12 y13 y14 y15 y16 y17 y18 y19 y20 y21 y22 y23 y24 y25
   unfold contangotop_TopCallMet.j0
   exact ZM12 ih0 ih1 Qbb.mono Qa8.mono QaZ.mono Qbc.mono Qbp.mono Qbh.mono Qbs.mono Qbd.mono Qa3.mono QaF.mono
  intro y0 y1 y2 y3 y4 y5 y6 y7 y8 y9 y10 y11 y12 y13 y14 y15 y16 y17 y18 y19 y20 y21 y22 y23 y24 y25 y26 y27 y28
  unfold contangotop_TopCallMet.j1
  exact ZM12 ih0 ih1 Qbb.mono Qa8.mono QaZ.mono Qbc.mono Qbp.mono Qbh.mono Qbs.mono Qbd.mono Qa3.mono QaF.mono
theorem contangotop_TopCallMet.mono : ∀ a0 a1 a2 a3 a4 a5 a6 a7 a8 a9 a10 a11 a12 a13 k, LeO (contangotop_TopCallMet.f k a0 a1 a2 a3 a4 a5 a6 a7 a8 a9 a10 a11 a12 a13) (contangotop_TopCallMet.f (k + 1) a0 a1 a2 a3 a4 a5 a6 a7 a8 a9 a10 a11 a12 a13) := by
 intro a0 a1 a2 a3 a4 a5 a6 a7 a8 a9 a10 a11 a12 a13 k
 obtain ⟨ih0, ih1⟩ := contangotop_TopCallMet.mono_l k
 unfold contangotop_TopCallMet.f
 exact ZM12 ih0 ih1 Qbb.mono Qa8.mono QaZ.mono Qbc.mono Qbp.mono Qbh.mono Qbs.mono Qbd.mono Qa3.mono QaF.mono
set_option maxHeartbeats 8000000 in
set_option maxRecDepth 100000 in
theorem contangotop_TopCallMet.calls (k : Nat) (a0_0 : ByteArray) (a0_1 : ByteArray) (a0_2 : Int) (a0_3 : Int) (a0_4 : Int) (a0_5 : Int) (a0_6 : Int) (a0_7 : Int) (a0_8 : Int) (A0_9 : Option Addr) (c0_9 : Nat) (l0_9 : List (S346)) (A0_10 : Option Addr) (c0_10 : Nat) (l0_10 : List (S112)) (A0_11 : Option Addr) (c0_11 : Nat) (l0_11 : List (S279)) (a0_12 : ByteArray) (a1 : Int) (r : Bool) (w : World) (hr0_9 : Kd.C k346 w A0_9 l0_9.length l0_9) (hc0_9 : l0_9.length ≤ c0_9) (hr0_10 : Kd.C k112 w A0_10 l0_10.length l0_10) (hc0_10 : l0_10.length ≤ c0_10) (hr0_11 : Kd.C k279 w A0_11 l0_11.length l0_11) (hc0_11 : l0_11.length ≤ c0_11) (h : contangotop_TopCallMet.f k a0_0 a0_1 a0_2 a0_3 a0_4 a0_5 a0_6 a0_7 a0_8 l0_9 l0_10 l0_11 a0_12 a1 = some r) :
  Calls Try.prog 8 #[.agg #[.string a0_0, .string a0_1, .int .i64 a0_2, .int .i64 a0_3, .int .i64 a0_4, .int .i64 a0_5, .int .i64 a0_6, .int .i64 a0_7, .int .i64 a0_8, .slice A0_9 l0_9.length c0_9, .slice A0_10 l0_10.length c0_10, .slice A0_11 l0_11.length c0_11, .string a0_12], .int .i64 a1] w fun e w' => e = .returned (.bool r) ∧ Below w.heap.size w w' := by
 have hu106 := Try.underlying106
 have hu108 := Try.underlying108
 have hu112 := Try.underlying112
 have hu81 := Try.underlying81
 have HR0_9 := Aside0.mk hr0_9
 have HC0_9 := Aside0.mk hc0_9
 clear hr0_9 hc0_9
 have HR0_10 := Aside0.mk hr0_10
 have HC0_10 := Aside0.mk hc0_10
 clear hr0_10 hc0_10
 have HR0_11 := Aside0.mk hr0_11
 have HC0_11 := Aside0.mk hc0_11
 clear hr0_11 hc0_11
 have HB := Aside0.mk (Below.refl w.heap.size w)
 have H : ((Qbv.f a0_0 a0_1 a0_2 a0_3 a0_4 a0_5 a0_6 a0_7 a0_8 l0_9 l0_10 l0_11 a0_12).bind fun t1129 => (if t1129 = T then ((Qa3.f k a0_0 a0_1 a0_2 a0_3 a0_4 a0_5 a0_6 a0_7 a0_8 l0_9 l0_10 l0_11 a0_12 l0_9).bind fun bt1131 => ((Qbb.f k l0_10 a0_12).bind fun bt1138 => (if bt1131.2.2.2.2.2 = T then (if bt1138.2.2.2.2.2.2 = T then (contangotop_TopCallMet.j0 k a1 (bt1131.2.2.2.2.1 == 0) a0_0 a0_1 a0_2 a0_3 a0_4 a0_5 a0_6 a0_7 a0_8 l0_9 l0_10 l0_11 a0_12 bt1131.1 bt1131.2.1 bt1131.2.2.1 bt1131.2.2.2.1 bt1131.2.2.2.2.1 bt1138.1 bt1138.2.1 bt1138.2.2.1 bt1138.2.2.2.1 bt1138.2.2.2.2.1 bt1138.2.2.2.2.2.1) else (contangotop_TopCallMet.j0 k a1 T a0_0 a0_1 a0_2 a0_3 a0_4 a0_5 a0_6 a0_7 a0_8 l0_9 l0_10 l0_11 a0_12 bt1131.1 bt1131.2.1 bt1131.2.2.1 bt1131.2.2.2.1 bt1131.2.2.2.2.1 bt1138.1 bt1138.2.1 bt1138.2.2.1 bt1138.2.2.2.1 bt1138.2.2.2.2.1 bt1138.2.2.2.2.2.1)) else (contangotop_TopCallMet.j0 k a1 T a0_0 a0_1 a0_2 a0_3 a0_4 a0_5 a0_6 a0_7 a0_8 l0_9 l0_10 l0_11 a0_12 bt1131.1 bt1131.2.1 bt1131.2.2.1 bt1131.2.2.2.1 bt1131.2.2.2.2.1 bt1138.1 bt1138.2.1 bt1138.2.2.1 bt1138.2.2.2.1 bt1138.2.2.2.2.1 bt1138.2.2.2.2.2.1)))) else ((QaF.f k).bind fun t1130 => (some t1130)))) = some r := h
 clear h
 replace H := Option.bind_eq_some_iff.mp H
 obtain ⟨t1129, A30, H⟩ := H
 replace H : (if t1129 = T then ((Qa3.f k a0_0 a0_1 a0_2 a0_3 a0_4 a0_5 a0_6 a0_7 a0_8 l0_9 l0_10 l0_11 a0_12 l0_9).bind fun bt1131 => ((Qbb.f k l0_10 a0_12).bind fun bt1138 => (if bt1131.2.2.2.2.2 = T then (if bt1138.2.2.2.2.2.2 = T then (contangotop_TopCallMet.j0 k a1 (bt1131.2.2.2.2.1 == 0) a0_0 a0_1 a0_2 a0_3 a0_4 a0_5 a0_6 a0_7 a0_8 l0_9 l0_10 l0_11 a0_12 bt1131.1 bt1131.2.1 bt1131.2.2.1 bt1131.2.2.2.1 bt1131.2.2.2.2.1 bt1138.1 bt1138.2.1 bt1138.2.2.1 bt1138.2.2.2.1 bt1138.2.2.2.2.1 bt1138.2.2.2.2.2.1) else (contangotop_TopCallMet.j0 k a1 T a0_0 a0_1 a0_2 a0_3 a0_4 a0_5 a0_6 a0_7 a0_8 l0_9 l0_10 l0_11 a0_12 bt1131.1 bt1131.2.1 bt1131.2.2.1 bt1131.2.2.2.1 bt1131.2.2.2.2.1 bt1138.1 bt1138.2.1 bt1138.2.2.1 bt1138.2.2.2.1 bt1138.2.2.2.2.1 bt1138.2.2.2.2.2.1)) else (contangotop_TopCallMet.j0 k a1 T a0_0 a0_1 a0_2 a0_3 a0_4 a0_5 a0_6 a0_7 a0_8 l0_9 l0_10 l0_11 a0_12 bt1131.1 bt1131.2.1 bt1131.2.2.1 bt1131.2.2.2.1 bt1131.2.2.2.2.1 bt1138.1 bt1138.2.1 bt1138.2.2.1 bt1138.2.2.2.1 bt1138.2.2.2.2.1 bt1138.2.2.2.2.2.1)))) else ((QaF.f k).bind fun t1130 => (some t1130))) = some r := H
 have A3 := Aside0.mk A30
 clear A30
 go_enter Try.func8, Try.ntmps8
 go_upto_if 27 with (first | ((with_reducible refine QaT (N := 2) rfl ?_); (try (refine QbN (by rfl) ?_; dsimp only)); refine Zbx (N := 2) (cs := #[.string a0_0, .string a0_1, .int .i64 a0_2, .int .i64 a0_3, .int .i64 a0_4, .int .i64 a0_5, .int .i64 a0_6, .int .i64 a0_7, .int .i64 a0_8, .slice A0_9 l0_9.length c0_9, .slice A0_10 l0_10.length c0_10, .slice A0_11 l0_11.length c0_11, .string a0_12]) (t := 106) ?_; intro gb1128 hg w4 hbox hb; have BK1128 := Aside0.mk (hbox); have GW1128 := Aside0.mk (Zt w hg (Zb)); have GE1128 := GW1128; replace HB := Aside0.mk (Qap (Zb) hb); clear hb hbox hg; obtain ⟨hcz5_0, hfz5_0⟩ := Zy (v := (.string a0_0)) BK1128.out 0; obtain ⟨hcz5_1, hfz5_1⟩ := Zy (v := (.string a0_1)) BK1128.out 1; obtain ⟨hcz5_2, hfz5_2⟩ := Zy (v := (.int .i64 a0_2)) BK1128.out 2; obtain ⟨hcz5_3, hfz5_3⟩ := Zy (v := (.int .i64 a0_3)) BK1128.out 3; obtain ⟨hcz5_4, hfz5_4⟩ := Zy (v := (.int .i64 a0_4)) BK1128.out 4; obtain ⟨hcz5_5, hfz5_5⟩ := Zy (v := (.int .i64 a0_5)) BK1128.out 5; obtain ⟨hcz5_6, hfz5_6⟩ := Zy (v := (.int .i64 a0_6)) BK1128.out 6; obtain ⟨hcz5_7, hfz5_7⟩ := Zy (v := (.int .i64 a0_7)) BK1128.out 7; obtain ⟨hcz5_8, hfz5_8⟩ := Zy (v := (.int .i64 a0_8)) BK1128.out 8; obtain ⟨hcz5_9, hfz5_9⟩ := Zy (v := (.slice A0_9 l0_9.length c0_9)) BK1128.out 9; obtain ⟨hcz5_10, hfz5_10⟩ := Zy (v := (.slice A0_10 l0_10.length c0_10)) BK1128.out 10; obtain ⟨hcz5_11, hfz5_11⟩ := Zy (v := (.slice A0_11 l0_11.length c0_11)) BK1128.out 11; obtain ⟨hcz5_12, hfz5_12⟩ := Zy (v := (.string a0_12)) BK1128.out 12) | ((with_reducible refine Qay (f := 38) rfl ?_); refine goesL_ (some 26) rfl rfl Try.func38 (by kernel_rfl) rfl #[.agg #[.string a0_0, .string a0_1, .int .i64 a0_2, .int .i64 a0_3, .int .i64 a0_4, .int .i64 a0_5, .int .i64 a0_6, .int .i64 a0_7, .int .i64 a0_8, .slice A0_9 l0_9.length c0_9, .slice A0_10 l0_10.length c0_10, .slice A0_11 l0_11.length c0_11, .string a0_12]] rfl (Zl) ?_; (with_reducible refine (Qbv.calls a0_0 a0_1 a0_2 a0_3 a0_4 a0_5 a0_6 a0_7 a0_8 _ _ l0_9 _ _ l0_10 _ _ l0_11 a0_12 t1129 _ ?side1 ?side2 ?side3 ?side4 ?side5 ?side6 A3.out).mono ?_); (case side1 => exact Zv (Kd.C_below HR0_9.out HB.out)); (case side2 => exact HC0_9.out); (case side3 => exact Zv (Kd.C_below HR0_10.out HB.out)); (case side4 => exact HC0_10.out); (case side5 => exact Zv (Kd.C_below HR0_11.out HB.out)); (case side6 => exact HC0_11.out); rintro e w6 ⟨rfl, hb⟩; refine ⟨_, rfl, ?_⟩; replace BK1128 := Aside0.mk (Zi BK1128.out hb); replace HB := Aside0.mk (Qap (Zc1 GE1128.out) hb); (try clear hb); (try clear hb2); (try clear hk); (try clear hi)))
 (try simp only [Act.put, Zj, Zk, Zm])
 by_cases c7 : t1129 = T
 ·subst c7
  have H1 : ((Qa3.f k a0_0 a0_1 a0_2 a0_3 a0_4 a0_5 a0_6 a0_7 a0_8 l0_9 l0_10 l0_11 a0_12 l0_9).bind fun bt1131 => ((Qbb.f k l0_10 a0_12).bind fun bt1138 => (if bt1131.2.2.2.2.2 = T then (if bt1138.2.2.2.2.2.2 = T then (contangotop_TopCallMet.j0 k a1 (bt1131.2.2.2.2.1 == 0) a0_0 a0_1 a0_2 a0_3 a0_4 a0_5 a0_6 a0_7 a0_8 l0_9 l0_10 l0_11 a0_12 bt1131.1 bt1131.2.1 bt1131.2.2.1 bt1131.2.2.2.1 bt1131.2.2.2.2.1 bt1138.1 bt1138.2.1 bt1138.2.2.1 bt1138.2.2.2.1 bt1138.2.2.2.2.1 bt1138.2.2.2.2.2.1) else (contangotop_TopCallMet.j0 k a1 T a0_0 a0_1 a0_2 a0_3 a0_4 a0_5 a0_6 a0_7 a0_8 l0_9 l0_10 l0_11 a0_12 bt1131.1 bt1131.2.1 bt1131.2.2.1 bt1131.2.2.2.1 bt1131.2.2.2.2.1 bt1138.1 bt1138.2.1 bt1138.2.2.1 bt1138.2.2.2.1 bt1138.2.2.2.2.1 bt1138.2.2.2.2.2.1)) else (contangotop_TopCallMet.j0 k a1 T a0_0 a0_1 a0_2 a0_3 a0_4 a0_5 a0_6 a0_7 a0_8 l0_9 l0_10 l0_11 a0_12 bt1131.1 bt1131.2.1 bt1131.2.2.1 bt1131.2.2.2.1 bt1131.2.2.2.2.1 bt1138.1 bt1138.2.1 bt1138.2.2.1 bt1138.2.2.2.1 bt1138.2.2.2.2.1 bt1138.2.2.2.2.2.1)))) = some r := by rw [if_pos rfl] at H; exact H
  clear H
  have H := H1
  clear H1
  replace H := Option.bind_eq_some_iff.mp H
  obtain ⟨⟨t1131, t1132, t1133, t1134, t1135, t1136⟩, A80, H⟩ := H
  replace H : ((Qbb.f k l0_10 a0_12).bind fun bt1138 => (if t1136 = T then (if bt1138.2.2.2.2.2.2 = T then (contangotop_TopCallMet.j0 k a1 (t1135 == 0) a0_0 a0_1 a0_2 a0_3 a0_4 a0_5 a0_6 a0_7 a0_8 l0_9 l0_10 l0_11 a0_12 t1131 t1132 t1133 t1134 t1135 bt1138.1 bt1138.2.1 bt1138.2.2.1 bt1138.2.2.2.1 bt1138.2.2.2.2.1 bt1138.2.2.2.2.2.1) else (contangotop_TopCallMet.j0 k a1 T a0_0 a0_1 a0_2 a0_3 a0_4 a0_5 a0_6 a0_7 a0_8 l0_9 l0_10 l0_11 a0_12 t1131 t1132 t1133 t1134 t1135 bt1138.1 bt1138.2.1 bt1138.2.2.1 bt1138.2.2.2.1 bt1138.2.2.2.2.1 bt1138.2.2.2.2.2.1)) else (contangotop_TopCallMet.j0 k a1 T a0_0 a0_1 a0_2 a0_3 a0_4 a0_5 a0_6 a0_7 a0_8 l0_9 l0_10 l0_11 a0_12 t1131 t1132 t1133 t1134 t1135 bt1138.1 bt1138.2.1 bt1138.2.2.1 bt1138.2.2.2.1 bt1138.2.2.2.2.1 bt1138.2.2.2.2.2.1))) = some r := H
  have A8 := Aside0.mk A80
  clear A80
  replace H := Option.bind_eq_some_iff.mp H
  obtain ⟨⟨t1138, t1139, t1140, t1141, t1142, t1143, t1144⟩, A90, H⟩ := H
  replace H : (if t1136 = T then (if t1144 = T then (contangotop_TopCallMet.j0 k a1 (t1135 == 0) a0_0 a0_1 a0_2 a0_3 a0_4 a0_5 a0_6 a0_7 a0_8 l0_9 l0_10 l0_11 a0_12 t1131 t1132 t1133 t1134 t1135 t1138 t1139 t1140 t1141 t1142 t1143) else (contangotop_TopCallMet.j0 k a1 T a0_0 a0_1 a0_2 a0_3 a0_4 a0_5 a0_6 a0_7 a0_8 l0_9 l0_10 l0_11 a0_12 t1131 t1132 t1133 t1134 t1135 t1138 t1139 t1140 t1141 t1142 t1143)) else (contangotop_TopCallMet.j0 k a1 T a0_0 a0_1 a0_2 a0_3 a0_4 a0_5 a0_6 a0_7 a0_8 l0_9 l0_10 l0_11 a0_12 t1131 t1132 t1133 t1134 t1135 t1138 t1139 t1140 t1141 t1142 t1143)) = some r := H
  have A9 := Aside0.mk A90
  clear A90
  have HC10 := Aside0.mk H
  clear H
  obtain ⟨hcz11_0, hfz11_0⟩ := Zy (v := (.string a0_0)) BK1128.out 0
  obtain ⟨hcz11_1, hfz11_1⟩ := Zy (v := (.string a0_1)) BK1128.out 1
  obtain ⟨hcz11_2, hfz11_2⟩ := Zy (v := (.int .i64 a0_2)) BK1128.out 2
  obtain ⟨hcz11_3, hfz11_3⟩ := Zy (v := (.int .i64 a0_3)) BK1128.out 3
  obtain ⟨hcz11_4, hfz11_4⟩ := Zy (v := (.int .i64 a0_4)) BK1128.out 4
  obtain ⟨hcz11_5, hfz11_5⟩ := Zy (v := (.int .i64 a0_5)) BK1128.out 5
  obtain ⟨hcz11_6, hfz11_6⟩ := Zy (v := (.int .i64 a0_6)) BK1128.out 6
  obtain ⟨hcz11_7, hfz11_7⟩ := Zy (v := (.int .i64 a0_7)) BK1128.out 7
  obtain ⟨hcz11_8, hfz11_8⟩ := Zy (v := (.int .i64 a0_8)) BK1128.out 8
  obtain ⟨hcz11_9, hfz11_9⟩ := Zy (v := (.slice A0_9 l0_9.length c0_9)) BK1128.out 9
  obtain ⟨hcz11_10, hfz11_10⟩ := Zy (v := (.slice A0_10 l0_10.length c0_10)) BK1128.out 10
  obtain ⟨hcz11_11, hfz11_11⟩ := Zy (v := (.slice A0_11 l0_11.length c0_11)) BK1128.out 11
  obtain ⟨hcz11_12, hfz11_12⟩ := Zy (v := (.string a0_12)) BK1128.out 12
  go_upto_region 5 with (first | ((with_reducible refine Qay (f := 40) rfl ?_); refine goesL_ (some 33) rfl rfl Try.func40 (by kernel_rfl) rfl #[.agg #[.string a0_0, .string a0_1, .int .i64 a0_2, .int .i64 a0_3, .int .i64 a0_4, .int .i64 a0_5, .int .i64 a0_6, .int .i64 a0_7, .int .i64 a0_8, .slice A0_9 l0_9.length c0_9, .slice A0_10 l0_10.length c0_10, .slice A0_11 l0_11.length c0_11, .string a0_12], .slice A0_9 l0_9.length c0_9] rfl (Zl) ?_; (with_reducible refine (Qa3.calls k a0_0 a0_1 a0_2 a0_3 a0_4 a0_5 a0_6 a0_7 a0_8 _ _ l0_9 _ _ l0_10 _ _ l0_11 a0_12 _ _ l0_9 t1131 t1132 t1133 t1134 t1135 t1136 _ ?side1 ?side2 ?side3 ?side4 ?side5 ?side6 ?side7 ?side8 A8.out).mono ?_); (case side1 => exact Zv (Kd.C_below HR0_9.out HB.out)); (case side2 => exact HC0_9.out); (case side3 => exact Zv (Kd.C_below HR0_10.out HB.out)); (case side4 => exact HC0_10.out); (case side5 => exact Zv (Kd.C_below HR0_11.out HB.out)); (case side6 => exact HC0_11.out); (case side7 => exact Zv (Kd.C_below HR0_9.out HB.out)); (case side8 => exact HC0_9.out); rintro e w12 ⟨rfl, hb⟩; refine ⟨_, rfl, ?_⟩; replace BK1128 := Aside0.mk (Zi BK1128.out hb); replace HB := Aside0.mk (Qap (Zc1 GE1128.out) hb); (try clear hb); (try clear hb2); (try clear hk); (try clear hi)) | ((with_reducible refine QaT (N := 5) rfl ?_); (try (refine QbN (by rfl) ?_; dsimp only)); refine Zbx (N := 5) (cs := #[.string (⟨#[]⟩ : ByteArray), .string (⟨#[]⟩ : ByteArray), .int .i64 0, .int .i64 0, .int .i64 0]) (t := 108) ?_; intro gb1137 hg w13 hbox hb; have BK1137 := Aside0.mk (hbox); have GW1137 := Aside0.mk (Zt w hg (Zc1 GE1128.out)); have GE1137 := GW1137; have NB1128_1137 := Aside0.mk (Zn hg BK1128.out); have NB1137_1128 := Aside0.mk NB1128_1137.out.symm; replace BK1128 := Aside0.mk (Zi BK1128.out hb); replace HB := Aside0.mk (Qap (Zc1 GE1128.out) hb); clear hb hbox hg; have hnb14 := NB1137_1128.out; have hnc14 := NB1128_1137.out; obtain ⟨hcz15_0, hfz15_0⟩ := Zy (v := (.string (⟨#[]⟩ : ByteArray))) BK1137.out 0; obtain ⟨hcz15_1, hfz15_1⟩ := Zy (v := (.string (⟨#[]⟩ : ByteArray))) BK1137.out 1; obtain ⟨hcz15_2, hfz15_2⟩ := Zy (v := (.int .i64 0)) BK1137.out 2; obtain ⟨hcz15_3, hfz15_3⟩ := Zy (v := (.int .i64 0)) BK1137.out 3; obtain ⟨hcz15_4, hfz15_4⟩ := Zy (v := (.int .i64 0)) BK1137.out 4; obtain ⟨hcz16_0, hfz16_0⟩ := Zy (v := (.string a0_0)) BK1128.out 0; obtain ⟨hcz16_1, hfz16_1⟩ := Zy (v := (.string a0_1)) BK1128.out 1; obtain ⟨hcz16_2, hfz16_2⟩ := Zy (v := (.int .i64 a0_2)) BK1128.out 2; obtain ⟨hcz16_3, hfz16_3⟩ := Zy (v := (.int .i64 a0_3)) BK1128.out 3; obtain ⟨hcz16_4, hfz16_4⟩ := Zy (v := (.int .i64 a0_4)) BK1128.out 4; obtain ⟨hcz16_5, hfz16_5⟩ := Zy (v := (.int .i64 a0_5)) BK1128.out 5; obtain ⟨hcz16_6, hfz16_6⟩ := Zy (v := (.int .i64 a0_6)) BK1128.out 6; obtain ⟨hcz16_7, hfz16_7⟩ := Zy (v := (.int .i64 a0_7)) BK1128.out 7; obtain ⟨hcz16_8, hfz16_8⟩ := Zy (v := (.int .i64 a0_8)) BK1128.out 8; obtain ⟨hcz16_9, hfz16_9⟩ := Zy (v := (.slice A0_9 l0_9.length c0_9)) BK1128.out 9; obtain ⟨hcz16_10, hfz16_10⟩ := Zy (v := (.slice A0_10 l0_10.length c0_10)) BK1128.out 10; obtain ⟨hcz16_11, hfz16_11⟩ := Zy (v := (.slice A0_11 l0_11.length c0_11)) BK1128.out 11; obtain ⟨hcz16_12, hfz16_12⟩ := Zy (v := (.string a0_12)) BK1128.out 12) | ((with_reducible refine Qay (f := 41) rfl ?_); refine goesL_ (some 41) rfl rfl Try.func41 (by kernel_rfl) rfl #[.slice A0_10 l0_10.length c0_10, .string a0_12] rfl (Zl) ?_; (with_reducible refine (Qbb.calls k _ _ l0_10 a0_12 t1138 t1139 t1140 t1141 t1142 t1143 t1144 _ ?side1 ?side2 A9.out).mono ?_); (case side1 => exact Kd.C_below HR0_10.out (Zc2 GE1128.out GE1137.out)); (case side2 => exact HC0_10.out); rintro e w17 ⟨rfl, hb⟩; refine ⟨_, rfl, ?_⟩; replace BK1128 := Aside0.mk (Qam (g := gb1128) (o := .cells #[.string a0_0, .string a0_1, .int .i64 a0_2, .int .i64 a0_3, .int .i64 a0_4, .int .i64 a0_5, .int .i64 a0_6, .int .i64 a0_7, .int .i64 a0_8, .slice A0_9 l0_9.length c0_9, .slice A0_10 l0_10.length c0_10, .slice A0_11 l0_11.length c0_11, .string a0_12] 106 (0, 0)) (Zg5 BK1128.out NB1128_1137.out NB1128_1137.out NB1128_1137.out NB1128_1137.out NB1128_1137.out) hb); replace BK1137 := Aside0.mk (Zpi #[.string t1131, .string t1132, .int .i64 t1133, .int .i64 t1134, .int .i64 t1135] BK1137.out hb); replace HB := Aside0.mk (Qap (Zc2 GE1128.out GE1137.out) hb); (try clear hb); (try clear hb2); (try clear hk); (try clear hi)) | ((with_reducible refine QaT (N := 7) rfl ?_); (try (refine QbN (by rfl) ?_; dsimp only)); refine Zbx (N := 7) (cs := #[.string (⟨#[]⟩ : ByteArray), .int .i64 0, .int .i64 0, .int .i64 0, .int .i64 0, .int .i64 0]) (t := 112) ?_; intro gb1145 hg w18 hbox hb; have BK1145 := Aside0.mk (hbox); have GW1145 := Aside0.mk (Zt w hg (Zc2 GE1128.out GE1137.out)); have GE1145 := GW1145; have NB1128_1145 := Aside0.mk (Zn hg BK1128.out); have NB1145_1128 := Aside0.mk NB1128_1145.out.symm; have NB1137_1145 := Aside0.mk (Zn hg BK1137.out); have NB1145_1137 := Aside0.mk NB1137_1145.out.symm; replace BK1128 := Aside0.mk (Zi BK1128.out hb); replace BK1137 := Aside0.mk (Zi BK1137.out hb); replace HB := Aside0.mk (Qap (Zc2 GE1128.out GE1137.out) hb); clear hb hbox hg; have hnb19 := NB1145_1128.out; have hnc19 := NB1128_1145.out; have hnb20 := NB1145_1137.out; have hnc20 := NB1137_1145.out; obtain ⟨hcz21_0, hfz21_0⟩ := Zy (v := (.string (⟨#[]⟩ : ByteArray))) BK1145.out 0; obtain ⟨hcz21_1, hfz21_1⟩ := Zy (v := (.int .i64 0)) BK1145.out 1; obtain ⟨hcz21_2, hfz21_2⟩ := Zy (v := (.int .i64 0)) BK1145.out 2; obtain ⟨hcz21_3, hfz21_3⟩ := Zy (v := (.int .i64 0)) BK1145.out 3; obtain ⟨hcz21_4, hfz21_4⟩ := Zy (v := (.int .i64 0)) BK1145.out 4; obtain ⟨hcz21_5, hfz21_5⟩ := Zy (v := (.int .i64 0)) BK1145.out 5))
  (try simp only [Act.put, Zj, Zk, Zm])
  go_cut [54] (fun v54 wc => ∃ (kq : Nat) (x54_9 : Bool), v54 = .bool x54_9 ∧ Aside0 (contangotop_TopCallMet.j0 kq a1 x54_9 a0_0 a0_1 a0_2 a0_3 a0_4 a0_5 a0_6 a0_7 a0_8 l0_9 l0_10 l0_11 a0_12 t1131 t1132 t1133 t1134 t1135 t1138 t1139 t1140 t1141 t1142 t1143 = some r) ∧ Aside0 (kq ≤ k) ∧ Aside0 (wc.heap[gb1128]? = some (.cells #[.string a0_0, .string a0_1, .int .i64 a0_2, .int .i64 a0_3, .int .i64 a0_4, .int .i64 a0_5, .int .i64 a0_6, .int .i64 a0_7, .int .i64 a0_8, (.slice A0_9 l0_9.length c0_9), (.slice A0_10 l0_10.length c0_10), (.slice A0_11 l0_11.length c0_11), .string a0_12] 106 (0, 0))) ∧ Aside0 (wc.heap[gb1137]? = some (.cells #[.string t1131, .string t1132, .int .i64 t1133, .int .i64 t1134, .int .i64 t1135] 108 (0, 0))) ∧ Aside0 (wc.heap[gb1145]? = some (.cells #[.string t1138, .int .i64 t1139, .int .i64 t1140, .int .i64 t1141, .int .i64 t1142, .int .i64 t1143] 112 (0, 0))) ∧ Aside0 (Below w.heap.size w wc))
  case first =>
   have H := HC10.out
   clear HC10
   by_cases c22 : t1136 = T
   ·subst c22
    have H1 : (if t1144 = T then (contangotop_TopCallMet.j0 k a1 (t1135 == 0) a0_0 a0_1 a0_2 a0_3 a0_4 a0_5 a0_6 a0_7 a0_8 l0_9 l0_10 l0_11 a0_12 t1131 t1132 t1133 t1134 t1135 t1138 t1139 t1140 t1141 t1142 t1143) else (contangotop_TopCallMet.j0 k a1 T a0_0 a0_1 a0_2 a0_3 a0_4 a0_5 a0_6 a0_7 a0_8 l0_9 l0_10 l0_11 a0_12 t1131 t1132 t1133 t1134 t1135 t1138 t1139 t1140 t1141 t1142 t1143)) = some r := by rw [if_pos rfl] at H; exact H
    clear H
    have H := H1
    clear H1
    by_cases c23 : t1144 = T
    ·subst c23
     have H1 : (contangotop_TopCallMet.j0 k a1 (t1135 == 0) a0_0 a0_1 a0_2 a0_3 a0_4 a0_5 a0_6 a0_7 a0_8 l0_9 l0_10 l0_11 a0_12 t1131 t1132 t1133 t1134 t1135 t1138 t1139 t1140 t1141 t1142 t1143) = some r := by rw [if_pos rfl] at H; exact H
     clear H
     have H := H1
     clear H1
     have H' := Aside0.mk H
     clear H
     have hnb24 := NB1137_1128.out
     have hnc24 := NB1128_1137.out
     have hnb25 := NB1137_1145.out
     have hnc25 := NB1145_1137.out
     obtain ⟨hcz26_0, hfz26_0⟩ := Zy (v := (.string t1131)) BK1137.out 0
     obtain ⟨hcz26_1, hfz26_1⟩ := Zy (v := (.string t1132)) BK1137.out 1
     obtain ⟨hcz26_2, hfz26_2⟩ := Zy (v := (.int .i64 t1133)) BK1137.out 2
     obtain ⟨hcz26_3, hfz26_3⟩ := Zy (v := (.int .i64 t1134)) BK1137.out 3
     obtain ⟨hcz26_4, hfz26_4⟩ := Zy (v := (.int .i64 t1135)) BK1137.out 4
     go_wp2
     go_meet
     case rel => exact ⟨_, ((t1135 == 0)), (Zs), H', ⟨by first | omega | exact Nat.le_refl _⟩, ⟨Zg6 BK1128.out NB1128_1145.out NB1128_1145.out NB1128_1145.out NB1128_1145.out NB1128_1145.out NB1128_1145.out⟩, ⟨Zg6 BK1137.out NB1137_1145.out NB1137_1145.out NB1137_1145.out NB1137_1145.out NB1137_1145.out NB1137_1145.out⟩, ⟨Zp2 BK1145.out⟩, ⟨Zc3 GE1128.out GE1137.out GE1145.out⟩⟩
    replace c23 := Bool.eq_false_iff.mpr c23
    subst c23
    have H1 : (contangotop_TopCallMet.j0 k a1 T a0_0 a0_1 a0_2 a0_3 a0_4 a0_5 a0_6 a0_7 a0_8 l0_9 l0_10 l0_11 a0_12 t1131 t1132 t1133 t1134 t1135 t1138 t1139 t1140 t1141 t1142 t1143) = some r := by rw [if_neg (show ¬ (false = T) by decide)] at H; exact H
    clear H
    have H := H1
    clear H1
    have H' := Aside0.mk H
    clear H
    go_wp2
    go_meet
    case rel => exact ⟨_, (T), (Zs), H', ⟨by first | omega | exact Nat.le_refl _⟩, ⟨Zg6 BK1128.out NB1128_1145.out NB1128_1145.out NB1128_1145.out NB1128_1145.out NB1128_1145.out NB1128_1145.out⟩, ⟨Zg6 BK1137.out NB1137_1145.out NB1137_1145.out NB1137_1145.out NB1137_1145.out NB1137_1145.out NB1137_1145.out⟩, ⟨Zp2 BK1145.out⟩, ⟨Zc3 GE1128.out GE1137.out GE1145.out⟩⟩
   replace c22 := Bool.eq_false_iff.mpr c22
   subst c22
   have H1 : (contangotop_TopCallMet.j0 k a1 T a0_0 a0_1 a0_2 a0_3 a0_4 a0_5 a0_6 a0_7 a0_8 l0_9 l0_10 l0_11 a0_12 t1131 t1132 t1133 t1134 t1135 t1138 t1139 t1140 t1141 t1142 t1143) = some r := by rw [if_neg (show ¬ (false = T) by decide)] at H; exact H
   clear H
   have H := H1
   clear H1
   have H' := Aside0.mk H
   clear H
   go_wp2
   go_meet
   case rel => exact ⟨_, (T), (Zs), H', ⟨by first | omega | exact Nat.le_refl _⟩, ⟨Zg6 BK1128.out NB1128_1145.out NB1128_1145.out NB1128_1145.out NB1128_1145.out NB1128_1145.out NB1128_1145.out⟩, ⟨Zg6 BK1137.out NB1137_1145.out NB1137_1145.out NB1137_1145.out NB1137_1145.out NB1137_1145.out NB1137_1145.out⟩, ⟨Zp2 BK1145.out⟩, ⟨Zc3 GE1128.out GE1137.out GE1145.out⟩⟩
  case rest =>
   clear HC10
   try clear c1
   try clear c2
   try clear p2
   try clear c3
   try clear c4
   try clear c7
   try clear c8
   try clear c14
   try clear c19
   try clear c20
   try clear c22
   try clear c23
   try clear c24
   try clear c25
   try clear hcz11_0
   try clear hcz11_1
   try clear hcz11_10
   try clear hcz11_11
   try clear hcz11_12
   try clear hcz11_2
   try clear hcz11_3
   try clear hcz11_4
   try clear hcz11_5
   try clear hcz11_6
   try clear hcz11_7
   try clear hcz11_8
   try clear hcz11_9
   try clear hcz15_0
   try clear hcz15_1
   try clear hcz15_2
   try clear hcz15_3
   try clear hcz15_4
   try clear hcz16_0
   try clear hcz16_1
   try clear hcz16_10
   try clear hcz16_11
   try clear hcz16_12
   try clear hcz16_2
   try clear hcz16_3
   try clear hcz16_4
   try clear hcz16_5
   try clear hcz16_6
   try clear hcz16_7
   try clear hcz16_8
   try clear hcz16_9
   try clear hcz21_0
   try clear hcz21_1
   try clear hcz21_2
   try clear hcz21_3
   try clear hcz21_4
   try clear hcz21_5
   try clear hcz26_0
   try clear hcz26_1
   try clear hcz26_2
   try clear hcz26_3
   try clear hcz26_4
   try clear hcz5_0
   try clear hcz5_1
   try clear hcz5_10
   try clear hcz5_11
   try clear hcz5_12
   try clear hcz5_2
   try clear hcz5_3
   try clear hcz5_4
   try clear hcz5_5
   try clear hcz5_6
   try clear hcz5_7
   try clear hcz5_8
   try clear hcz5_9
   try clear hfz11_0
   try clear hfz11_1
   try clear hfz11_10
   try clear hfz11_11
   try clear hfz11_12
   try clear hfz11_2
   try clear hfz11_3
   try clear hfz11_4
   try clear hfz11_5
   try clear hfz11_6
   try clear hfz11_7
   try clear hfz11_8
   try clear hfz11_9
   try clear hfz15_0
   try clear hfz15_1
   try clear hfz15_2
   try clear hfz15_3
   try clear hfz15_4
   try clear hfz16_0
   try clear hfz16_1
   try clear hfz16_10
   try clear hfz16_11
   try clear hfz16_12
   try clear hfz16_2
   try clear hfz16_3
   try clear hfz16_4
   try clear hfz16_5
   try clear hfz16_6
   try clear hfz16_7
   try clear hfz16_8
   try clear hfz16_9
   try clear hfz21_0
   try clear hfz21_1
   try clear hfz21_2
   try clear hfz21_3
   try clear hfz21_4
   try clear hfz21_5
   try clear hfz26_0
   try clear hfz26_1
   try clear hfz26_2
   try clear hfz26_3
   try clear hfz26_4
   try clear hfz5_0
   try clear hfz5_1
   try clear hfz5_10
   try clear hfz5_11
   try clear hfz5_12
   try clear hfz5_2
   try clear hfz5_3
   try clear hfz5_4
   try clear hfz5_5
   try clear hfz5_6
   try clear hfz5_7
   try clear hfz5_8
   try clear hfz5_9
   obtain ⟨kq, x54_9, rfl, HA, HJ9, BK1128, BK1137, BK1145, HB⟩ := hcut
   cases kq with
   | zero => exact absurd HA.out (by simp [contangotop_TopCallMet.j0])
   | succ kj9 =>
    have H := HA.out
    clear HA
    simp only [contangotop_TopCallMet.j0] at H
    by_cases c27 : x54_9 = T
    ·subst c27
     have H1 : ((QaF.f kj9).bind fun t1146 => (some t1146)) = some r := by rw [if_pos rfl] at H; exact H
     clear H
     have H := H1
     clear H1
     replace H := Option.bind_eq_some_iff.mp H
     obtain ⟨t1146, A280, H⟩ := H
     replace H : (some t1146) = some r := H
     have A28 := Aside0.mk A280
     clear A280
     obtain rfl := Option.some.inj H
     go_wp2_with (first | ((with_reducible refine Qay (f := 39) rfl ?_); refine goesL_ (some 55) rfl rfl Try.func39 (by kernel_rfl) rfl #[] rfl (Zl) ?_; (with_reducible refine (QaF.calls kj9  t1146 _ A28.out).mono ?_); rintro e w29 ⟨rfl, hb⟩; refine ⟨_, rfl, ?_⟩; replace BK1128 := Aside0.mk (Zi BK1128.out hb); replace BK1137 := Aside0.mk (Zi BK1137.out hb); replace BK1145 := Aside0.mk (Zi BK1145.out hb); replace HB := Aside0.mk (Qap (Zc3 GE1128.out GE1137.out GE1145.out) hb); (try clear hb); (try clear hb2); (try clear hk); (try clear hi)))
     go_ret
     exact ⟨Zq, Zc3 GE1128.out GE1137.out GE1145.out⟩
    replace c27 := Bool.eq_false_iff.mpr c27
    subst c27
    have H1 : ((Qa8.f kj9 t1138 t1139 t1140 t1141 t1142 t1143 t1135 l0_11).bind fun bt1147 => ((Qbh.f kj9 ([] : List (S226)) a0_0 a0_1 t1135 a1).bind fun bt1149 => (if bt1147.2 = 0 then (contangotop_TopCallMet.j1 kj9 bt1147.1 bt1149.1 bt1149.2.1 bt1149.2.2 (bt1149.2.2 != 0) a0_0 a0_1 a0_2 a0_3 a0_4 a0_5 a0_6 a0_7 a0_8 l0_9 l0_10 l0_11 a0_12 t1131 t1132 t1133 t1134 t1135 t1138 t1139 t1140 t1141 t1142 t1143) else (contangotop_TopCallMet.j1 kj9 bt1147.1 bt1149.1 bt1149.2.1 bt1149.2.2 T a0_0 a0_1 a0_2 a0_3 a0_4 a0_5 a0_6 a0_7 a0_8 l0_9 l0_10 l0_11 a0_12 t1131 t1132 t1133 t1134 t1135 t1138 t1139 t1140 t1141 t1142 t1143)))) = some r := by rw [if_neg (show ¬ (false = T) by decide)] at H; exact H
    clear H
    have H := H1
    clear H1
    replace H := Option.bind_eq_some_iff.mp H
    obtain ⟨⟨t1147, t1148⟩, A300, H⟩ := H
    replace H : ((Qbh.f kj9 ([] : List (S226)) a0_0 a0_1 t1135 a1).bind fun bt1149 => (if t1148 = 0 then (contangotop_TopCallMet.j1 kj9 t1147 bt1149.1 bt1149.2.1 bt1149.2.2 (bt1149.2.2 != 0) a0_0 a0_1 a0_2 a0_3 a0_4 a0_5 a0_6 a0_7 a0_8 l0_9 l0_10 l0_11 a0_12 t1131 t1132 t1133 t1134 t1135 t1138 t1139 t1140 t1141 t1142 t1143) else (contangotop_TopCallMet.j1 kj9 t1147 bt1149.1 bt1149.2.1 bt1149.2.2 T a0_0 a0_1 a0_2 a0_3 a0_4 a0_5 a0_6 a0_7 a0_8 l0_9 l0_10 l0_11 a0_12 t1131 t1132 t1133 t1134 t1135 t1138 t1139 t1140 t1141 t1142 t1143))) = some r := H
    have A30 := Aside0.mk A300
    clear A300
    replace H := Option.bind_eq_some_iff.mp H
    obtain ⟨⟨t1149, t1152, t1153⟩, A310, H⟩ := H
    replace H : (if t1148 = 0 then (contangotop_TopCallMet.j1 kj9 t1147 t1149 t1152 t1153 (t1153 != 0) a0_0 a0_1 a0_2 a0_3 a0_4 a0_5 a0_6 a0_7 a0_8 l0_9 l0_10 l0_11 a0_12 t1131 t1132 t1133 t1134 t1135 t1138 t1139 t1140 t1141 t1142 t1143) else (contangotop_TopCallMet.j1 kj9 t1147 t1149 t1152 t1153 T a0_0 a0_1 a0_2 a0_3 a0_4 a0_5 a0_6 a0_7 a0_8 l0_9 l0_10 l0_11 a0_12 t1131 t1132 t1133 t1134 t1135 t1138 t1139 t1140 t1141 t1142 t1143)) = some r := H
    have A31 := Aside0.mk A310
    clear A310
    have HC32 := Aside0.mk H
    clear H
    have hnb33 := NB1145_1128.out
    have hnc33 := NB1128_1145.out
    have hnb34 := NB1145_1137.out
    have hnc34 := NB1137_1145.out
    obtain ⟨hcz35_0, hfz35_0⟩ := Zy (v := (.string t1138)) BK1145.out 0
    obtain ⟨hcz35_1, hfz35_1⟩ := Zy (v := (.int .i64 t1139)) BK1145.out 1
    obtain ⟨hcz35_2, hfz35_2⟩ := Zy (v := (.int .i64 t1140)) BK1145.out 2
    obtain ⟨hcz35_3, hfz35_3⟩ := Zy (v := (.int .i64 t1141)) BK1145.out 3
    obtain ⟨hcz35_4, hfz35_4⟩ := Zy (v := (.int .i64 t1142)) BK1145.out 4
    obtain ⟨hcz35_5, hfz35_5⟩ := Zy (v := (.int .i64 t1143)) BK1145.out 5
    have hnb36 := NB1137_1128.out
    have hnc36 := NB1128_1137.out
    obtain ⟨hcz37_0, hfz37_0⟩ := Zy (v := (.string t1131)) BK1137.out 0
    obtain ⟨hcz37_1, hfz37_1⟩ := Zy (v := (.string t1132)) BK1137.out 1
    obtain ⟨hcz37_2, hfz37_2⟩ := Zy (v := (.int .i64 t1133)) BK1137.out 2
    obtain ⟨hcz37_3, hfz37_3⟩ := Zy (v := (.int .i64 t1134)) BK1137.out 3
    obtain ⟨hcz37_4, hfz37_4⟩ := Zy (v := (.int .i64 t1135)) BK1137.out 4
    obtain ⟨hcz38_0, hfz38_0⟩ := Zy (v := (.string a0_0)) BK1128.out 0
    obtain ⟨hcz38_1, hfz38_1⟩ := Zy (v := (.string a0_1)) BK1128.out 1
    obtain ⟨hcz38_2, hfz38_2⟩ := Zy (v := (.int .i64 a0_2)) BK1128.out 2
    obtain ⟨hcz38_3, hfz38_3⟩ := Zy (v := (.int .i64 a0_3)) BK1128.out 3
    obtain ⟨hcz38_4, hfz38_4⟩ := Zy (v := (.int .i64 a0_4)) BK1128.out 4
    obtain ⟨hcz38_5, hfz38_5⟩ := Zy (v := (.int .i64 a0_5)) BK1128.out 5
    obtain ⟨hcz38_6, hfz38_6⟩ := Zy (v := (.int .i64 a0_6)) BK1128.out 6
    obtain ⟨hcz38_7, hfz38_7⟩ := Zy (v := (.int .i64 a0_7)) BK1128.out 7
    obtain ⟨hcz38_8, hfz38_8⟩ := Zy (v := (.int .i64 a0_8)) BK1128.out 8
    obtain ⟨hcz38_9, hfz38_9⟩ := Zy (v := (.slice A0_9 l0_9.length c0_9)) BK1128.out 9
    obtain ⟨hcz38_10, hfz38_10⟩ := Zy (v := (.slice A0_10 l0_10.length c0_10)) BK1128.out 10
    obtain ⟨hcz38_11, hfz38_11⟩ := Zy (v := (.slice A0_11 l0_11.length c0_11)) BK1128.out 11
    obtain ⟨hcz38_12, hfz38_12⟩ := Zy (v := (.string a0_12)) BK1128.out 12
    go_upto_region 9 with (first | ((with_reducible refine Qay (f := 42) rfl ?_); refine goesL_ (some 62) rfl rfl Try.func42 (by kernel_rfl) rfl #[.agg #[.string t1138, .int .i64 t1139, .int .i64 t1140, .int .i64 t1141, .int .i64 t1142, .int .i64 t1143], .int .i64 t1135, .slice A0_11 l0_11.length c0_11] rfl (Zl) ?_; (with_reducible refine (Qa8.calls kj9 t1138 t1139 t1140 t1141 t1142 t1143 t1135 _ _ l0_11 t1147 t1148 _ ?side1 ?side2 A30.out).mono ?_); (case side1 => exact Zv (Kd.C_below HR0_11.out HB.out)); (case side2 => exact HC0_11.out); rintro e w39 ⟨rfl, hb⟩; refine ⟨_, rfl, ?_⟩; replace BK1128 := Aside0.mk (Zi BK1128.out hb); replace BK1137 := Aside0.mk (Zi BK1137.out hb); replace BK1145 := Aside0.mk (Zi BK1145.out hb); replace HB := Aside0.mk (Qap (Zc3 GE1128.out GE1137.out GE1145.out) hb); (try clear hb); (try clear hb2); (try clear hk); (try clear hi); obtain ⟨hcz40_0, hfz40_0⟩ := Zy (v := (.string a0_0)) BK1128.out 0; obtain ⟨hcz40_1, hfz40_1⟩ := Zy (v := (.string a0_1)) BK1128.out 1; obtain ⟨hcz40_2, hfz40_2⟩ := Zy (v := (.int .i64 a0_2)) BK1128.out 2; obtain ⟨hcz40_3, hfz40_3⟩ := Zy (v := (.int .i64 a0_3)) BK1128.out 3; obtain ⟨hcz40_4, hfz40_4⟩ := Zy (v := (.int .i64 a0_4)) BK1128.out 4; obtain ⟨hcz40_5, hfz40_5⟩ := Zy (v := (.int .i64 a0_5)) BK1128.out 5; obtain ⟨hcz40_6, hfz40_6⟩ := Zy (v := (.int .i64 a0_6)) BK1128.out 6; obtain ⟨hcz40_7, hfz40_7⟩ := Zy (v := (.int .i64 a0_7)) BK1128.out 7; obtain ⟨hcz40_8, hfz40_8⟩ := Zy (v := (.int .i64 a0_8)) BK1128.out 8; obtain ⟨hcz40_9, hfz40_9⟩ := Zy (v := (.slice A0_9 l0_9.length c0_9)) BK1128.out 9; obtain ⟨hcz40_10, hfz40_10⟩ := Zy (v := (.slice A0_10 l0_10.length c0_10)) BK1128.out 10; obtain ⟨hcz40_11, hfz40_11⟩ := Zy (v := (.slice A0_11 l0_11.length c0_11)) BK1128.out 11; obtain ⟨hcz40_12, hfz40_12⟩ := Zy (v := (.string a0_12)) BK1128.out 12; obtain ⟨hcz41_0, hfz41_0⟩ := Zy (v := (.string t1131)) BK1137.out 0; obtain ⟨hcz41_1, hfz41_1⟩ := Zy (v := (.string t1132)) BK1137.out 1; obtain ⟨hcz41_2, hfz41_2⟩ := Zy (v := (.int .i64 t1133)) BK1137.out 2; obtain ⟨hcz41_3, hfz41_3⟩ := Zy (v := (.int .i64 t1134)) BK1137.out 3; obtain ⟨hcz41_4, hfz41_4⟩ := Zy (v := (.int .i64 t1135)) BK1137.out 4) | ((with_reducible refine Qay (f := 43) rfl ?_); refine goesL_ (some 72) rfl rfl Try.func43 (by kernel_rfl) rfl #[.slice none 0 0, .agg #[.string a0_0, .string a0_1], .int .i64 t1135, .int .i64 a1] rfl (Zl) ?_; (refine (Qbh.calls kj9 _ _ ([] : List (S226)) a0_0 a0_1 t1135 a1 t1149 t1152 t1153 _ ?side1 ?side2 A31.out).mono ?_); (case side1 => exact Kd.C_nil _ _); (case side2 => exact Nat.le_refl _); rintro e w42 ⟨v1150, rfl, ho0, hb⟩; refine ⟨_, rfl, ?_⟩; have HO1151 := Aside0.mk (Kd.R_lower ho0 (Qar (Zc3 GE1128.out GE1137.out GE1145.out))); replace BK1128 := Aside0.mk (Zi BK1128.out hb); replace BK1137 := Aside0.mk (Zi BK1137.out hb); replace BK1145 := Aside0.mk (Zi BK1145.out hb); replace HB := Aside0.mk (Qap (Zc3 GE1128.out GE1137.out GE1145.out) hb); (try clear hb); (try clear hb2); (try clear hk); (try clear hi); (try clear ho0)))
    (try simp only [Act.put, Zj, Zk, Zm])
    go_cut [81] (fun v81 wc => ∃ (kq : Nat) (x81_31 : Bool), v81 = .bool x81_31 ∧ Aside0 (contangotop_TopCallMet.j1 kq t1147 t1149 t1152 t1153 x81_31 a0_0 a0_1 a0_2 a0_3 a0_4 a0_5 a0_6 a0_7 a0_8 l0_9 l0_10 l0_11 a0_12 t1131 t1132 t1133 t1134 t1135 t1138 t1139 t1140 t1141 t1142 t1143 = some r) ∧ Aside0 (kq ≤ kj9) ∧ Aside0 (Kd.R k226 226 wc w.heap.size (fun _ => True) v1150 t1149) ∧ Aside0 (wc.heap[gb1128]? = some (.cells #[.string a0_0, .string a0_1, .int .i64 a0_2, .int .i64 a0_3, .int .i64 a0_4, .int .i64 a0_5, .int .i64 a0_6, .int .i64 a0_7, .int .i64 a0_8, (.slice A0_9 l0_9.length c0_9), (.slice A0_10 l0_10.length c0_10), (.slice A0_11 l0_11.length c0_11), .string a0_12] 106 (0, 0))) ∧ Aside0 (wc.heap[gb1137]? = some (.cells #[.string t1131, .string t1132, .int .i64 t1133, .int .i64 t1134, .int .i64 t1135] 108 (0, 0))) ∧ Aside0 (wc.heap[gb1145]? = some (.cells #[.string t1138, .int .i64 t1139, .int .i64 t1140, .int .i64 t1141, .int .i64 t1142, .int .i64 t1143] 112 (0, 0))) ∧ Aside0 (Below w.heap.size w wc))
    case first =>
     have H := HC32.out
     clear HC32
     by_cases c43 : t1148 = 0
     ·rw [if_pos c43] at H
      have c43b0 : (t1148 == 0) = T := beq_iff_eq.mpr c43
      have c43b1 : (t1148 != 0) = false := bne_eq_false_iff_eq.mpr c43
      clear c43
      have H' := Aside0.mk H
      clear H
      go_wp2
      go_meet
      case rel => exact ⟨_, ((t1153 != 0)), (Zs), H', ⟨by have := HJ9.out; first | omega | exact Nat.le_refl _⟩, ⟨Zr HO1151.out⟩, ⟨Zu BK1128.out⟩, ⟨Zu BK1137.out⟩, ⟨Zu BK1145.out⟩, ⟨Zc3 GE1128.out GE1137.out GE1145.out⟩⟩
     rw [if_neg c43] at H
     have c43b0 : (t1148 == 0) = false := beq_eq_false_iff_ne.mpr c43
     have c43b1 : (t1148 != 0) = T := bne_iff_ne.mpr c43
     have H' := Aside0.mk H
     clear H
     go_wp2
     go_meet
     case rel => exact ⟨_, (T), (Zs), H', ⟨by have := HJ9.out; first | omega | exact Nat.le_refl _⟩, ⟨Zr HO1151.out⟩, ⟨Zu BK1128.out⟩, ⟨Zu BK1137.out⟩, ⟨Zu BK1145.out⟩, ⟨Zc3 GE1128.out GE1137.out GE1145.out⟩⟩
    case rest =>
     clear HC32
     try clear c1
     try clear c2
     try clear p2
     try clear c3
     try clear c4
     try clear c7
     try clear c8
     try clear c14
     try clear c19
     try clear c20
     try clear c22
     try clear c23
     try clear c24
     try clear c25
     try clear c27
     try clear c33
     try clear c34
     try clear c36
     try clear c38
     try clear c39
     try clear c40
     try clear c41
     try clear c42
     try clear c43
     try clear c43b0
     try clear c43b1
     try clear hcz11_0
     try clear hcz11_1
     try clear hcz11_10
     try clear hcz11_11
     try clear hcz11_12
     try clear hcz11_2
     try clear hcz11_3
     try clear hcz11_4
     try clear hcz11_5
     try clear hcz11_6
     try clear hcz11_7
     try clear hcz11_8
     try clear hcz11_9
     try clear hcz15_0
     try clear hcz15_1
     try clear hcz15_2
     try clear hcz15_3
     try clear hcz15_4
     try clear hcz16_0
     try clear hcz16_1
     try clear hcz16_10
     try clear hcz16_11
     try clear hcz16_12
     try clear hcz16_2
     try clear hcz16_3
     try clear hcz16_4
     try clear hcz16_5
     try clear hcz16_6
     try clear hcz16_7
     try clear hcz16_8
     try clear hcz16_9
     try clear hcz21_0
     try clear hcz21_1
     try clear hcz21_2
     try clear hcz21_3
     try clear hcz21_4
     try clear hcz21_5
     try clear hcz26_0
     try clear hcz26_1
     try clear hcz26_2
     try clear hcz26_3
     try clear hcz26_4
     try clear hcz35_0
     try clear hcz35_1
     try clear hcz35_2
     try clear hcz35_3
     try clear hcz35_4
     try clear hcz35_5
     try clear hcz37_0
     try clear hcz37_1
     try clear hcz37_2
     try clear hcz37_3
     try clear hcz37_4
     try clear hcz38_0
     try clear hcz38_1
     try clear hcz38_10
     try clear hcz38_11
     try clear hcz38_12
     try clear hcz38_2
     try clear hcz38_3
     try clear hcz38_4
     try clear hcz38_5
     try clear hcz38_6
     try clear hcz38_7
     try clear hcz38_8
     try clear hcz38_9
     try clear hcz40_0
     try clear hcz40_1
     try clear hcz40_10
     try clear hcz40_11
     try clear hcz40_12
     try clear hcz40_2
     try clear hcz40_3
     try clear hcz40_4
     try clear hcz40_5
     try clear hcz40_6
     try clear hcz40_7
     try clear hcz40_8
     try clear hcz40_9
     try clear hcz41_0
     try clear hcz41_1
     try clear hcz41_2
     try clear hcz41_3
     try clear hcz41_4
     try clear hcz5_0
     try clear hcz5_1
     try clear hcz5_10
     try clear hcz5_11
     try clear hcz5_12
     try clear hcz5_2
     try clear hcz5_3
     try clear hcz5_4
     try clear hcz5_5
     try clear hcz5_6
     try clear hcz5_7
     try clear hcz5_8
     try clear hcz5_9
     try clear hfz11_0
     try clear hfz11_1
     try clear hfz11_10
     try clear hfz11_11
     try clear hfz11_12
     try clear hfz11_2
     try clear hfz11_3
     try clear hfz11_4
     try clear hfz11_5
     try clear hfz11_6
     try clear hfz11_7
     try clear hfz11_8
     try clear hfz11_9
     try clear hfz15_0
     try clear hfz15_1
     try clear hfz15_2
     try clear hfz15_3
     try clear hfz15_4
     try clear hfz16_0
     try clear hfz16_1
     try clear hfz16_10
     try clear hfz16_11
     try clear hfz16_12
     try clear hfz16_2
     try clear hfz16_3
     try clear hfz16_4
     try clear hfz16_5
     try clear hfz16_6
     try clear hfz16_7
     try clear hfz16_8
     try clear hfz16_9
     try clear hfz21_0
     try clear hfz21_1
     try clear hfz21_2
     try clear hfz21_3
     try clear hfz21_4
     try clear hfz21_5
     try clear hfz26_0
     try clear hfz26_1
     try clear hfz26_2
     try clear hfz26_3
     try clear hfz26_4
     try clear hfz35_0
     try clear hfz35_1
     try clear hfz35_2
     try clear hfz35_3
     try clear hfz35_4
     try clear hfz35_5
     try clear hfz37_0
     try clear hfz37_1
     try clear hfz37_2
     try clear hfz37_3
     try clear hfz37_4
     try clear hfz38_0
     try clear hfz38_1
     try clear hfz38_10
     try clear hfz38_11
     try clear hfz38_12
     try clear hfz38_2
     try clear hfz38_3
     try clear hfz38_4
     try clear hfz38_5
     try clear hfz38_6
     try clear hfz38_7
     try clear hfz38_8
     try clear hfz38_9
     try clear hfz40_0
     try clear hfz40_1
     try clear hfz40_10
     try clear hfz40_11
     try clear hfz40_12
     try clear hfz40_2
     try clear hfz40_3
     try clear hfz40_4
     try clear hfz40_5
     try clear hfz40_6
     try clear hfz40_7
     try clear hfz40_8
     try clear hfz40_9
     try clear hfz41_0
     try clear hfz41_1
     try clear hfz41_2
     try clear hfz41_3
     try clear hfz41_4
     try clear hfz5_0
     try clear hfz5_1
     try clear hfz5_10
     try clear hfz5_11
     try clear hfz5_12
     try clear hfz5_2
     try clear hfz5_3
     try clear hfz5_4
     try clear hfz5_5
     try clear hfz5_6
     try clear hfz5_7
     try clear hfz5_8
     try clear hfz5_9
     try clear p2
     obtain ⟨kq, x81_31, rfl, HA, HJ31, HO_11, BK1128, BK1137, BK1145, HB⟩ := hcut
     cases kq with
     | zero => exact absurd HA.out (by simp [contangotop_TopCallMet.j1])
     | succ kj31 =>
      have H := HA.out
      clear HA
      simp only [contangotop_TopCallMet.j1] at H
      by_cases c44 : x81_31 = T
      ·subst c44
       have H1 : (if t1153 = 0 then ((QaF.f kj31).bind fun t1154 => (some t1154)) else (if (t1149.length : Int) = 0 then (if t1152 = 0 then ((QaF.f kj31).bind fun t1155 => (some t1155)) else (none)) else (none))) = some r := by rw [if_pos rfl] at H; exact H
       clear H
       have H := H1
       clear H1
       by_cases c45 : t1153 = 0
       ·rw [if_pos c45] at H
        have c45b0 : (t1153 == 0) = T := beq_iff_eq.mpr c45
        have c45b1 : (t1153 != 0) = false := bne_eq_false_iff_eq.mpr c45
        clear c45
        replace H := Option.bind_eq_some_iff.mp H
        obtain ⟨t1154, A460, H⟩ := H
        replace H : (some t1154) = some r := H
        have A46 := Aside0.mk A460
        clear A460
        obtain rfl := Option.some.inj H
        go_wp2_with (first | (go_at_call 39; (with_reducible refine (QaF.calls kj31  t1154 _ A46.out).mono ?_); rintro e w47 ⟨rfl, hb⟩; replace HO_11 := Aside0.mk (Kd.R_below (Zr HO_11.out) hb); replace BK1128 := Aside0.mk (Zi BK1128.out hb); replace BK1137 := Aside0.mk (Zi BK1137.out hb); replace BK1145 := Aside0.mk (Zi BK1145.out hb); replace HB := Aside0.mk (Qap (Zc3 GE1128.out GE1137.out GE1145.out) hb); (try clear hb); (try clear hb2); (try clear hk); (try clear hi)))
        go_ret
        exact ⟨Zq, Zc3 GE1128.out GE1137.out GE1145.out⟩
       rw [if_neg c45] at H
       have c45b0 : (t1153 == 0) = false := beq_eq_false_iff_ne.mpr c45
       have c45b1 : (t1153 != 0) = T := bne_iff_ne.mpr c45
       by_cases c48 : (t1149.length : Int) = 0
       ·rw [if_pos c48] at H
        have c48b0 : ((t1149.length : Int) == 0) = T := beq_iff_eq.mpr c48
        have c48b1 : ((t1149.length : Int) != 0) = false := bne_eq_false_iff_eq.mpr c48
        clear c48
        by_cases c49 : t1152 = 0
        ·rw [if_pos c49] at H
         have c49b0 : (t1152 == 0) = T := beq_iff_eq.mpr c49
         have c49b1 : (t1152 != 0) = false := bne_eq_false_iff_eq.mpr c49
         clear c49
         replace H := Option.bind_eq_some_iff.mp H
         obtain ⟨t1155, A500, H⟩ := H
         replace H : (some t1155) = some r := H
         have A50 := Aside0.mk A500
         clear A500
         obtain rfl := Option.some.inj H
         obtain ⟨Ao51, co51, eo51⟩ := Kd.R_slice HO_11.out
         subst eo51
         go_wp2_with (first | (go_at_call 39; (with_reducible refine (QaF.calls kj31  t1155 _ A50.out).mono ?_); rintro e w52 ⟨rfl, hb⟩; replace HO_11 := Aside0.mk (Kd.R_below (Zr HO_11.out) hb); replace BK1128 := Aside0.mk (Zi BK1128.out hb); replace BK1137 := Aside0.mk (Zi BK1137.out hb); replace BK1145 := Aside0.mk (Zi BK1145.out hb); replace HB := Aside0.mk (Qap (Zc3 GE1128.out GE1137.out GE1145.out) hb); (try clear hb); (try clear hb2); (try clear hk); (try clear hi)))
         go_ret
         exact ⟨Zq, Zc3 GE1128.out GE1137.out GE1145.out⟩
        rw [if_neg c49] at H
        exact absurd H (by simp)
       rw [if_neg c48] at H
       exact absurd H (by simp)
      replace c44 := Bool.eq_false_iff.mpr c44
      subst c44
      have H1 : ((QaZ.f kj31 t1138 t1139 t1140 t1141 t1142 t1143 t1147 l0_11).bind fun bt1156 => ((Qbs.f kj31 t1149 a0_0 a0_1 bt1156.1).bind fun bt1158 => ((Qbd.f kj31 bt1158.1 a0_0 a0_1).bind fun bt1163 => ((Qbp.f kj31 bt1158.1 73048).bind fun bt1165 => ((Qbc.f kj31 bt1158.1).bind fun bt1169 => (if t1152 = 1 then (if bt1156.2 = 0 then (if bt1158.2.2 = 0 then (if bt1158.2.1 = (wrap64 (bt1156.1 - t1135)) then (if bt1163.1 = 0 then (if bt1163.2 = 0 then (if (bt1165.1.length : Int) = 0 then (if bt1165.2 = 0 then (if (bt1169.1.length : Int) = 0 then (if bt1169.2 = 0 then ((QaF.f kj31).bind fun t1173 => (some t1173)) else (none)) else (none)) else (none)) else (none)) else (none)) else (none)) else (none)) else (none)) else (none)) else (none))))))) = some r := by rw [if_neg (show ¬ (false = T) by decide)] at H; exact H
      clear H
      have H := H1
      clear H1
      replace H := Option.bind_eq_some_iff.mp H
      obtain ⟨⟨t1156, t1157⟩, A530, H⟩ := H
      replace H : ((Qbs.f kj31 t1149 a0_0 a0_1 t1156).bind fun bt1158 => ((Qbd.f kj31 bt1158.1 a0_0 a0_1).bind fun bt1163 => ((Qbp.f kj31 bt1158.1 73048).bind fun bt1165 => ((Qbc.f kj31 bt1158.1).bind fun bt1169 => (if t1152 = 1 then (if t1157 = 0 then (if bt1158.2.2 = 0 then (if bt1158.2.1 = (wrap64 (t1156 - t1135)) then (if bt1163.1 = 0 then (if bt1163.2 = 0 then (if (bt1165.1.length : Int) = 0 then (if bt1165.2 = 0 then (if (bt1169.1.length : Int) = 0 then (if bt1169.2 = 0 then ((QaF.f kj31).bind fun t1173 => (some t1173)) else (none)) else (none)) else (none)) else (none)) else (none)) else (none)) else (none)) else (none)) else (none)) else (none)))))) = some r := H
      have A53 := Aside0.mk A530
      clear A530
      replace H := Option.bind_eq_some_iff.mp H
      obtain ⟨⟨t1158, t1161, t1162⟩, A540, H⟩ := H
      replace H : ((Qbd.f kj31 t1158 a0_0 a0_1).bind fun bt1163 => ((Qbp.f kj31 t1158 73048).bind fun bt1165 => ((Qbc.f kj31 t1158).bind fun bt1169 => (if t1152 = 1 then (if t1157 = 0 then (if t1162 = 0 then (if t1161 = (wrap64 (t1156 - t1135)) then (if bt1163.1 = 0 then (if bt1163.2 = 0 then (if (bt1165.1.length : Int) = 0 then (if bt1165.2 = 0 then (if (bt1169.1.length : Int) = 0 then (if bt1169.2 = 0 then ((QaF.f kj31).bind fun t1173 => (some t1173)) else (none)) else (none)) else (none)) else (none)) else (none)) else (none)) else (none)) else (none)) else (none)) else (none))))) = some r := H
      have A54 := Aside0.mk A540
      clear A540
      replace H := Option.bind_eq_some_iff.mp H
      obtain ⟨⟨t1163, t1164⟩, A550, H⟩ := H
      replace H : ((Qbp.f kj31 t1158 73048).bind fun bt1165 => ((Qbc.f kj31 t1158).bind fun bt1169 => (if t1152 = 1 then (if t1157 = 0 then (if t1162 = 0 then (if t1161 = (wrap64 (t1156 - t1135)) then (if t1163 = 0 then (if t1164 = 0 then (if (bt1165.1.length : Int) = 0 then (if bt1165.2 = 0 then (if (bt1169.1.length : Int) = 0 then (if bt1169.2 = 0 then ((QaF.f kj31).bind fun t1173 => (some t1173)) else (none)) else (none)) else (none)) else (none)) else (none)) else (none)) else (none)) else (none)) else (none)) else (none)))) = some r := H
      have A55 := Aside0.mk A550
      clear A550
      replace H := Option.bind_eq_some_iff.mp H
      obtain ⟨⟨t1165, t1166⟩, A560, H⟩ := H
      replace H : ((Qbc.f kj31 t1158).bind fun bt1169 => (if t1152 = 1 then (if t1157 = 0 then (if t1162 = 0 then (if t1161 = (wrap64 (t1156 - t1135)) then (if t1163 = 0 then (if t1164 = 0 then (if (t1165.length : Int) = 0 then (if t1166 = 0 then (if (bt1169.1.length : Int) = 0 then (if bt1169.2 = 0 then ((QaF.f kj31).bind fun t1173 => (some t1173)) else (none)) else (none)) else (none)) else (none)) else (none)) else (none)) else (none)) else (none)) else (none)) else (none))) = some r := H
      have A56 := Aside0.mk A560
      clear A560
      replace H := Option.bind_eq_some_iff.mp H
      obtain ⟨⟨t1169, t1170⟩, A570, H⟩ := H
      replace H : (if t1152 = 1 then (if t1157 = 0 then (if t1162 = 0 then (if t1161 = (wrap64 (t1156 - t1135)) then (if t1163 = 0 then (if t1164 = 0 then (if (t1165.length : Int) = 0 then (if t1166 = 0 then (if (t1169.length : Int) = 0 then (if t1170 = 0 then ((QaF.f kj31).bind fun t1173 => (some t1173)) else (none)) else (none)) else (none)) else (none)) else (none)) else (none)) else (none)) else (none)) else (none)) else (none)) = some r := H
      have A57 := Aside0.mk A570
      clear A570
      have hnb58 := NB1145_1128.out
      have hnc58 := NB1128_1145.out
      have hnb59 := NB1145_1137.out
      have hnc59 := NB1137_1145.out
      obtain ⟨hcz60_0, hfz60_0⟩ := Zy (v := (.string t1138)) BK1145.out 0
      obtain ⟨hcz60_1, hfz60_1⟩ := Zy (v := (.int .i64 t1139)) BK1145.out 1
      obtain ⟨hcz60_2, hfz60_2⟩ := Zy (v := (.int .i64 t1140)) BK1145.out 2
      obtain ⟨hcz60_3, hfz60_3⟩ := Zy (v := (.int .i64 t1141)) BK1145.out 3
      obtain ⟨hcz60_4, hfz60_4⟩ := Zy (v := (.int .i64 t1142)) BK1145.out 4
      obtain ⟨hcz60_5, hfz60_5⟩ := Zy (v := (.int .i64 t1143)) BK1145.out 5
      have hnb61 := NB1128_1137.out
      have hnc61 := NB1137_1128.out
      obtain ⟨hcz62_0, hfz62_0⟩ := Zy (v := (.string a0_0)) BK1128.out 0
      obtain ⟨hcz62_1, hfz62_1⟩ := Zy (v := (.string a0_1)) BK1128.out 1
      obtain ⟨hcz62_2, hfz62_2⟩ := Zy (v := (.int .i64 a0_2)) BK1128.out 2
      obtain ⟨hcz62_3, hfz62_3⟩ := Zy (v := (.int .i64 a0_3)) BK1128.out 3
      obtain ⟨hcz62_4, hfz62_4⟩ := Zy (v := (.int .i64 a0_4)) BK1128.out 4
      obtain ⟨hcz62_5, hfz62_5⟩ := Zy (v := (.int .i64 a0_5)) BK1128.out 5
      obtain ⟨hcz62_6, hfz62_6⟩ := Zy (v := (.int .i64 a0_6)) BK1128.out 6
      obtain ⟨hcz62_7, hfz62_7⟩ := Zy (v := (.int .i64 a0_7)) BK1128.out 7
      obtain ⟨hcz62_8, hfz62_8⟩ := Zy (v := (.int .i64 a0_8)) BK1128.out 8
      obtain ⟨hcz62_9, hfz62_9⟩ := Zy (v := (.slice A0_9 l0_9.length c0_9)) BK1128.out 9
      obtain ⟨hcz62_10, hfz62_10⟩ := Zy (v := (.slice A0_10 l0_10.length c0_10)) BK1128.out 10
      obtain ⟨hcz62_11, hfz62_11⟩ := Zy (v := (.slice A0_11 l0_11.length c0_11)) BK1128.out 11
      obtain ⟨hcz62_12, hfz62_12⟩ := Zy (v := (.string a0_12)) BK1128.out 12
      go_upto_region 16 with (first | ((with_reducible refine Qay (f := 44) rfl ?_); refine goesL_ (some 101) rfl rfl Try.func44 (by kernel_rfl) rfl #[.agg #[.string t1138, .int .i64 t1139, .int .i64 t1140, .int .i64 t1141, .int .i64 t1142, .int .i64 t1143], .int .i64 t1147, .slice A0_11 l0_11.length c0_11] rfl (Zl) ?_; (with_reducible refine (QaZ.calls kj31 t1138 t1139 t1140 t1141 t1142 t1143 t1147 _ _ l0_11 t1156 t1157 _ ?side1 ?side2 A53.out).mono ?_); (case side1 => exact Zv (Kd.C_below HR0_11.out HB.out)); (case side2 => exact HC0_11.out); rintro e w63 ⟨rfl, hb⟩; refine ⟨_, rfl, ?_⟩; replace HO_11 := Aside0.mk (Kd.R_below (Zr HO_11.out) hb); replace BK1128 := Aside0.mk (Zi BK1128.out hb); replace BK1137 := Aside0.mk (Zi BK1137.out hb); replace BK1145 := Aside0.mk (Zi BK1145.out hb); replace HB := Aside0.mk (Qap (Zc3 GE1128.out GE1137.out GE1145.out) hb); (try clear hb); (try clear hb2); (try clear hk); (try clear hi); obtain ⟨hcz64_0, hfz64_0⟩ := Zy (v := (.string a0_0)) BK1128.out 0; obtain ⟨hcz64_1, hfz64_1⟩ := Zy (v := (.string a0_1)) BK1128.out 1; obtain ⟨hcz64_2, hfz64_2⟩ := Zy (v := (.int .i64 a0_2)) BK1128.out 2; obtain ⟨hcz64_3, hfz64_3⟩ := Zy (v := (.int .i64 a0_3)) BK1128.out 3; obtain ⟨hcz64_4, hfz64_4⟩ := Zy (v := (.int .i64 a0_4)) BK1128.out 4; obtain ⟨hcz64_5, hfz64_5⟩ := Zy (v := (.int .i64 a0_5)) BK1128.out 5; obtain ⟨hcz64_6, hfz64_6⟩ := Zy (v := (.int .i64 a0_6)) BK1128.out 6; obtain ⟨hcz64_7, hfz64_7⟩ := Zy (v := (.int .i64 a0_7)) BK1128.out 7; obtain ⟨hcz64_8, hfz64_8⟩ := Zy (v := (.int .i64 a0_8)) BK1128.out 8; obtain ⟨hcz64_9, hfz64_9⟩ := Zy (v := (.slice A0_9 l0_9.length c0_9)) BK1128.out 9; obtain ⟨hcz64_10, hfz64_10⟩ := Zy (v := (.slice A0_10 l0_10.length c0_10)) BK1128.out 10; obtain ⟨hcz64_11, hfz64_11⟩ := Zy (v := (.slice A0_11 l0_11.length c0_11)) BK1128.out 11; obtain ⟨hcz64_12, hfz64_12⟩ := Zy (v := (.string a0_12)) BK1128.out 12; obtain ⟨Ao65, co65, eo65⟩ := Kd.R_slice HO_11.out; subst eo65) | ((with_reducible refine Qay (f := 45) rfl ?_); refine goesL_ (some 110) rfl rfl Try.func45 (by kernel_rfl) rfl #[.slice Ao65 t1149.length co65, .agg #[.string a0_0, .string a0_1], .int .i64 t1156] rfl (Zl) ?_; (with_reducible refine (Qbs.calls kj31 _ _ t1149 a0_0 a0_1 t1156 t1158 t1161 t1162 _ ?side1 ?side2 A54.out).mono ?_); (case side1 => exact Zv (Kd.R_reads' HO_11.out).2.2); (case side2 => exact (Kd.R_reads' HO_11.out).2.1); rintro e w66 ⟨v1159, rfl, ho0, hb⟩; refine ⟨_, rfl, ?_⟩; have HO1160 := Aside0.mk (Kd.R_lower (Kd.R_new' ho0 (Kd.R_lt (Zr HO_11.out))) (Qar (Zc3 GE1128.out GE1137.out GE1145.out))); replace HO_11 := Aside0.mk (Kd.R_elder' (Zr HO_11.out) (Kd.R_base ho0) hb); replace BK1128 := Aside0.mk (Zi BK1128.out hb); replace BK1137 := Aside0.mk (Zi BK1137.out hb); replace BK1145 := Aside0.mk (Zi BK1145.out hb); replace HB := Aside0.mk (Qap (Zc3 GE1128.out GE1137.out GE1145.out) hb); (try clear hb); (try clear hb2); (try clear hk); (try clear hi); (try clear ho0); obtain ⟨hcz67_0, hfz67_0⟩ := Zy (v := (.string a0_0)) BK1128.out 0; obtain ⟨hcz67_1, hfz67_1⟩ := Zy (v := (.string a0_1)) BK1128.out 1; obtain ⟨hcz67_2, hfz67_2⟩ := Zy (v := (.int .i64 a0_2)) BK1128.out 2; obtain ⟨hcz67_3, hfz67_3⟩ := Zy (v := (.int .i64 a0_3)) BK1128.out 3; obtain ⟨hcz67_4, hfz67_4⟩ := Zy (v := (.int .i64 a0_4)) BK1128.out 4; obtain ⟨hcz67_5, hfz67_5⟩ := Zy (v := (.int .i64 a0_5)) BK1128.out 5; obtain ⟨hcz67_6, hfz67_6⟩ := Zy (v := (.int .i64 a0_6)) BK1128.out 6; obtain ⟨hcz67_7, hfz67_7⟩ := Zy (v := (.int .i64 a0_7)) BK1128.out 7; obtain ⟨hcz67_8, hfz67_8⟩ := Zy (v := (.int .i64 a0_8)) BK1128.out 8; obtain ⟨hcz67_9, hfz67_9⟩ := Zy (v := (.slice A0_9 l0_9.length c0_9)) BK1128.out 9; obtain ⟨hcz67_10, hfz67_10⟩ := Zy (v := (.slice A0_10 l0_10.length c0_10)) BK1128.out 10; obtain ⟨hcz67_11, hfz67_11⟩ := Zy (v := (.slice A0_11 l0_11.length c0_11)) BK1128.out 11; obtain ⟨hcz67_12, hfz67_12⟩ := Zy (v := (.string a0_12)) BK1128.out 12; obtain ⟨Ao68, co68, eo68⟩ := Kd.R_slice HO1160.out; subst eo68) | ((with_reducible refine Qay (f := 46) rfl ?_); refine goesL_ (some 119) rfl rfl Try.func46 (by kernel_rfl) rfl #[.slice Ao68 t1158.length co68, .agg #[.string a0_0, .string a0_1]] rfl (Zl) ?_; (with_reducible refine (Qbd.calls kj31 _ _ t1158 a0_0 a0_1 t1163 t1164 _ ?side1 ?side2 A55.out).mono ?_); (case side1 => exact Zv (Kd.R_reads' HO1160.out).2.2); (case side2 => exact (Kd.R_reads' HO1160.out).2.1); rintro e w69 ⟨rfl, hb⟩; refine ⟨_, rfl, ?_⟩; replace HO_11 := Aside0.mk (Kd.R_below (Zr HO_11.out) hb); replace HO1160 := Aside0.mk (Kd.R_below (Zr HO1160.out) hb); replace BK1128 := Aside0.mk (Zi BK1128.out hb); replace BK1137 := Aside0.mk (Zi BK1137.out hb); replace BK1145 := Aside0.mk (Zi BK1145.out hb); replace HB := Aside0.mk (Qap (Zc3 GE1128.out GE1137.out GE1145.out) hb); (try clear hb); (try clear hb2); (try clear hk); (try clear hi)) | ((with_reducible refine Qay (f := 47) rfl ?_); refine goesL_ (some 124) rfl rfl Try.func47 (by kernel_rfl) rfl #[.slice Ao68 t1158.length co68, .int .i64 73048] rfl (Zl) ?_; (with_reducible refine (Qbp.calls kj31 _ _ t1158 73048 t1165 t1166 _ ?side1 ?side2 A56.out).mono ?_); (case side1 => exact Zv (Kd.R_reads' HO1160.out).2.2); (case side2 => exact (Kd.R_reads' HO1160.out).2.1); rintro e w70 ⟨v1167, rfl, ho0, hb⟩; refine ⟨_, rfl, ?_⟩; have HO1168 := Aside0.mk (Kd.R_lower (Kd.R_new' (Kd.R_new' ho0 (Kd.R_lt (Zr HO_11.out))) (Kd.R_lt (Zr HO1160.out))) (Qar (Zc3 GE1128.out GE1137.out GE1145.out))); replace HO_11 := Aside0.mk (Kd.R_elder' (Zr HO_11.out) (Kd.R_base ho0) hb); replace HO1160 := Aside0.mk (Kd.R_elder' (Zr HO1160.out) (Kd.R_base ho0) hb); replace BK1128 := Aside0.mk (Zi BK1128.out hb); replace BK1137 := Aside0.mk (Zi BK1137.out hb); replace BK1145 := Aside0.mk (Zi BK1145.out hb); replace HB := Aside0.mk (Qap (Zc3 GE1128.out GE1137.out GE1145.out) hb); (try clear hb); (try clear hb2); (try clear hk); (try clear hi); (try clear ho0)) | ((with_reducible refine Qay (f := 48) rfl ?_); refine goesL_ (some 129) rfl rfl Try.func48 (by kernel_rfl) rfl #[.slice Ao68 t1158.length co68] rfl (Zl) ?_; (with_reducible refine (Qbc.calls kj31 _ _ t1158 t1169 t1170 _ ?side1 ?side2 A57.out).mono ?_); (case side1 => exact Zv (Kd.R_reads' HO1160.out).2.2); (case side2 => exact (Kd.R_reads' HO1160.out).2.1); rintro e w71 ⟨v1171, rfl, ho0, hb⟩; refine ⟨_, rfl, ?_⟩; have HO1172 := Aside0.mk (Kd.R_lower (Kd.R_new' (Kd.R_new' (Kd.R_new' ho0 (Kd.R_lt (Zr HO_11.out))) (Kd.R_lt (Zr HO1160.out))) (Kd.R_lt (Zr HO1168.out))) (Qar (Zc3 GE1128.out GE1137.out GE1145.out))); replace HO_11 := Aside0.mk (Kd.R_elder' (Zr HO_11.out) (Kd.R_base ho0) hb); replace HO1160 := Aside0.mk (Kd.R_elder' (Zr HO1160.out) (Kd.R_base ho0) hb); replace HO1168 := Aside0.mk (Kd.R_elder' (Zr HO1168.out) (Kd.R_base ho0) hb); replace BK1128 := Aside0.mk (Zi BK1128.out hb); replace BK1137 := Aside0.mk (Zi BK1137.out hb); replace BK1145 := Aside0.mk (Zi BK1145.out hb); replace HB := Aside0.mk (Qap (Zc3 GE1128.out GE1137.out GE1145.out) hb); (try clear hb); (try clear hb2); (try clear hk); (try clear hi); (try clear ho0)))
      (try simp only [Act.put, Zj, Zk, Zm])
      by_cases c72 : t1152 = 1
      ·rw [if_pos c72] at H
       have c72b0 : (t1152 == 1) = T := beq_iff_eq.mpr c72
       have c72b1 : (t1152 != 1) = false := bne_eq_false_iff_eq.mpr c72
       clear c72
       (try simp only [c72b0, c72b1])
       by_cases c73 : t1157 = 0
       ·rw [if_pos c73] at H
        have c73b0 : (t1157 == 0) = T := beq_iff_eq.mpr c73
        have c73b1 : (t1157 != 0) = false := bne_eq_false_iff_eq.mpr c73
        clear c73
        by_cases c74 : t1162 = 0
        ·rw [if_pos c74] at H
         have c74b0 : (t1162 == 0) = T := beq_iff_eq.mpr c74
         have c74b1 : (t1162 != 0) = false := bne_eq_false_iff_eq.mpr c74
         clear c74
         by_cases c75 : t1161 = (wrap64 (t1156 - t1135))
         ·rw [if_pos c75] at H
          have c75b0 : (t1161 == (wrap64 (t1156 - t1135))) = T := beq_iff_eq.mpr c75
          have c75b1 : (t1161 != (wrap64 (t1156 - t1135))) = false := bne_eq_false_iff_eq.mpr c75
          clear c75
          by_cases c76 : t1163 = 0
          ·rw [if_pos c76] at H
           have c76b0 : (t1163 == 0) = T := beq_iff_eq.mpr c76
           have c76b1 : (t1163 != 0) = false := bne_eq_false_iff_eq.mpr c76
           clear c76
           by_cases c77 : t1164 = 0
           ·rw [if_pos c77] at H
            have c77b0 : (t1164 == 0) = T := beq_iff_eq.mpr c77
            have c77b1 : (t1164 != 0) = false := bne_eq_false_iff_eq.mpr c77
            clear c77
            by_cases c78 : (t1165.length : Int) = 0
            ·rw [if_pos c78] at H
             have c78b0 : ((t1165.length : Int) == 0) = T := beq_iff_eq.mpr c78
             have c78b1 : ((t1165.length : Int) != 0) = false := bne_eq_false_iff_eq.mpr c78
             clear c78
             by_cases c79 : t1166 = 0
             ·rw [if_pos c79] at H
              have c79b0 : (t1166 == 0) = T := beq_iff_eq.mpr c79
              have c79b1 : (t1166 != 0) = false := bne_eq_false_iff_eq.mpr c79
              clear c79
              by_cases c80 : (t1169.length : Int) = 0
              ·rw [if_pos c80] at H
               have c80b0 : ((t1169.length : Int) == 0) = T := beq_iff_eq.mpr c80
               have c80b1 : ((t1169.length : Int) != 0) = false := bne_eq_false_iff_eq.mpr c80
               clear c80
               by_cases c81 : t1170 = 0
               ·rw [if_pos c81] at H
                have c81b0 : (t1170 == 0) = T := beq_iff_eq.mpr c81
                have c81b1 : (t1170 != 0) = false := bne_eq_false_iff_eq.mpr c81
                clear c81
                replace H := Option.bind_eq_some_iff.mp H
                obtain ⟨t1173, A820, H⟩ := H
                replace H : (some t1173) = some r := H
                have A82 := Aside0.mk A820
                clear A820
                obtain rfl := Option.some.inj H
                have hnb83 := NB1137_1128.out
                have hnc83 := NB1128_1137.out
                have hnb84 := NB1137_1145.out
                have hnc84 := NB1145_1137.out
                obtain ⟨hcz85_0, hfz85_0⟩ := Zy (v := (.string t1131)) BK1137.out 0
                obtain ⟨hcz85_1, hfz85_1⟩ := Zy (v := (.string t1132)) BK1137.out 1
                obtain ⟨hcz85_2, hfz85_2⟩ := Zy (v := (.int .i64 t1133)) BK1137.out 2
                obtain ⟨hcz85_3, hfz85_3⟩ := Zy (v := (.int .i64 t1134)) BK1137.out 3
                obtain ⟨hcz85_4, hfz85_4⟩ := Zy (v := (.int .i64 t1135)) BK1137.out 4
                obtain ⟨Ao86, co86, eo86⟩ := Kd.R_slice HO1168.out
                subst eo86
                obtain ⟨Ao87, co87, eo87⟩ := Kd.R_slice HO1172.out
                subst eo87
                go_wp2_with (first | (go_at_call 39; (with_reducible refine (QaF.calls kj31  t1173 _ A82.out).mono ?_); rintro e w88 ⟨rfl, hb⟩; replace HO_11 := Aside0.mk (Kd.R_below (Zr HO_11.out) hb); replace HO1160 := Aside0.mk (Kd.R_below (Zr HO1160.out) hb); replace HO1168 := Aside0.mk (Kd.R_below (Zr HO1168.out) hb); replace HO1172 := Aside0.mk (Kd.R_below (Zr HO1172.out) hb); replace BK1128 := Aside0.mk (Zi BK1128.out hb); replace BK1137 := Aside0.mk (Zi BK1137.out hb); replace BK1145 := Aside0.mk (Zi BK1145.out hb); replace HB := Aside0.mk (Qap (Zc3 GE1128.out GE1137.out GE1145.out) hb); (try clear hb); (try clear hb2); (try clear hk); (try clear hi)))
                go_ret
                exact ⟨Zq, Zc3 GE1128.out GE1137.out GE1145.out⟩
               rw [if_neg c81] at H
               exact absurd H (by simp)
              rw [if_neg c80] at H
              exact absurd H (by simp)
             rw [if_neg c79] at H
             exact absurd H (by simp)
            rw [if_neg c78] at H
            exact absurd H (by simp)
           rw [if_neg c77] at H
           exact absurd H (by simp)
          rw [if_neg c76] at H
          exact absurd H (by simp)
         rw [if_neg c75] at H
         exact absurd H (by simp)
        rw [if_neg c74] at H
        exact absurd H (by simp)
       rw [if_neg c73] at H
       exact absurd H (by simp)
      rw [if_neg c72] at H
      exact absurd H (by simp)
 replace c7 := Bool.eq_false_iff.mpr c7
 subst c7
 have H1 : ((QaF.f k).bind fun t1130 => (some t1130)) = some r := by rw [if_neg (show ¬ (false = T) by decide)] at H; exact H
 clear H
 have H := H1
 clear H1
 replace H := Option.bind_eq_some_iff.mp H
 obtain ⟨t1130, A890, H⟩ := H
 replace H : (some t1130) = some r := H
 have A89 := Aside0.mk A890
 clear A890
 obtain rfl := Option.some.inj H
 go_wp2_with (first | ((with_reducible refine Qay (f := 39) rfl ?_); refine goesL_ (some 28) rfl rfl Try.func39 (by kernel_rfl) rfl #[] rfl (Zl) ?_; (with_reducible refine (QaF.calls k  t1130 _ A89.out).mono ?_); rintro e w90 ⟨rfl, hb⟩; refine ⟨_, rfl, ?_⟩; replace BK1128 := Aside0.mk (Zi BK1128.out hb); replace HB := Aside0.mk (Qap (Zc1 GE1128.out) hb); (try clear hb); (try clear hb2); (try clear hk); (try clear hi)))
 go_ret
 exact ⟨Zq, Zc1 GE1128.out⟩
end Go.Proofs.Ytgnmhfjfefgbfaa.Pr
