/- Functions' values and contracts, as the print wrote them. -/
import Derived.Test.YtfcaaefdmabkhaaQ7F9P0
import Derived.Test.YtfcaaefdmabkhaaQ7F9P4
import Derived.Test.YtfcaaefdmabkhaaQ7F9P2
import Derived.Test.YtfcaaefdmabkhaaQ7F9P3
import Derived.Test.YtfcaaefdmabkhaaQ7F9P5
import Derived.Test.YtfcaaefdmabkhaaQ7F9P8
namespace Go.Proofs.Ytfcaaefdmabkhaa.Pr
open Bool renaming true → T
open Bool renaming false → F
open Go.RowKit Go.Proofs.YtfcaaefdmabkhaaW.PrintWords Go.Proofs.YtfcaaefdmabkhaaW.PrintLast Go.Proofs.YtfcaaefdmabkhaaW.PrintMore
attribute [local go_sem] QaR QaT Qa0 Qa1 QaJ QaK QaS QaU   -- for this text's walks alone
set_option linter.unusedVariables false
set_option linter.unusedSimpArgs false
mutual
def contangolaw33_LimitCaps.j0 : Nat → List Int → List (S46) → Bool → List (S46) → ByteArray → ByteArray → Int → List (S84) → List (S98) → Option (Bool)
 | 0, _, _, _, _, _, _, _, _, _ => none
 | k + 1, x3, x5, x86, x887000, x887001, x887002, x887003, x887004, x887005 => if x86 = T then (some F) else (contangolaw33_LimitCaps.l0 k x3 x5 0 x887000 x887001 x887002 x887003 x887004 x887005)
def contangolaw33_LimitCaps.l0 : Nat → List Int → List (S46) → Int → List (S46) → ByteArray → ByteArray → Int → List (S84) → List (S98) → Option (Bool)
 | 0, _, _, _, _, _, _, _, _, _ => none
 | k + 1, x3, x5, x10, x887000, x887001, x887002, x887003, x887004, x887005 => if x10 < (x3.length : Int) then (if 0 ≤ x10 then (if x10 < (x5.length : Int) then ((QaI.f k x887004 ((rd_T46 x5 x10).f1)).bind fun bt903 => ((Qa6.f k bt903.1 bt903.2.1 bt903.2.2.1 bt903.2.2.2.1 bt903.2.2.2.2.1 bt903.2.2.2.2.2.1 ((rd_T46 x5 x10).f2) x887005).bind fun bt912 => (if (rd x3 x10) < 0 then (some F) else (if (rd x3 x10) > (wrap64 ((wrap64 ((wrap64 (Int.tdiv x887003 1000)) * bt903.2.2.2.2.2.1)) + (wrap64 (Int.tdiv (wrap64 ((Int.tmod x887003 1000) * bt903.2.2.2.2.2.1)) 1000)))) then (some F) else (if (rd x3 x10) > bt912.1 then (some F) else (if (rd x3 x10) < (wrap64 ((wrap64 ((wrap64 (Int.tdiv x887003 1000)) * bt903.2.2.2.2.2.1)) + (wrap64 (Int.tdiv (wrap64 ((Int.tmod x887003 1000) * bt903.2.2.2.2.2.1)) 1000)))) then (if (rd x3 x10) < bt912.1 then (some F) else (contangolaw33_LimitCaps.l0 k x3 x5 (wrap64 (x10 + 1)) x887000 x887001 x887002 x887003 x887004 x887005)) else (contangolaw33_LimitCaps.l0 k x3 x5 (wrap64 (x10 + 1)) x887000 x887001 x887002 x887003 x887004 x887005))))))) else (none)) else (none)) else ((Qa3.f k).bind fun t901 => (some t901))
end
def contangolaw33_LimitCaps.f (k : Nat) (l0_0 : List (S46)) (a0_1 : ByteArray) (a0_2 : ByteArray) (a0_3 : Int) (l0_4 : List (S84)) (l0_5 : List (S98)) : Option (Bool) := (QbP.f l0_0 a0_1 a0_2 a0_3 l0_4 l0_5).bind fun t887 => (if t887 = T then ((Qaw.f k l0_0 a0_1 a0_2 a0_3 l0_4 l0_5).bind fun bt889 => (if bt889.2 = 0 then ((QaG.f k l0_0 a0_1 a0_2).bind fun t894 => ((Qaz.f k l0_0 a0_1 a0_2 l0_4 l0_5).bind fun bt897 => ((Qa8.f k l0_0 a0_1 a0_2 a0_3 l0_4 l0_5).bind fun bt899 => (if bt899.2 = 0 then (if bt899.1 > bt897.1 then (contangolaw33_LimitCaps.j0 k bt889.1 t894 T l0_0 a0_1 a0_2 a0_3 l0_4 l0_5) else (contangolaw33_LimitCaps.j0 k bt889.1 t894 ((bt889.1.length : Int) != (t894.length : Int)) l0_0 a0_1 a0_2 a0_3 l0_4 l0_5)) else (contangolaw33_LimitCaps.j0 k bt889.1 t894 T l0_0 a0_1 a0_2 a0_3 l0_4 l0_5))))) else (if (bt889.1.length : Int) = 0 then ((Qa3.f k).bind fun t893 => (some t893)) else (some F)))) else ((Qa3.f k).bind fun t888 => (some t888)))
theorem contangolaw33_LimitCaps.mono_l : ∀ k, (∀ y0 y1 y2 y3 y4 y5 y6 y7 y8, LeO (contangolaw33_LimitCaps.j0 k y0 y1 y2 y3 y4 y5 y6 y7 y8) (contangolaw33_LimitCaps.j0 (k + 1) y0 y1 y2 y3 y4 y5 y6 y7 y8)) ∧ (∀ y0 y1 y2 y3 y4 y5 y6 y7 y8, LeO (contangolaw33_LimitCaps.l0 k y0 y1 y2 y3 y4 y5 y6 y7 y8) (contangolaw33_LimitCaps.l0 (k + 1) y0 y1 y2 y3 y4 y5 y6 y7 y8))
 | 0 => ⟨fun _ _ _ _ _ _ _ _ _ r h => by simp [contangolaw33_LimitCaps.j0] at h, fun _ _ _ _ _ _ _ _ _ r h => by simp [contangolaw33_LimitCaps.l0] at h⟩
 | k + 1 => by
  obtain ⟨ih0, ih1⟩ := contangolaw33_LimitCaps.mono_l k
  refine ⟨?_, ?_⟩
  ·intro y0 y1 y2 y3 y4 y5 y6 y7 y8
   unfold contangolaw33_LimitCaps.j0
   exact ZM9 ih0 ih1 Qa3.mono QaI.mono Qa6.mono QaG.mono Qaz.mono Qaw.mono Qa8.mono
  intro y0 y1 y2 y3 y4 y5 y6 y7 y8
  unfold contangolaw33_LimitCaps.l0
  exact ZM9 ih0 ih1 Qa3.mono QaI.mono Qa6.mono QaG.mono Qaz.mono Qaw.mono Qa8.mono
theorem contangolaw33_LimitCaps.mono : ∀ a0 a1 a2 a3 a4 a5 k, LeO (contangolaw33_LimitCaps.f k a0 a1 a2 a3 a4 a5) (contangolaw33_LimitCaps.f (k + 1) a0 a1 a2 a3 a4 a5) := by
 intro a0 a1 a2 a3 a4 a5 k
 obtain ⟨ih0, ih1⟩ := contangolaw33_LimitCaps.mono_l k
 unfold contangolaw33_LimitCaps.f
 exact ZM9 ih0 ih1 Qa3.mono QaI.mono Qa6.mono QaG.mono Qaz.mono Qaw.mono Qa8.mono
def contangolaw33_LimitCaps.T14 : Bool × List (List Nat × List Nat) := (T, [([], []), ([0], [0]), ([], []), ([], []), ([2, 3], [2, 3]), ([4], [4]), ([5], [5]), ([1, 6], [1, 6]), ([7], [7]), ([8], [8]), ([8], [8]), ([], []), ([11, 9, 7, 0, 1, 2, 3, 4, 5, 6, 7, 8, 9, 11], [9, 11]), ([10, 12, 0, 1, 2, 3, 4, 5, 6, 7, 8, 9, 10, 11, 12], [10])])
def contangolaw33_LimitCaps.B14 : List Nat := [0, 1, 0, 0, 12, 28, 60, 127, 255, 511, 511, 0, 3071, 8191]
theorem contangolaw33_LimitCaps.tab14 : rtab .any (opsOf Try.f12 14) = contangolaw33_LimitCaps.T14 := by kernel_rfl
theorem contangolaw33_LimitCaps.bits14 : QbY contangolaw33_LimitCaps.T14.2 contangolaw33_LimitCaps.B14 = T := by kernel_rfl
def contangolaw33_LimitCaps.T15 : Bool × List (List Nat × List Nat) := (T, [([], []), ([], []), ([], []), ([1, 2], [1, 2]), ([3], [3]), ([4], [4]), ([], []), ([6], [6]), ([0, 5, 7], [0, 5, 7]), ([8], [8]), ([9], [9]), ([9], [9]), ([10, 8, 0, 1, 2, 3, 4, 5, 6, 7, 8, 9, 10], [10]), ([11, 12, 0, 1, 2, 3, 4, 5, 6, 7, 8, 9, 10, 11, 12], [11])])
def contangolaw33_LimitCaps.B15 : List Nat := [0, 0, 0, 6, 14, 30, 0, 64, 255, 511, 1023, 1023, 2047, 8191]
theorem contangolaw33_LimitCaps.tab15 : rtab .any (opsOf Try.f12 15) = contangolaw33_LimitCaps.T15 := by kernel_rfl
theorem contangolaw33_LimitCaps.bits15 : QbY contangolaw33_LimitCaps.T15.2 contangolaw33_LimitCaps.B15 = T := by kernel_rfl
set_option maxHeartbeats 8000000 in
set_option maxRecDepth 100000 in
theorem contangolaw33_LimitCaps.calls (k : Nat) (A0_0 : Option Addr) (c0_0 : Nat) (l0_0 : List (S46)) (a0_1 : ByteArray) (a0_2 : ByteArray) (a0_3 : Int) (A0_4 : Option Addr) (c0_4 : Nat) (l0_4 : List (S84)) (A0_5 : Option Addr) (c0_5 : Nat) (l0_5 : List (S98)) (r : Bool) (w : World) (hr0_0 : Kd.C k46 w A0_0 l0_0.length l0_0) (hc0_0 : l0_0.length ≤ c0_0) (hr0_4 : Kd.C k84 w A0_4 l0_4.length l0_4) (hc0_4 : l0_4.length ≤ c0_4) (hr0_5 : Kd.C k98 w A0_5 l0_5.length l0_5) (hc0_5 : l0_5.length ≤ c0_5) (h : contangolaw33_LimitCaps.f k l0_0 a0_1 a0_2 a0_3 l0_4 l0_5 = some r) :
  Calls Try.prog 12 #[.agg #[.slice A0_0 l0_0.length c0_0, .string a0_1, .string a0_2, .int .i64 a0_3, .slice A0_4 l0_4.length c0_4, .slice A0_5 l0_5.length c0_5]] w fun e w' => e = .returned (.bool r) ∧ Below w.heap.size w w' := by
 have hu61 := Try.underlying61
 have hu44 := Try.underlying44
 have hu84 := Try.underlying84
 have HR0_0 := Aside0.mk hr0_0
 have HC0_0 := Aside0.mk hc0_0
 clear hr0_0 hc0_0
 have HR0_4 := Aside0.mk hr0_4
 have HC0_4 := Aside0.mk hc0_4
 clear hr0_4 hc0_4
 have HR0_5 := Aside0.mk hr0_5
 have HC0_5 := Aside0.mk hc0_5
 clear hr0_5 hc0_5
 have HB := Aside0.mk (Below.refl w.heap.size w)
 have H : ((QbP.f l0_0 a0_1 a0_2 a0_3 l0_4 l0_5).bind fun t887 => (if t887 = T then ((Qaw.f k l0_0 a0_1 a0_2 a0_3 l0_4 l0_5).bind fun bt889 => (if bt889.2 = 0 then ((QaG.f k l0_0 a0_1 a0_2).bind fun t894 => ((Qaz.f k l0_0 a0_1 a0_2 l0_4 l0_5).bind fun bt897 => ((Qa8.f k l0_0 a0_1 a0_2 a0_3 l0_4 l0_5).bind fun bt899 => (if bt899.2 = 0 then (if bt899.1 > bt897.1 then (contangolaw33_LimitCaps.j0 k bt889.1 t894 T l0_0 a0_1 a0_2 a0_3 l0_4 l0_5) else (contangolaw33_LimitCaps.j0 k bt889.1 t894 ((bt889.1.length : Int) != (t894.length : Int)) l0_0 a0_1 a0_2 a0_3 l0_4 l0_5)) else (contangolaw33_LimitCaps.j0 k bt889.1 t894 T l0_0 a0_1 a0_2 a0_3 l0_4 l0_5))))) else (if (bt889.1.length : Int) = 0 then ((Qa3.f k).bind fun t893 => (some t893)) else (some F)))) else ((Qa3.f k).bind fun t888 => (some t888)))) = some r := h
 clear h
 replace H := Option.bind_eq_some_iff.mp H
 obtain ⟨t887, A20, H⟩ := H
 replace H : (if t887 = T then ((Qaw.f k l0_0 a0_1 a0_2 a0_3 l0_4 l0_5).bind fun bt889 => (if bt889.2 = 0 then ((QaG.f k l0_0 a0_1 a0_2).bind fun t894 => ((Qaz.f k l0_0 a0_1 a0_2 l0_4 l0_5).bind fun bt897 => ((Qa8.f k l0_0 a0_1 a0_2 a0_3 l0_4 l0_5).bind fun bt899 => (if bt899.2 = 0 then (if bt899.1 > bt897.1 then (contangolaw33_LimitCaps.j0 k bt889.1 t894 T l0_0 a0_1 a0_2 a0_3 l0_4 l0_5) else (contangolaw33_LimitCaps.j0 k bt889.1 t894 ((bt889.1.length : Int) != (t894.length : Int)) l0_0 a0_1 a0_2 a0_3 l0_4 l0_5)) else (contangolaw33_LimitCaps.j0 k bt889.1 t894 T l0_0 a0_1 a0_2 a0_3 l0_4 l0_5))))) else (if (bt889.1.length : Int) = 0 then ((Qa3.f k).bind fun t893 => (some t893)) else (some F)))) else ((Qa3.f k).bind fun t888 => (some t888))) = some r := H
 have A2 := Aside0.mk A20
 clear A20
 go_enter Try.func12, Try.ntmps12
 go_upto_if 18 with (first | ((with_reducible refine QaM (N := 1) rfl ?_); (try (refine QbE (by rfl) ?_; dsimp only)); refine Zbx (N := 1) (cs := #[.slice A0_0 l0_0.length c0_0, .string a0_1, .string a0_2, .int .i64 a0_3, .slice A0_4 l0_4.length c0_4, .slice A0_5 l0_5.length c0_5]) (t := 61) ?_; intro gb886 hg w3 hbox hb; have BK886 := Aside0.mk (hbox); have GW886 := Aside0.mk (Zt w hg (Zb)); have GE886 := GW886; replace HB := Aside0.mk (Qan (Zb) hb); clear hb hbox hg; obtain ⟨hcz4_0, hfz4_0⟩ := Zy (v := (.slice A0_0 l0_0.length c0_0)) BK886.out 0; obtain ⟨hcz4_1, hfz4_1⟩ := Zy (v := (.string a0_1)) BK886.out 1; obtain ⟨hcz4_2, hfz4_2⟩ := Zy (v := (.string a0_2)) BK886.out 2; obtain ⟨hcz4_3, hfz4_3⟩ := Zy (v := (.int .i64 a0_3)) BK886.out 3; obtain ⟨hcz4_4, hfz4_4⟩ := Zy (v := (.slice A0_4 l0_4.length c0_4)) BK886.out 4; obtain ⟨hcz4_5, hfz4_5⟩ := Zy (v := (.slice A0_5 l0_5.length c0_5)) BK886.out 5) | ((with_reducible refine Qay (f := 26) rfl ?_); refine goesL_ (some 17) rfl rfl Try.func26 (by kernel_rfl) rfl #[.agg #[.slice A0_0 l0_0.length c0_0, .string a0_1, .string a0_2, .int .i64 a0_3, .slice A0_4 l0_4.length c0_4, .slice A0_5 l0_5.length c0_5]] rfl (Zl) ?_; (with_reducible refine (QbP.calls _ _ l0_0 a0_1 a0_2 a0_3 _ _ l0_4 _ _ l0_5 t887 _ ?side1 ?side2 ?side3 ?side4 ?side5 ?side6 A2.out).mono ?_); (case side1 => exact Zv (Kd.C_below HR0_0.out HB.out)); (case side2 => exact HC0_0.out); (case side3 => exact Zv (Kd.C_below HR0_4.out HB.out)); (case side4 => exact HC0_4.out); (case side5 => exact Zv (Kd.C_below HR0_5.out HB.out)); (case side6 => exact HC0_5.out); rintro e w5 ⟨rfl, hb⟩; refine ⟨_, rfl, ?_⟩; replace BK886 := Aside0.mk (Zi BK886.out hb); replace HB := Aside0.mk (Qan (Zc1 GE886.out) hb); (try clear hb); (try clear hb2); (try clear hk); (try clear hi)))
 (try simp only [Act.put, Zj, Zk, Zm])
 by_cases c6 : t887 = T
 ·subst c6
  have H1 : ((Qaw.f k l0_0 a0_1 a0_2 a0_3 l0_4 l0_5).bind fun bt889 => (if bt889.2 = 0 then ((QaG.f k l0_0 a0_1 a0_2).bind fun t894 => ((Qaz.f k l0_0 a0_1 a0_2 l0_4 l0_5).bind fun bt897 => ((Qa8.f k l0_0 a0_1 a0_2 a0_3 l0_4 l0_5).bind fun bt899 => (if bt899.2 = 0 then (if bt899.1 > bt897.1 then (contangolaw33_LimitCaps.j0 k bt889.1 t894 T l0_0 a0_1 a0_2 a0_3 l0_4 l0_5) else (contangolaw33_LimitCaps.j0 k bt889.1 t894 ((bt889.1.length : Int) != (t894.length : Int)) l0_0 a0_1 a0_2 a0_3 l0_4 l0_5)) else (contangolaw33_LimitCaps.j0 k bt889.1 t894 T l0_0 a0_1 a0_2 a0_3 l0_4 l0_5))))) else (if (bt889.1.length : Int) = 0 then ((Qa3.f k).bind fun t893 => (some t893)) else (some F)))) = some r := by rw [if_pos rfl] at H; exact H
  clear H
  have H := H1
  clear H1
  replace H := Option.bind_eq_some_iff.mp H
  obtain ⟨⟨t889, t892⟩, A70, H⟩ := H
  replace H : (if t892 = 0 then ((QaG.f k l0_0 a0_1 a0_2).bind fun t894 => ((Qaz.f k l0_0 a0_1 a0_2 l0_4 l0_5).bind fun bt897 => ((Qa8.f k l0_0 a0_1 a0_2 a0_3 l0_4 l0_5).bind fun bt899 => (if bt899.2 = 0 then (if bt899.1 > bt897.1 then (contangolaw33_LimitCaps.j0 k t889 t894 T l0_0 a0_1 a0_2 a0_3 l0_4 l0_5) else (contangolaw33_LimitCaps.j0 k t889 t894 ((t889.length : Int) != (t894.length : Int)) l0_0 a0_1 a0_2 a0_3 l0_4 l0_5)) else (contangolaw33_LimitCaps.j0 k t889 t894 T l0_0 a0_1 a0_2 a0_3 l0_4 l0_5))))) else (if (t889.length : Int) = 0 then ((Qa3.f k).bind fun t893 => (some t893)) else (some F))) = some r := H
  have A7 := Aside0.mk A70
  clear A70
  obtain ⟨hcz8_0, hfz8_0⟩ := Zy (v := (.slice A0_0 l0_0.length c0_0)) BK886.out 0
  obtain ⟨hcz8_1, hfz8_1⟩ := Zy (v := (.string a0_1)) BK886.out 1
  obtain ⟨hcz8_2, hfz8_2⟩ := Zy (v := (.string a0_2)) BK886.out 2
  obtain ⟨hcz8_3, hfz8_3⟩ := Zy (v := (.int .i64 a0_3)) BK886.out 3
  obtain ⟨hcz8_4, hfz8_4⟩ := Zy (v := (.slice A0_4 l0_4.length c0_4)) BK886.out 4
  obtain ⟨hcz8_5, hfz8_5⟩ := Zy (v := (.slice A0_5 l0_5.length c0_5)) BK886.out 5
  go_upto_if 35 with (first | ((with_reducible refine Qay (f := 28) rfl ?_); refine goesL_ (some 31) rfl rfl Try.func28 (by kernel_rfl) rfl #[.slice A0_0 l0_0.length c0_0, .agg #[.string a0_1, .string a0_2], .int .i64 a0_3, .slice A0_4 l0_4.length c0_4, .slice A0_5 l0_5.length c0_5] rfl (Zl) ?_; (with_reducible refine (Qaw.calls k _ _ l0_0 a0_1 a0_2 a0_3 _ _ l0_4 _ _ l0_5 t889 t892 _ ?side1 ?side2 ?side3 ?side4 ?side5 ?side6 A7.out).mono ?_); (case side1 => exact Zv (Kd.C_below HR0_0.out HB.out)); (case side2 => exact HC0_0.out); (case side3 => exact Zv (Kd.C_below HR0_4.out HB.out)); (case side4 => exact HC0_4.out); (case side5 => exact Zv (Kd.C_below HR0_5.out HB.out)); (case side6 => exact HC0_5.out); rintro e w9 ⟨v890, rfl, ho0, hb⟩; refine ⟨_, rfl, ?_⟩; have HO891 := Aside0.mk (Kd.R_lower ho0 (Qam (Zc1 GE886.out))); replace BK886 := Aside0.mk (Zi BK886.out hb); replace HB := Aside0.mk (Qan (Zc1 GE886.out) hb); (try clear hb); (try clear hb2); (try clear hk); (try clear hi); (try clear ho0)))
  (try simp only [Act.put, Zj, Zk, Zm])
  by_cases c10 : t892 = 0
  ·rw [if_pos c10] at H
   have c10b0 : (t892 == 0) = T := beq_iff_eq.mpr c10
   have c10b1 : (t892 != 0) = F := bne_eq_false_iff_eq.mpr c10
   clear c10
   (try simp only [c10b0, c10b1])
   replace H := Option.bind_eq_some_iff.mp H
   obtain ⟨t894, A110, H⟩ := H
   replace H : ((Qaz.f k l0_0 a0_1 a0_2 l0_4 l0_5).bind fun bt897 => ((Qa8.f k l0_0 a0_1 a0_2 a0_3 l0_4 l0_5).bind fun bt899 => (if bt899.2 = 0 then (if bt899.1 > bt897.1 then (contangolaw33_LimitCaps.j0 k t889 t894 T l0_0 a0_1 a0_2 a0_3 l0_4 l0_5) else (contangolaw33_LimitCaps.j0 k t889 t894 ((t889.length : Int) != (t894.length : Int)) l0_0 a0_1 a0_2 a0_3 l0_4 l0_5)) else (contangolaw33_LimitCaps.j0 k t889 t894 T l0_0 a0_1 a0_2 a0_3 l0_4 l0_5)))) = some r := H
   have A11 := Aside0.mk A110
   clear A110
   replace H := Option.bind_eq_some_iff.mp H
   obtain ⟨⟨t897, t898⟩, A120, H⟩ := H
   replace H : ((Qa8.f k l0_0 a0_1 a0_2 a0_3 l0_4 l0_5).bind fun bt899 => (if bt899.2 = 0 then (if bt899.1 > t897 then (contangolaw33_LimitCaps.j0 k t889 t894 T l0_0 a0_1 a0_2 a0_3 l0_4 l0_5) else (contangolaw33_LimitCaps.j0 k t889 t894 ((t889.length : Int) != (t894.length : Int)) l0_0 a0_1 a0_2 a0_3 l0_4 l0_5)) else (contangolaw33_LimitCaps.j0 k t889 t894 T l0_0 a0_1 a0_2 a0_3 l0_4 l0_5))) = some r := H
   have A12 := Aside0.mk A120
   clear A120
   replace H := Option.bind_eq_some_iff.mp H
   obtain ⟨⟨t899, t900⟩, A130, H⟩ := H
   replace H : (if t900 = 0 then (if t899 > t897 then (contangolaw33_LimitCaps.j0 k t889 t894 T l0_0 a0_1 a0_2 a0_3 l0_4 l0_5) else (contangolaw33_LimitCaps.j0 k t889 t894 ((t889.length : Int) != (t894.length : Int)) l0_0 a0_1 a0_2 a0_3 l0_4 l0_5)) else (contangolaw33_LimitCaps.j0 k t889 t894 T l0_0 a0_1 a0_2 a0_3 l0_4 l0_5)) = some r := H
   have A13 := Aside0.mk A130
   clear A130
   have HC14 := Aside0.mk H
   clear H
   obtain ⟨hcz15_0, hfz15_0⟩ := Zy (v := (.slice A0_0 l0_0.length c0_0)) BK886.out 0
   obtain ⟨hcz15_1, hfz15_1⟩ := Zy (v := (.string a0_1)) BK886.out 1
   obtain ⟨hcz15_2, hfz15_2⟩ := Zy (v := (.string a0_2)) BK886.out 2
   obtain ⟨hcz15_3, hfz15_3⟩ := Zy (v := (.int .i64 a0_3)) BK886.out 3
   obtain ⟨hcz15_4, hfz15_4⟩ := Zy (v := (.slice A0_4 l0_4.length c0_4)) BK886.out 4
   obtain ⟨hcz15_5, hfz15_5⟩ := Zy (v := (.slice A0_5 l0_5.length c0_5)) BK886.out 5
   go_upto_region 9 with (first | ((with_reducible refine Qay (f := 40) rfl ?_); refine goesL_ (some 46) rfl rfl Try.func40 (by kernel_rfl) rfl #[.slice A0_0 l0_0.length c0_0, .agg #[.string a0_1, .string a0_2]] rfl (Zl) ?_; (with_reducible refine (QaG.calls k _ _ l0_0 a0_1 a0_2 t894 _ ?side1 ?side2 A11.out).mono ?_); (case side1 => exact Zv (Kd.C_below HR0_0.out HB.out)); (case side2 => exact HC0_0.out); rintro e w16 ⟨v895, rfl, ho0, hb⟩; refine ⟨_, rfl, ?_⟩; have HO896 := Aside0.mk (Kd.R_lower ho0 (Qam (Zc1 GE886.out))); replace HO891 := Aside0.mk (Kd.R_below (Zr HO891.out) hb); replace BK886 := Aside0.mk (Zi BK886.out hb); replace HB := Aside0.mk (Qan (Zc1 GE886.out) hb); (try clear hb); (try clear hb2); (try clear hk); (try clear hi); (try clear ho0); obtain ⟨hcz17_0, hfz17_0⟩ := Zy (v := (.slice A0_0 l0_0.length c0_0)) BK886.out 0; obtain ⟨hcz17_1, hfz17_1⟩ := Zy (v := (.string a0_1)) BK886.out 1; obtain ⟨hcz17_2, hfz17_2⟩ := Zy (v := (.string a0_2)) BK886.out 2; obtain ⟨hcz17_3, hfz17_3⟩ := Zy (v := (.int .i64 a0_3)) BK886.out 3; obtain ⟨hcz17_4, hfz17_4⟩ := Zy (v := (.slice A0_4 l0_4.length c0_4)) BK886.out 4; obtain ⟨hcz17_5, hfz17_5⟩ := Zy (v := (.slice A0_5 l0_5.length c0_5)) BK886.out 5) | ((with_reducible refine Qay (f := 37) rfl ?_); refine goesL_ (some 56) rfl rfl Try.func37 (by kernel_rfl) rfl #[.slice A0_0 l0_0.length c0_0, .agg #[.string a0_1, .string a0_2], .slice A0_4 l0_4.length c0_4, .slice A0_5 l0_5.length c0_5] rfl (Zl) ?_; (with_reducible refine (Qaz.calls k _ _ l0_0 a0_1 a0_2 _ _ l0_4 _ _ l0_5 t897 t898 _ ?side1 ?side2 ?side3 ?side4 ?side5 ?side6 A12.out).mono ?_); (case side1 => exact Zv (Kd.C_below HR0_0.out HB.out)); (case side2 => exact HC0_0.out); (case side3 => exact Zv (Kd.C_below HR0_4.out HB.out)); (case side4 => exact HC0_4.out); (case side5 => exact Zv (Kd.C_below HR0_5.out HB.out)); (case side6 => exact HC0_5.out); rintro e w18 ⟨rfl, hb⟩; refine ⟨_, rfl, ?_⟩; replace HO891 := Aside0.mk (Kd.R_below (Zr HO891.out) hb); replace HO896 := Aside0.mk (Kd.R_below (Zr HO896.out) hb); replace BK886 := Aside0.mk (Zi BK886.out hb); replace HB := Aside0.mk (Qan (Zc1 GE886.out) hb); (try clear hb); (try clear hb2); (try clear hk); (try clear hi); obtain ⟨hcz19_0, hfz19_0⟩ := Zy (v := (.slice A0_0 l0_0.length c0_0)) BK886.out 0; obtain ⟨hcz19_1, hfz19_1⟩ := Zy (v := (.string a0_1)) BK886.out 1; obtain ⟨hcz19_2, hfz19_2⟩ := Zy (v := (.string a0_2)) BK886.out 2; obtain ⟨hcz19_3, hfz19_3⟩ := Zy (v := (.int .i64 a0_3)) BK886.out 3; obtain ⟨hcz19_4, hfz19_4⟩ := Zy (v := (.slice A0_4 l0_4.length c0_4)) BK886.out 4; obtain ⟨hcz19_5, hfz19_5⟩ := Zy (v := (.slice A0_5 l0_5.length c0_5)) BK886.out 5) | ((with_reducible refine Qay (f := 30) rfl ?_); refine goesL_ (some 70) rfl rfl Try.func30 (by kernel_rfl) rfl #[.slice A0_0 l0_0.length c0_0, .agg #[.string a0_1, .string a0_2], .int .i64 a0_3, .slice A0_4 l0_4.length c0_4, .slice A0_5 l0_5.length c0_5] rfl (Zl) ?_; (with_reducible refine (Qa8.calls k _ _ l0_0 a0_1 a0_2 a0_3 _ _ l0_4 _ _ l0_5 t899 t900 _ ?side1 ?side2 ?side3 ?side4 ?side5 ?side6 A13.out).mono ?_); (case side1 => exact Zv (Kd.C_below HR0_0.out HB.out)); (case side2 => exact HC0_0.out); (case side3 => exact Zv (Kd.C_below HR0_4.out HB.out)); (case side4 => exact HC0_4.out); (case side5 => exact Zv (Kd.C_below HR0_5.out HB.out)); (case side6 => exact HC0_5.out); rintro e w20 ⟨rfl, hb⟩; refine ⟨_, rfl, ?_⟩; replace HO891 := Aside0.mk (Kd.R_below (Zr HO891.out) hb); replace HO896 := Aside0.mk (Kd.R_below (Zr HO896.out) hb); replace BK886 := Aside0.mk (Zi BK886.out hb); replace HB := Aside0.mk (Qan (Zc1 GE886.out) hb); (try clear hb); (try clear hb2); (try clear hk); (try clear hi)))
   (try simp only [Act.put, Zj, Zk, Zm])
   go_cut [86] (fun v86 wc => ∃ (kq : Nat) (x86_13 : Bool), v86 = .bool x86_13 ∧ Aside0 (contangolaw33_LimitCaps.j0 kq t889 t894 x86_13 l0_0 a0_1 a0_2 a0_3 l0_4 l0_5 = some r) ∧ Aside0 (kq ≤ k) ∧ Aside0 (Kd.R (Kd.int .i64) 3 wc w.heap.size (fun _ => True) v890 t889) ∧ Aside0 (Kd.R k46 46 wc w.heap.size (fun _ => True) v895 t894) ∧ Aside0 (wc.heap[gb886]? = some (.cells #[(.slice A0_0 l0_0.length c0_0), .string a0_1, .string a0_2, .int .i64 a0_3, (.slice A0_4 l0_4.length c0_4), (.slice A0_5 l0_5.length c0_5)] 61 (0, 0))) ∧ Aside0 (Below w.heap.size w wc))
   case first =>
    have H := HC14.out
    clear HC14
    by_cases c21 : t900 = 0
    ·rw [if_pos c21] at H
     have c21b0 : (t900 == 0) = T := beq_iff_eq.mpr c21
     have c21b1 : (t900 != 0) = F := bne_eq_false_iff_eq.mpr c21
     clear c21
     by_cases c22 : t899 > t897
     ·rw [if_pos c22] at H
      have c22b0 : decide (t897 < t899) = T := decide_eq_true c22
      clear c22
      have H' := Aside0.mk H
      clear H
      go_wp2
      go_meet
      case rel => exact ⟨_, (T), (Zs), H', ⟨by first | omega | exact Nat.le_refl _⟩, ⟨Zr HO891.out⟩, ⟨Zr HO896.out⟩, ⟨Zu BK886.out⟩, ⟨Zc1 GE886.out⟩⟩
     rw [if_neg c22] at H
     have c22b0 : decide (t897 < t899) = F := decide_eq_false c22
     clear c22
     have H' := Aside0.mk H
     clear H
     obtain ⟨Ao23, co23, eo23⟩ := Kd.R_slice HO891.out
     subst eo23
     obtain ⟨Ao24, co24, eo24⟩ := Kd.R_slice HO896.out
     subst eo24
     go_wp2
     go_meet
     case rel => exact ⟨_, (((t889.length : Int) != (t894.length : Int))), (Zs), H', ⟨by first | omega | exact Nat.le_refl _⟩, ⟨Zr HO891.out⟩, ⟨Zr HO896.out⟩, ⟨Zu BK886.out⟩, ⟨Zc1 GE886.out⟩⟩
    rw [if_neg c21] at H
    have c21b0 : (t900 == 0) = F := beq_eq_false_iff_ne.mpr c21
    have c21b1 : (t900 != 0) = T := bne_iff_ne.mpr c21
    have H' := Aside0.mk H
    clear H
    go_wp2
    go_meet
    case rel => exact ⟨_, (T), (Zs), H', ⟨by first | omega | exact Nat.le_refl _⟩, ⟨Zr HO891.out⟩, ⟨Zr HO896.out⟩, ⟨Zu BK886.out⟩, ⟨Zc1 GE886.out⟩⟩
   case rest =>
    clear HC14
    try clear c1
    try clear c2
    try clear p2
    try clear c3
    try clear c4
    try clear c6
    try clear c10
    try clear c10b0
    try clear c10b1
    try clear c12
    try clear c21
    try clear c21b0
    try clear c21b1
    try clear c22
    try clear c22b0
    try clear hcz15_0
    try clear hcz15_1
    try clear hcz15_2
    try clear hcz15_3
    try clear hcz15_4
    try clear hcz15_5
    try clear hcz17_0
    try clear hcz17_1
    try clear hcz17_2
    try clear hcz17_3
    try clear hcz17_4
    try clear hcz17_5
    try clear hcz19_0
    try clear hcz19_1
    try clear hcz19_2
    try clear hcz19_3
    try clear hcz19_4
    try clear hcz19_5
    try clear hcz4_0
    try clear hcz4_1
    try clear hcz4_2
    try clear hcz4_3
    try clear hcz4_4
    try clear hcz4_5
    try clear hcz8_0
    try clear hcz8_1
    try clear hcz8_2
    try clear hcz8_3
    try clear hcz8_4
    try clear hcz8_5
    try clear hfz15_0
    try clear hfz15_1
    try clear hfz15_2
    try clear hfz15_3
    try clear hfz15_4
    try clear hfz15_5
    try clear hfz17_0
    try clear hfz17_1
    try clear hfz17_2
    try clear hfz17_3
    try clear hfz17_4
    try clear hfz17_5
    try clear hfz19_0
    try clear hfz19_1
    try clear hfz19_2
    try clear hfz19_3
    try clear hfz19_4
    try clear hfz19_5
    try clear hfz4_0
    try clear hfz4_1
    try clear hfz4_2
    try clear hfz4_3
    try clear hfz4_4
    try clear hfz4_5
    try clear hfz8_0
    try clear hfz8_1
    try clear hfz8_2
    try clear hfz8_3
    try clear hfz8_4
    try clear hfz8_5
    obtain ⟨kq, x86_13, rfl, HA, HJ13, HO_3, HO_5, BK886, HB⟩ := hcut
    cases kq with
    | zero => exact absurd HA.out (by simp [contangolaw33_LimitCaps.j0])
    | succ kj13 =>
     have H := HA.out
     clear HA
     simp only [contangolaw33_LimitCaps.j0] at H
     by_cases c25 : x86_13 = T
     ·subst c25
      have H1 : (some F) = some r := by rw [if_pos rfl] at H; exact H
      clear H
      have H := H1
      clear H1
      obtain rfl := Option.some.inj H
      go_wp2
      go_ret
      exact ⟨Zq, Zc1 GE886.out⟩
     replace c25 := Bool.eq_false_iff.mpr c25
     subst c25
     have H1 : (contangolaw33_LimitCaps.l0 kj13 t889 t894 0 l0_0 a0_1 a0_2 a0_3 l0_4 l0_5) = some r := by rw [if_neg (show ¬ (F = T) by decide)] at H; exact H
     clear H
     have H := H1
     clear H1
     have H' := Aside0.mk H
     clear H
     go_wp2
     go_loopg [10] kj13 (fun kq v10 w' => ∃ (x10_2 : Int), v10 = .int .i64 x10_2 ∧ Aside0 (contangolaw33_LimitCaps.l0 kq t889 t894 x10_2 l0_0 a0_1 a0_2 a0_3 l0_4 l0_5 = some r) ∧ Aside0 (kq ≤ kj13) ∧ Aside0 (Kd.R (Kd.int .i64) 3 w' w.heap.size (fun _ => True) v890 t889) ∧ Aside0 (Kd.R k46 46 w' w.heap.size (fun _ => True) v895 t894) ∧ Aside0 (w'.heap[gb886]? = some (.cells #[(.slice A0_0 l0_0.length c0_0), .string a0_1, .string a0_2, .int .i64 a0_3, (.slice A0_4 l0_4.length c0_4), (.slice A0_5 l0_5.length c0_5)] 61 (0, 0))) ∧ Aside0 (Below w.heap.size w w'))
     case atStart => exact ⟨(0), (Zs), H', ⟨Nat.le_refl _⟩, ⟨Zr HO_3.out⟩, ⟨Zr HO_5.out⟩, ⟨Zu BK886.out⟩, ⟨Zc1 GE886.out⟩⟩
     case round =>
      clear H'
      try clear c1
      try clear c2
      try clear p2
      try clear c3
      try clear c4
      try clear c6
      try clear c10
      try clear c10b0
      try clear c10b1
      try clear c12
      try clear c21
      try clear c21b0
      try clear c21b1
      try clear c22
      try clear c22b0
      try clear c25
      try clear hcz15_0
      try clear hcz15_1
      try clear hcz15_2
      try clear hcz15_3
      try clear hcz15_4
      try clear hcz15_5
      try clear hcz17_0
      try clear hcz17_1
      try clear hcz17_2
      try clear hcz17_3
      try clear hcz17_4
      try clear hcz17_5
      try clear hcz19_0
      try clear hcz19_1
      try clear hcz19_2
      try clear hcz19_3
      try clear hcz19_4
      try clear hcz19_5
      try clear hcz4_0
      try clear hcz4_1
      try clear hcz4_2
      try clear hcz4_3
      try clear hcz4_4
      try clear hcz4_5
      try clear hcz8_0
      try clear hcz8_1
      try clear hcz8_2
      try clear hcz8_3
      try clear hcz8_4
      try clear hcz8_5
      try clear hfz15_0
      try clear hfz15_1
      try clear hfz15_2
      try clear hfz15_3
      try clear hfz15_4
      try clear hfz15_5
      try clear hfz17_0
      try clear hfz17_1
      try clear hfz17_2
      try clear hfz17_3
      try clear hfz17_4
      try clear hfz17_5
      try clear hfz19_0
      try clear hfz19_1
      try clear hfz19_2
      try clear hfz19_3
      try clear hfz19_4
      try clear hfz19_5
      try clear hfz4_0
      try clear hfz4_1
      try clear hfz4_2
      try clear hfz4_3
      try clear hfz4_4
      try clear hfz4_5
      try clear hfz8_0
      try clear hfz8_1
      try clear hfz8_2
      try clear hfz8_3
      try clear hfz8_4
      try clear hfz8_5
      try clear p2
      obtain ⟨x10_2, rfl, HA, HK2, HO_3, HO_5, BK886, HB⟩ := hrel
      cases gk with
      | zero => exact absurd HA.out (by simp [contangolaw33_LimitCaps.l0])
      | succ k2 =>
       have H := HA.out
       clear HA
       simp only [contangolaw33_LimitCaps.l0] at H
       obtain ⟨Ao26, co26, eo26⟩ := Kd.R_slice HO_3.out
       subst eo26
       go_upto_if 90 with (fail)
       by_cases c27 : x10_2 < (t889.length : Int)
       ·rw [if_pos c27] at H
        have c27b0 : decide (x10_2 < (t889.length : Int)) = T := decide_eq_true c27
        clear c27
        (try simp only [c27b0])
        by_cases c28 : 0 ≤ x10_2
        ·rw [if_pos c28] at H
         have c28b0 : decide (0 ≤ x10_2) = T := decide_eq_true c28
         clear c28
         by_cases c29 : x10_2 < (t894.length : Int)
         ·rw [if_pos c29] at H
          have c29b0 : decide (x10_2 < (t894.length : Int)) = T := decide_eq_true c29
          clear c29
          replace H := Option.bind_eq_some_iff.mp H
          obtain ⟨⟨t903, t904, t905, t906, t907, t908, t909⟩, A300, H⟩ := H
          replace H : ((Qa6.f k2 t903 t904 t905 t906 t907 t908 ((rd_T46 t894 x10_2).f2) l0_5).bind fun bt912 => (if (rd t889 x10_2) < 0 then (some F) else (if (rd t889 x10_2) > (wrap64 ((wrap64 ((wrap64 (Int.tdiv a0_3 1000)) * t908)) + (wrap64 (Int.tdiv (wrap64 ((Int.tmod a0_3 1000) * t908)) 1000)))) then (some F) else (if (rd t889 x10_2) > bt912.1 then (some F) else (if (rd t889 x10_2) < (wrap64 ((wrap64 ((wrap64 (Int.tdiv a0_3 1000)) * t908)) + (wrap64 (Int.tdiv (wrap64 ((Int.tmod a0_3 1000) * t908)) 1000)))) then (if (rd t889 x10_2) < bt912.1 then (some F) else (contangolaw33_LimitCaps.l0 k2 t889 t894 (wrap64 (x10_2 + 1)) l0_0 a0_1 a0_2 a0_3 l0_4 l0_5)) else (contangolaw33_LimitCaps.l0 k2 t889 t894 (wrap64 (x10_2 + 1)) l0_0 a0_1 a0_2 a0_3 l0_4 l0_5)))))) = some r := H
          have A30 := Aside0.mk A300
          clear A300
          replace H := Option.bind_eq_some_iff.mp H
          obtain ⟨⟨t912, t913⟩, A310, H⟩ := H
          replace H : (if (rd t889 x10_2) < 0 then (some F) else (if (rd t889 x10_2) > (wrap64 ((wrap64 ((wrap64 (Int.tdiv a0_3 1000)) * t908)) + (wrap64 (Int.tdiv (wrap64 ((Int.tmod a0_3 1000) * t908)) 1000)))) then (some F) else (if (rd t889 x10_2) > t912 then (some F) else (if (rd t889 x10_2) < (wrap64 ((wrap64 ((wrap64 (Int.tdiv a0_3 1000)) * t908)) + (wrap64 (Int.tdiv (wrap64 ((Int.tmod a0_3 1000) * t908)) 1000)))) then (if (rd t889 x10_2) < t912 then (some F) else (contangolaw33_LimitCaps.l0 k2 t889 t894 (wrap64 (x10_2 + 1)) l0_0 a0_1 a0_2 a0_3 l0_4 l0_5)) else (contangolaw33_LimitCaps.l0 k2 t889 t894 (wrap64 (x10_2 + 1)) l0_0 a0_1 a0_2 a0_3 l0_4 l0_5))))) = some r := H
          have A31 := Aside0.mk A310
          clear A310
          try go_wp2
          replace HO_3 := Aside0.mk (Kd.R_drew HO_3.out)
          replace HO_5 := Aside0.mk (Kd.R_drew HO_5.out)
          replace BK886 := Aside0.mk (Qad BK886.out)
          replace HB := Aside0.mk (Qag HB.out)
          obtain ⟨Ao33, co33, eo33⟩ := Kd.R_slice HO_5.out
          (first | subst eo33 | (injection eo33 with f1_ f2_ f3_; have f4_ := f1_.symm; have f5_ := f3_.symm; clear f1_ f2_ f3_; subst f4_; subst f5_))
          have p902 : 0 ≤ (x10_2 : Int) := Ze
          have q902 : x10_2 < (t894.length : Int) := Ze
          obtain ⟨ad902, e902, hx902_0, hx902_1, hx902_2, hx902_3⟩ := at_T46 (Kd.R_reads' HO_5.out).2.2 x10_2 p902 q902
          cases e902
          replace p902 := eq_true p902
          replace q902 := eq_true q902
          refine start_ (n := 14) (S := fun w' => w'.cell? ⟨gb886, 0, none⟩ = some (.slice A0_0 l0_0.length c0_0) ∧ w'.cell? ⟨gb886, 1, none⟩ = some (.string a0_1) ∧ w'.cell? ⟨gb886, 2, none⟩ = some (.string a0_2) ∧ w'.cell? ⟨gb886, 3, none⟩ = some (.int .i64 a0_3) ∧ w'.cell? ⟨gb886, 4, none⟩ = some (.slice A0_4 l0_4.length c0_4) ∧ w'.cell? ⟨gb886, 5, none⟩ = some (.slice A0_5 l0_5.length c0_5) ∧ w'.cell? (ad902.add ((x10_2).toNat * 4)) = some (.string ((rd_T46 t894 x10_2).f0.f0)) ∧ w'.cell? ⟨(ad902.add ((x10_2).toNat * 4)).block, (ad902.add ((x10_2).toNat * 4)).off + 1, none⟩ = some (.string ((rd_T46 t894 x10_2).f0.f1)) ∧ w'.cell? ⟨(ad902.add ((x10_2).toNat * 4)).block, (ad902.add ((x10_2).toNat * 4)).off + 2, none⟩ = some (.string ((rd_T46 t894 x10_2).f1)) ∧ w'.cell? ⟨(ad902.add ((x10_2).toNat * 4)).block, (ad902.add ((x10_2).toNat * 4)).off + 3, none⟩ = some (.int .i64 ((rd_T46 t894 x10_2).f2))) (ds := []) #[F, F, F, F, F, F, F, F, F, F, F, F, F, F] (by kernel_rfl) rfl rfl ⟨(Qai BK886.out 0).trans rfl, (Qai BK886.out 1).trans rfl, (Qai BK886.out 2).trans rfl, (Qai BK886.out 3).trans rfl, (Qai BK886.out 4).trans rfl, (Qai BK886.out 5).trans rfl, hx902_0, hx902_1, hx902_2, hx902_3⟩ (fun hHeld => ?_); refine QbU contangolaw33_LimitCaps.tab14 contangolaw33_LimitCaps.bits14 (fun HT_ HW_ => ?_)
          generalize wr.drew = w32 at HO_3 HO_5 BK886 HB hx902_0 hx902_1 hx902_2 hx902_3 hHeld ⊢
          refine pure_ (i := 0) (N := some 94) (v := ?_) (a' := ?_) #[T, F, F, F, F, F, F, F, F, F, F, F, F, F] rfl rfl (any_of HT_.out (by kernel_rfl)) (fun _ _ _ h => h) (Or.inl ⟨by rfl, ?_⟩) ?_ ?_
          rotate_left
          ·intro w'
           go_simp
           with_reducible rfl
          rotate_left
          ·simp only [Act.put, Zj, Zk, Zm, i64_w, i32_w]
           rfl
          refine pure_ (i := 2) (N := some 96) (v := ?_) (a' := ?_) #[T, F, T, F, F, F, F, F, F, F, F, F, F, F] rfl rfl (any_of HT_.out (by kernel_rfl)) (fun _ _ _ h => h) (Or.inl ⟨by rfl, ?_⟩) ?_ ?_
          rotate_left
          ·intro w'
           go_simp
           with_reducible rfl
          rotate_left
          ·simp only [Act.put, Zj, Zk, Zm, i64_w, i32_w]
           rfl
          refine pure_ (i := 3) (N := some 97) (v := ?_) (a' := ?_) #[T, F, T, T, F, F, F, F, F, F, F, F, F, F] rfl rfl (any_of HT_.out (by kernel_rfl)) (fun _ _ _ h => h) (Or.inl ⟨by rfl, ?_⟩) ?_ ?_
          rotate_left
          ·intro w'
           go_simp
           with_reducible rfl
          rotate_left
          ·simp only [Act.put, Zj, Zk, Zm, i64_w, i32_w]
           rfl
          refine pure_ (i := 4) (N := some 98) (v := ?_) (a' := ?_) #[T, F, T, T, T, F, F, F, F, F, F, F, F, F] rfl rfl (any_of HT_.out (by kernel_rfl)) (fun _ _ _ h => h) (Or.inl ⟨by rfl, ?_⟩) ?_ ?_
          rotate_left
          ·intro w'
           go_simp
           with_reducible rfl
          rotate_left
          ·simp only [Act.put, Zj, Zk, Zm, i64_w, i32_w]
           rfl
          refine pure_ (i := 5) (N := some 99) (v := ?_) (a' := ?_) #[T, F, T, T, T, T, F, F, F, F, F, F, F, F] rfl rfl (any_of HT_.out (by kernel_rfl)) (fun _ _ _ h => h) (Or.inl ⟨by rfl, ?_⟩) ?_ ?_
          rotate_left
          ·intro w'
           go_simp
           with_reducible rfl
          rotate_left
          ·simp only [Act.put, Zj, Zk, Zm, i64_w, i32_w]
           rfl
          refine take_ (i := 1) (N := some 95) (v := ?_) (a' := ?_) #[T, T, T, T, T, T, F, F, F, F, F, F, F, F] rfl rfl (QbD HT_.out HW_.out (by kernel_rfl)) (fun _ _ _ h => h) (Or.inl ⟨by rfl, ?_⟩) hHeld ?_ ?_
          rotate_left
          ·rintro w' ⟨s0, s1, s2, s3, s4, s5, s6, s7, s8, s9⟩
           go_simp
           with_reducible rfl
          rotate_left
          ·simp only [Act.put, Zj, Zk, Zm, i64_w, i32_w]
           rfl
          refine take_ (i := 6) (N := some 100) (v := ?_) (a' := ?_) #[T, T, T, T, T, T, T, F, F, F, F, F, F, F] rfl rfl (QbD HT_.out HW_.out (by kernel_rfl)) (fun _ _ _ h => h) (Or.inl ⟨by rfl, ?_⟩) hHeld ?_ ?_
          rotate_left
          ·rintro w' ⟨s0, s1, s2, s3, s4, s5, s6, s7, s8, s9⟩
           go_simp
           with_reducible rfl
          rotate_left
          ·simp only [Act.put, Zj, Zk, Zm, i64_w, i32_w]
           rfl
          refine join_ (σ := Nat) 2 #[T, T, T, T, T, T, T, T, T, T, T, T, F, F] (fun s_ => [(101, .tuple #[.agg #[.string t903, .int .i64 t904, .int .i64 t905, .int .i64 t906, .int .i64 t907, .int .i64 t908], .bool t909]), (11, .pointer (some ⟨s_, 0, none⟩)), (93, .tuple #[.agg #[.string t903, .int .i64 t904, .int .i64 t905, .int .i64 t906, .int .i64 t907, .int .i64 t908], .bool t909]), (102, .agg #[.string t903, .int .i64 t904, .int .i64 t905, .int .i64 t906, .int .i64 t907, .int .i64 t908]), (103, .bool t909)]) (fun s_ w' => (w'.cell? ⟨gb886, 0, none⟩ = some (.slice A0_0 l0_0.length c0_0) ∧ w'.cell? ⟨gb886, 1, none⟩ = some (.string a0_1) ∧ w'.cell? ⟨gb886, 2, none⟩ = some (.string a0_2) ∧ w'.cell? ⟨gb886, 3, none⟩ = some (.int .i64 a0_3) ∧ w'.cell? ⟨gb886, 4, none⟩ = some (.slice A0_4 l0_4.length c0_4) ∧ w'.cell? ⟨gb886, 5, none⟩ = some (.slice A0_5 l0_5.length c0_5) ∧ w'.cell? (ad902.add ((x10_2).toNat * 4)) = some (.string ((rd_T46 t894 x10_2).f0.f0)) ∧ w'.cell? ⟨(ad902.add ((x10_2).toNat * 4)).block, (ad902.add ((x10_2).toNat * 4)).off + 1, none⟩ = some (.string ((rd_T46 t894 x10_2).f0.f1)) ∧ w'.cell? ⟨(ad902.add ((x10_2).toNat * 4)).block, (ad902.add ((x10_2).toNat * 4)).off + 2, none⟩ = some (.string ((rd_T46 t894 x10_2).f1)) ∧ w'.cell? ⟨(ad902.add ((x10_2).toNat * 4)).block, (ad902.add ((x10_2).toNat * 4)).off + 3, none⟩ = some (.int .i64 ((rd_T46 t894 x10_2).f2))) ∧ (Kd.R (Kd.int .i64) 3 w' w.heap.size (fun _ => True) (.slice Ao26 t889.length co26) t889) ∧ (Kd.R k46 46 w' w.heap.size (fun _ => True) (.slice (some ad902) t894.length co33) t894) ∧ (w'.heap[gb886]? = some (.cells #[.slice A0_0 l0_0.length c0_0, .string a0_1, .string a0_2, .int .i64 a0_3, .slice A0_4 l0_4.length c0_4, .slice A0_5 l0_5.length c0_5] 61 (0, 0))) ∧ (w'.heap[s_]? = some (.cells #[.string (⟨#[]⟩ : ByteArray), .int .i64 0, .int .i64 0, .int .i64 0, .int .i64 0, .int .i64 0] 84 (0, 0))) ∧ (w.heap.size ≤ s_) ∧ (w.heap.size ≤ s_) ∧ (gb886 ≠ s_) ∧ (s_ ≠ gb886) ∧ (Below w.heap.size w w')) ?_ ?_
          rotate_left
          ·intro hCont
           refine two_ (i := 7) (j := 11) (Ni := some 101) (Nj := some 11) #[T, T, T, T, T, T, T, T, F, F, F, F, F, F] #[T, T, T, T, T, T, T, F, F, F, F, T, F, F] rfl rfl rfl rfl (two_of HT_.out (by kernel_rfl)) (by decide) (by decide) (fun K hK => ?_) (fun K hK => ?_)
           ·skip
            refine goes_ Try.func41 (by kernel_rfl) rfl #[.slice A0_4 l0_4.length c0_4, .string ((rd_T46 t894 x10_2).f1)] (by rfl) rfl rfl (Zl) ?_
            with_reducible refine (QaI.calls k2 _ _ l0_4 ((rd_T46 t894 x10_2).f1) t903 t904 t905 t906 t907 t908 t909 _ ?side1 ?side2 A30.out).mono ?_
            (case side1 => exact Zv (Kd.C_below HR0_4.out HB.out))
            (case side2 => exact HC0_4.out)
            rintro e w34 ⟨rfl, hb⟩
            have HS6_ := (hb.cell (World.block_lt_of_cell? _ _ (hHeld.2.2.2.2.2.2.1))).trans (hHeld.2.2.2.2.2.2.1)
            have HS7_ := (hb.cell (World.block_lt_of_cell? _ _ (hHeld.2.2.2.2.2.2.2.1))).trans (hHeld.2.2.2.2.2.2.2.1)
            have HS8_ := (hb.cell (World.block_lt_of_cell? _ _ (hHeld.2.2.2.2.2.2.2.2.1))).trans (hHeld.2.2.2.2.2.2.2.2.1)
            have HS9_ := (hb.cell (World.block_lt_of_cell? _ _ (hHeld.2.2.2.2.2.2.2.2.2))).trans (hHeld.2.2.2.2.2.2.2.2.2)
            refine ⟨_, rfl, ?_⟩
            replace HO_3 := Aside0.mk (Kd.R_below (Zr HO_3.out) hb)
            replace HO_5 := Aside0.mk (Kd.R_below (Zr HO_5.out) hb)
            replace BK886 := Aside0.mk (Zi BK886.out hb)
            replace HB := Aside0.mk (Qan (Zc1 GE886.out) hb)
            (try clear hb)
            (try clear hb2)
            (try clear hk)
            (try clear hi)
            refine hK.out _ _ ⟨(Qai BK886.out 0).trans rfl, (Qai BK886.out 1).trans rfl, (Qai BK886.out 2).trans rfl, (Qai BK886.out 3).trans rfl, (Qai BK886.out 4).trans rfl, (Qai BK886.out 5).trans rfl, HS6_, HS7_, HS8_, HS9_⟩ (fun hHeld => ?_)
            clear hK K
            refine norm_ (a' := ?_) ?_ ?_
            rotate_left
            ·show Act.put _ (some 101) _ = _
             simp only [Act.put, Zj, Zk, Zm, i64_w, i32_w]
             rfl
            refine pure_ (i := 8) (N := some 93) (v := ?_) (a' := ?_) #[T, T, T, T, T, T, T, T, T, F, F, F, F, F] rfl rfl (any_of HT_.out (by kernel_rfl)) (fun _ _ _ h => h) (Or.inl ⟨by rfl, ?_⟩) ?_ ?_
            rotate_left
            ·intro w'
             go_simp
             with_reducible rfl
            rotate_left
            ·simp only [Act.put, Zj, Zk, Zm, i64_w, i32_w]
             rfl
            refine pure_ (i := 9) (N := some 102) (v := ?_) (a' := ?_) #[T, T, T, T, T, T, T, T, T, T, F, F, F, F] rfl rfl (any_of HT_.out (by kernel_rfl)) (fun _ _ _ h => h) (Or.inl ⟨by rfl, ?_⟩) ?_ ?_
            rotate_left
            ·intro w'
             go_simp
             with_reducible rfl
            rotate_left
            ·simp only [Act.put, Zj, Zk, Zm, i64_w, i32_w]
             rfl
            refine pure_ (i := 10) (N := some 103) (v := ?_) (a' := ?_) #[T, T, T, T, T, T, T, T, T, T, T, F, F, F] rfl rfl (any_of HT_.out (by kernel_rfl)) (fun _ _ _ h => h) (Or.inl ⟨by rfl, ?_⟩) ?_ ?_
            rotate_left
            ·intro w'
             go_simp
             with_reducible rfl
            rotate_left
            ·simp only [Act.put, Zj, Zk, Zm, i64_w, i32_w]
             rfl
            refine one_ (i := 11) (N := some 11) #[T, T, T, T, T, T, T, T, T, T, T, T, F, F] rfl rfl (one_of HT_.out (by kernel_rfl)) (by decide) (fun K hK => ?_)
            refine Qd5 ?hg (N := 11) ?hd (cs := #[.string (⟨#[]⟩ : ByteArray), .int .i64 0, .int .i64 0, .int .i64 0, .int .i64 0, .int .i64 0]) (t := 84) ?hr ?_; (case hd => rfl); (case hg => rfl); (case hr => first | (go_simp; done) | (go_simp; rfl))
            intro gb910 hg w35 hbox hb
            have HS6_ := (hb.cell (World.block_lt_of_cell? _ _ (hHeld.2.2.2.2.2.2.1))).trans (hHeld.2.2.2.2.2.2.1)
            have HS7_ := (hb.cell (World.block_lt_of_cell? _ _ (hHeld.2.2.2.2.2.2.2.1))).trans (hHeld.2.2.2.2.2.2.2.1)
            have HS8_ := (hb.cell (World.block_lt_of_cell? _ _ (hHeld.2.2.2.2.2.2.2.2.1))).trans (hHeld.2.2.2.2.2.2.2.2.1)
            have HS9_ := (hb.cell (World.block_lt_of_cell? _ _ (hHeld.2.2.2.2.2.2.2.2.2))).trans (hHeld.2.2.2.2.2.2.2.2.2)
            have BK910 := Aside0.mk (hbox)
            have GW910 := Aside0.mk (Zt w hg (Zc1 GE886.out))
            have GE910 := GW910
            have NB886_910 := Aside0.mk (Zn hg BK886.out)
            have NB910_886 := Aside0.mk NB886_910.out.symm
            replace HO_3 := Aside0.mk (Kd.R_below (Zr HO_3.out) hb)
            replace HO_5 := Aside0.mk (Kd.R_below (Zr HO_5.out) hb)
            replace BK886 := Aside0.mk (Zi BK886.out hb)
            replace HB := Aside0.mk (Qan (Zc1 GE886.out) hb)
            clear hb hbox hg
            refine hK.out _ _ ⟨(Qai BK886.out 0).trans rfl, (Qai BK886.out 1).trans rfl, (Qai BK886.out 2).trans rfl, (Qai BK886.out 3).trans rfl, (Qai BK886.out 4).trans rfl, (Qai BK886.out 5).trans rfl, HS6_, HS7_, HS8_, HS9_⟩ (fun hHeld => ?_)
            clear hK K
            refine norm_ (a' := ?_) ?_ ?_
            rotate_left
            ·show Act.put _ (some 11) _ = _
             simp only [Act.put, Zj, Zk, Zm, i64_w, i32_w]
             rfl
            exact norm_ (by simp only [putAll, Act.put, Zj, Zk, Zm]) (hCont (gb910) _ ⟨hHeld, (Zr HO_3.out), (Zr HO_5.out), (Zu BK886.out), (Zu BK910.out), GW910.out, GE910.out, NB886_910.out, NB910_886.out, (Zc2 GE886.out GE910.out)⟩)
           skip
           refine Qd5 ?hg (N := 11) ?hd (cs := #[.string (⟨#[]⟩ : ByteArray), .int .i64 0, .int .i64 0, .int .i64 0, .int .i64 0, .int .i64 0]) (t := 84) ?hr ?_; (case hd => rfl); (case hg => rfl); (case hr => first | (go_simp; done) | (go_simp; rfl))
           intro gb910 hg w34 hbox hb
           have HS6_ := (hb.cell (World.block_lt_of_cell? _ _ (hHeld.2.2.2.2.2.2.1))).trans (hHeld.2.2.2.2.2.2.1)
           have HS7_ := (hb.cell (World.block_lt_of_cell? _ _ (hHeld.2.2.2.2.2.2.2.1))).trans (hHeld.2.2.2.2.2.2.2.1)
           have HS8_ := (hb.cell (World.block_lt_of_cell? _ _ (hHeld.2.2.2.2.2.2.2.2.1))).trans (hHeld.2.2.2.2.2.2.2.2.1)
           have HS9_ := (hb.cell (World.block_lt_of_cell? _ _ (hHeld.2.2.2.2.2.2.2.2.2))).trans (hHeld.2.2.2.2.2.2.2.2.2)
           have BK910 := Aside0.mk (hbox)
           have GW910 := Aside0.mk (Zt w hg (Zc1 GE886.out))
           have GE910 := GW910
           have NB886_910 := Aside0.mk (Zn hg BK886.out)
           have NB910_886 := Aside0.mk NB886_910.out.symm
           replace HO_3 := Aside0.mk (Kd.R_below (Zr HO_3.out) hb)
           replace HO_5 := Aside0.mk (Kd.R_below (Zr HO_5.out) hb)
           replace BK886 := Aside0.mk (Zi BK886.out hb)
           replace HB := Aside0.mk (Qan (Zc1 GE886.out) hb)
           clear hb hbox hg
           refine hK.out _ _ ⟨(Qai BK886.out 0).trans rfl, (Qai BK886.out 1).trans rfl, (Qai BK886.out 2).trans rfl, (Qai BK886.out 3).trans rfl, (Qai BK886.out 4).trans rfl, (Qai BK886.out 5).trans rfl, HS6_, HS7_, HS8_, HS9_⟩ (fun hHeld => ?_)
           clear hK K
           refine norm_ (a' := ?_) ?_ ?_
           rotate_left
           ·show Act.put _ (some 11) _ = _
            simp only [Act.put, Zj, Zk, Zm, i64_w, i32_w]
            rfl
           refine one_ (i := 7) (N := some 101) #[T, T, T, T, T, T, T, T, F, F, F, T, F, F] rfl rfl (one_of HT_.out (by kernel_rfl)) (by decide) (fun K hK => ?_)
           refine goes_ Try.func41 (by kernel_rfl) rfl #[.slice A0_4 l0_4.length c0_4, .string ((rd_T46 t894 x10_2).f1)] (by rfl) rfl rfl (Zl) ?_
           with_reducible refine (QaI.calls k2 _ _ l0_4 ((rd_T46 t894 x10_2).f1) t903 t904 t905 t906 t907 t908 t909 _ ?side1 ?side2 A30.out).mono ?_
           (case side1 => exact Zv (Kd.C_below HR0_4.out HB.out))
           (case side2 => exact HC0_4.out)
           rintro e w35 ⟨rfl, hb⟩
           have HS6_ := (hb.cell (World.block_lt_of_cell? _ _ (hHeld.2.2.2.2.2.2.1))).trans (hHeld.2.2.2.2.2.2.1)
           have HS7_ := (hb.cell (World.block_lt_of_cell? _ _ (hHeld.2.2.2.2.2.2.2.1))).trans (hHeld.2.2.2.2.2.2.2.1)
           have HS8_ := (hb.cell (World.block_lt_of_cell? _ _ (hHeld.2.2.2.2.2.2.2.2.1))).trans (hHeld.2.2.2.2.2.2.2.2.1)
           have HS9_ := (hb.cell (World.block_lt_of_cell? _ _ (hHeld.2.2.2.2.2.2.2.2.2))).trans (hHeld.2.2.2.2.2.2.2.2.2)
           refine ⟨_, rfl, ?_⟩
           replace HO_3 := Aside0.mk (Kd.R_below (Zr HO_3.out) hb)
           replace HO_5 := Aside0.mk (Kd.R_below (Zr HO_5.out) hb)
           replace BK886 := Aside0.mk (Zi BK886.out hb)
           replace BK910 := Aside0.mk (Zi BK910.out hb)
           replace HB := Aside0.mk (Qan (Zc2 GE886.out GE910.out) hb)
           (try clear hb)
           (try clear hb2)
           (try clear hk)
           (try clear hi)
           refine hK.out _ _ ⟨(Qai BK886.out 0).trans rfl, (Qai BK886.out 1).trans rfl, (Qai BK886.out 2).trans rfl, (Qai BK886.out 3).trans rfl, (Qai BK886.out 4).trans rfl, (Qai BK886.out 5).trans rfl, HS6_, HS7_, HS8_, HS9_⟩ (fun hHeld => ?_)
           clear hK K
           refine norm_ (a' := ?_) ?_ ?_
           rotate_left
           ·show Act.put _ (some 101) _ = _
            simp only [Act.put, Zj, Zk, Zm, i64_w, i32_w]
            rfl
           refine pure_ (i := 8) (N := some 93) (v := ?_) (a' := ?_) #[T, T, T, T, T, T, T, T, T, F, F, T, F, F] rfl rfl (any_of HT_.out (by kernel_rfl)) (fun _ _ _ h => h) (Or.inl ⟨by rfl, ?_⟩) ?_ ?_
           rotate_left
           ·intro w'
            go_simp
            with_reducible rfl
           rotate_left
           ·simp only [Act.put, Zj, Zk, Zm, i64_w, i32_w]
            rfl
           refine pure_ (i := 9) (N := some 102) (v := ?_) (a' := ?_) #[T, T, T, T, T, T, T, T, T, T, F, T, F, F] rfl rfl (any_of HT_.out (by kernel_rfl)) (fun _ _ _ h => h) (Or.inl ⟨by rfl, ?_⟩) ?_ ?_
           rotate_left
           ·intro w'
            go_simp
            with_reducible rfl
           rotate_left
           ·simp only [Act.put, Zj, Zk, Zm, i64_w, i32_w]
            rfl
           refine pure_ (i := 10) (N := some 103) (v := ?_) (a' := ?_) #[T, T, T, T, T, T, T, T, T, T, T, T, F, F] rfl rfl (any_of HT_.out (by kernel_rfl)) (fun _ _ _ h => h) (Or.inl ⟨by rfl, ?_⟩) ?_ ?_
           rotate_left
           ·intro w'
            go_simp
            with_reducible rfl
           rotate_left
           ·simp only [Act.put, Zj, Zk, Zm, i64_w, i32_w]
            rfl
           exact norm_ (by simp only [putAll, Act.put, Zj, Zk, Zm]) (hCont (gb910) _ ⟨hHeld, (Zr HO_3.out), (Zr HO_5.out), (Zu BK886.out), (Zu BK910.out), GW910.out, GE910.out, NB886_910.out, NB910_886.out, (Zc2 GE886.out GE910.out)⟩)
          rintro gb910 w36 ⟨hS_, h0_, h1_, h2_, h3_, h4_, h5_, h6_, h7_, h8_⟩
          have n0_ : Aside0 (Kd.R (Kd.int .i64) 3 w36 w.heap.size (fun _ => True) (.slice Ao26 t889.length co26) t889) := ⟨h0_⟩
          have n1_ : Aside0 (Kd.R k46 46 w36 w.heap.size (fun _ => True) (.slice (some ad902) t894.length co33) t894) := ⟨h1_⟩
          have n2_ : Aside0 (w36.heap[gb886]? = some (.cells #[.slice A0_0 l0_0.length c0_0, .string a0_1, .string a0_2, .int .i64 a0_3, .slice A0_4 l0_4.length c0_4, .slice A0_5 l0_5.length c0_5] 61 (0, 0))) := ⟨h2_⟩
          have n3_ : Aside0 (w36.heap[gb910]? = some (.cells #[.string (⟨#[]⟩ : ByteArray), .int .i64 0, .int .i64 0, .int .i64 0, .int .i64 0, .int .i64 0] 84 (0, 0))) := ⟨h3_⟩
          have n4_ : Aside0 (w.heap.size ≤ gb910) := ⟨h4_⟩
          have n5_ : Aside0 (w.heap.size ≤ gb910) := ⟨h5_⟩
          have n6_ : Aside0 (gb886 ≠ gb910) := ⟨h6_⟩
          have n7_ : Aside0 (gb910 ≠ gb886) := ⟨h7_⟩
          have n8_ : Aside0 (Below w.heap.size w w36) := ⟨h8_⟩
          clear HO_3
          clear HO_5
          clear BK886
          clear HB
          clear h0_ h1_ h2_ h3_ h4_ h5_ h6_ h7_ h8_
          have HO_3 := n0_
          have HO_5 := n1_
          have BK886 := n2_
          have BK910 := n3_
          have GW910 := n4_
          have GE910 := n5_
          have NB886_910 := n6_
          have NB910_886 := n7_
          have HB := n8_
          clear n0_ n1_ n2_ n3_ n4_ n5_ n6_ n7_ n8_
          have hHeld : w36.cell? ⟨gb886, 0, none⟩ = some (.slice A0_0 l0_0.length c0_0) ∧ w36.cell? ⟨gb886, 1, none⟩ = some (.string a0_1) ∧ w36.cell? ⟨gb886, 2, none⟩ = some (.string a0_2) ∧ w36.cell? ⟨gb886, 3, none⟩ = some (.int .i64 a0_3) ∧ w36.cell? ⟨gb886, 4, none⟩ = some (.slice A0_4 l0_4.length c0_4) ∧ w36.cell? ⟨gb886, 5, none⟩ = some (.slice A0_5 l0_5.length c0_5) ∧ w36.cell? (ad902.add ((x10_2).toNat * 4)) = some (.string ((rd_T46 t894 x10_2).f0.f0)) ∧ w36.cell? ⟨(ad902.add ((x10_2).toNat * 4)).block, (ad902.add ((x10_2).toNat * 4)).off + 1, none⟩ = some (.string ((rd_T46 t894 x10_2).f0.f1)) ∧ w36.cell? ⟨(ad902.add ((x10_2).toNat * 4)).block, (ad902.add ((x10_2).toNat * 4)).off + 2, none⟩ = some (.string ((rd_T46 t894 x10_2).f1)) ∧ w36.cell? ⟨(ad902.add ((x10_2).toNat * 4)).block, (ad902.add ((x10_2).toNat * 4)).off + 3, none⟩ = some (.int .i64 ((rd_T46 t894 x10_2).f2)) := hS_
          refine norm_ (a' := ?_) ?_ ?_
          rotate_left
          ·simp only [putAll, Act.put, Zj, Zk, Zm]
           rfl
          refine one_ (i := 12) (N := none) #[T, T, T, T, T, T, T, T, T, T, T, T, T, F] rfl rfl (one_of HT_.out (by kernel_rfl)) (by decide) (fun K hK => ?_)
          have hs37 : w36.cell? ⟨gb910, 0, none⟩ = some (.string (⟨#[]⟩ : ByteArray)) := (Qai BK910.out 0).trans rfl
          have hfs37 := Qah BK910.out 0
          have hns37_0 := NB886_910.out
          have hms37_0 := NB910_886.out
          have hs38 : w36.cell? ⟨gb910, 1, none⟩ = some (.int .i64 0) := (Qai BK910.out 1).trans rfl
          have hfs38 := Qah BK910.out 1
          have hns38_0 := NB886_910.out
          have hms38_0 := NB910_886.out
          have hs39 : w36.cell? ⟨gb910, 2, none⟩ = some (.int .i64 0) := (Qai BK910.out 2).trans rfl
          have hfs39 := Qah BK910.out 2
          have hns39_0 := NB886_910.out
          have hms39_0 := NB910_886.out
          have hs40 : w36.cell? ⟨gb910, 3, none⟩ = some (.int .i64 0) := (Qai BK910.out 3).trans rfl
          have hfs40 := Qah BK910.out 3
          have hns40_0 := NB886_910.out
          have hms40_0 := NB910_886.out
          have hs41 : w36.cell? ⟨gb910, 4, none⟩ = some (.int .i64 0) := (Qai BK910.out 4).trans rfl
          have hfs41 := Qah BK910.out 4
          have hns41_0 := NB886_910.out
          have hms41_0 := NB910_886.out
          have hs42 : w36.cell? ⟨gb910, 5, none⟩ = some (.int .i64 0) := (Qai BK910.out 5).trans rfl
          have hfs42 := Qah BK910.out 5
          have hns42_0 := NB886_910.out
          have hms42_0 := NB910_886.out
          refine skip_ (w1 := ?_) (by rfl) rfl ?_ ?_
          rotate_left
          ·go_simp
           rfl
          refine hK.out _ _ ⟨((Qa7 (p := ⟨gb910, _, none⟩) NB886_910.out _).trans (((Qa7 (p := ⟨gb910, _, none⟩) NB886_910.out _).trans (((Qa7 (p := ⟨gb910, _, none⟩) NB886_910.out _).trans (((Qa7 (p := ⟨gb910, _, none⟩) NB886_910.out _).trans (((Qa7 (p := ⟨gb910, _, none⟩) NB886_910.out _).trans (((Qa7 (p := ⟨gb910, _, none⟩) NB886_910.out _).trans (hHeld.1)))))))))))), ((Qa7 (p := ⟨gb910, _, none⟩) NB886_910.out _).trans (((Qa7 (p := ⟨gb910, _, none⟩) NB886_910.out _).trans (((Qa7 (p := ⟨gb910, _, none⟩) NB886_910.out _).trans (((Qa7 (p := ⟨gb910, _, none⟩) NB886_910.out _).trans (((Qa7 (p := ⟨gb910, _, none⟩) NB886_910.out _).trans (((Qa7 (p := ⟨gb910, _, none⟩) NB886_910.out _).trans (hHeld.2.1)))))))))))), ((Qa7 (p := ⟨gb910, _, none⟩) NB886_910.out _).trans (((Qa7 (p := ⟨gb910, _, none⟩) NB886_910.out _).trans (((Qa7 (p := ⟨gb910, _, none⟩) NB886_910.out _).trans (((Qa7 (p := ⟨gb910, _, none⟩) NB886_910.out _).trans (((Qa7 (p := ⟨gb910, _, none⟩) NB886_910.out _).trans (((Qa7 (p := ⟨gb910, _, none⟩) NB886_910.out _).trans (hHeld.2.2.1)))))))))))), ((Qa7 (p := ⟨gb910, _, none⟩) NB886_910.out _).trans (((Qa7 (p := ⟨gb910, _, none⟩) NB886_910.out _).trans (((Qa7 (p := ⟨gb910, _, none⟩) NB886_910.out _).trans (((Qa7 (p := ⟨gb910, _, none⟩) NB886_910.out _).trans (((Qa7 (p := ⟨gb910, _, none⟩) NB886_910.out _).trans (((Qa7 (p := ⟨gb910, _, none⟩) NB886_910.out _).trans (hHeld.2.2.2.1)))))))))))), ((Qa7 (p := ⟨gb910, _, none⟩) NB886_910.out _).trans (((Qa7 (p := ⟨gb910, _, none⟩) NB886_910.out _).trans (((Qa7 (p := ⟨gb910, _, none⟩) NB886_910.out _).trans (((Qa7 (p := ⟨gb910, _, none⟩) NB886_910.out _).trans (((Qa7 (p := ⟨gb910, _, none⟩) NB886_910.out _).trans (((Qa7 (p := ⟨gb910, _, none⟩) NB886_910.out _).trans (hHeld.2.2.2.2.1)))))))))))), ((Qa7 (p := ⟨gb910, _, none⟩) NB886_910.out _).trans (((Qa7 (p := ⟨gb910, _, none⟩) NB886_910.out _).trans (((Qa7 (p := ⟨gb910, _, none⟩) NB886_910.out _).trans (((Qa7 (p := ⟨gb910, _, none⟩) NB886_910.out _).trans (((Qa7 (p := ⟨gb910, _, none⟩) NB886_910.out _).trans (((Qa7 (p := ⟨gb910, _, none⟩) NB886_910.out _).trans (hHeld.2.2.2.2.2.1)))))))))))), ((Qa7 (p := ⟨gb910, _, none⟩) (by first | exact Kd.own_blk (Kd.R_ne HO_5.out BK910.out (by decide)) | (rw [Qbc]; exact Kd.own_blk (Kd.R_ne HO_5.out BK910.out (by decide))) | (show (Addr.add _ _).block ≠ _; rw [Qbc]; exact Kd.own_blk (Kd.R_ne HO_5.out BK910.out (by decide))) | (dsimp only; exact Kd.own_blk (Kd.R_ne HO_5.out BK910.out (by decide)))) _).trans (((Qa7 (p := ⟨gb910, _, none⟩) (by first | exact Kd.own_blk (Kd.R_ne HO_5.out BK910.out (by decide)) | (rw [Qbc]; exact Kd.own_blk (Kd.R_ne HO_5.out BK910.out (by decide))) | (show (Addr.add _ _).block ≠ _; rw [Qbc]; exact Kd.own_blk (Kd.R_ne HO_5.out BK910.out (by decide))) | (dsimp only; exact Kd.own_blk (Kd.R_ne HO_5.out BK910.out (by decide)))) _).trans (((Qa7 (p := ⟨gb910, _, none⟩) (by first | exact Kd.own_blk (Kd.R_ne HO_5.out BK910.out (by decide)) | (rw [Qbc]; exact Kd.own_blk (Kd.R_ne HO_5.out BK910.out (by decide))) | (show (Addr.add _ _).block ≠ _; rw [Qbc]; exact Kd.own_blk (Kd.R_ne HO_5.out BK910.out (by decide))) | (dsimp only; exact Kd.own_blk (Kd.R_ne HO_5.out BK910.out (by decide)))) _).trans (((Qa7 (p := ⟨gb910, _, none⟩) (by first | exact Kd.own_blk (Kd.R_ne HO_5.out BK910.out (by decide)) | (rw [Qbc]; exact Kd.own_blk (Kd.R_ne HO_5.out BK910.out (by decide))) | (show (Addr.add _ _).block ≠ _; rw [Qbc]; exact Kd.own_blk (Kd.R_ne HO_5.out BK910.out (by decide))) | (dsimp only; exact Kd.own_blk (Kd.R_ne HO_5.out BK910.out (by decide)))) _).trans (((Qa7 (p := ⟨gb910, _, none⟩) (by first | exact Kd.own_blk (Kd.R_ne HO_5.out BK910.out (by decide)) | (rw [Qbc]; exact Kd.own_blk (Kd.R_ne HO_5.out BK910.out (by decide))) | (show (Addr.add _ _).block ≠ _; rw [Qbc]; exact Kd.own_blk (Kd.R_ne HO_5.out BK910.out (by decide))) | (dsimp only; exact Kd.own_blk (Kd.R_ne HO_5.out BK910.out (by decide)))) _).trans (((Qa7 (p := ⟨gb910, _, none⟩) (by first | exact Kd.own_blk (Kd.R_ne HO_5.out BK910.out (by decide)) | (rw [Qbc]; exact Kd.own_blk (Kd.R_ne HO_5.out BK910.out (by decide))) | (show (Addr.add _ _).block ≠ _; rw [Qbc]; exact Kd.own_blk (Kd.R_ne HO_5.out BK910.out (by decide))) | (dsimp only; exact Kd.own_blk (Kd.R_ne HO_5.out BK910.out (by decide)))) _).trans (hHeld.2.2.2.2.2.2.1)))))))))))), ((Qa7 (p := ⟨gb910, _, none⟩) (by first | exact Kd.own_blk (Kd.R_ne HO_5.out BK910.out (by decide)) | (rw [Qbc]; exact Kd.own_blk (Kd.R_ne HO_5.out BK910.out (by decide))) | (show (Addr.add _ _).block ≠ _; rw [Qbc]; exact Kd.own_blk (Kd.R_ne HO_5.out BK910.out (by decide))) | (dsimp only; exact Kd.own_blk (Kd.R_ne HO_5.out BK910.out (by decide)))) _).trans (((Qa7 (p := ⟨gb910, _, none⟩) (by first | exact Kd.own_blk (Kd.R_ne HO_5.out BK910.out (by decide)) | (rw [Qbc]; exact Kd.own_blk (Kd.R_ne HO_5.out BK910.out (by decide))) | (show (Addr.add _ _).block ≠ _; rw [Qbc]; exact Kd.own_blk (Kd.R_ne HO_5.out BK910.out (by decide))) | (dsimp only; exact Kd.own_blk (Kd.R_ne HO_5.out BK910.out (by decide)))) _).trans (((Qa7 (p := ⟨gb910, _, none⟩) (by first | exact Kd.own_blk (Kd.R_ne HO_5.out BK910.out (by decide)) | (rw [Qbc]; exact Kd.own_blk (Kd.R_ne HO_5.out BK910.out (by decide))) | (show (Addr.add _ _).block ≠ _; rw [Qbc]; exact Kd.own_blk (Kd.R_ne HO_5.out BK910.out (by decide))) | (dsimp only; exact Kd.own_blk (Kd.R_ne HO_5.out BK910.out (by decide)))) _).trans (((Qa7 (p := ⟨gb910, _, none⟩) (by first | exact Kd.own_blk (Kd.R_ne HO_5.out BK910.out (by decide)) | (rw [Qbc]; exact Kd.own_blk (Kd.R_ne HO_5.out BK910.out (by decide))) | (show (Addr.add _ _).block ≠ _; rw [Qbc]; exact Kd.own_blk (Kd.R_ne HO_5.out BK910.out (by decide))) | (dsimp only; exact Kd.own_blk (Kd.R_ne HO_5.out BK910.out (by decide)))) _).trans (((Qa7 (p := ⟨gb910, _, none⟩) (by first | exact Kd.own_blk (Kd.R_ne HO_5.out BK910.out (by decide)) | (rw [Qbc]; exact Kd.own_blk (Kd.R_ne HO_5.out BK910.out (by decide))) | (show (Addr.add _ _).block ≠ _; rw [Qbc]; exact Kd.own_blk (Kd.R_ne HO_5.out BK910.out (by decide))) | (dsimp only; exact Kd.own_blk (Kd.R_ne HO_5.out BK910.out (by decide)))) _).trans (((Qa7 (p := ⟨gb910, _, none⟩) (by first | exact Kd.own_blk (Kd.R_ne HO_5.out BK910.out (by decide)) | (rw [Qbc]; exact Kd.own_blk (Kd.R_ne HO_5.out BK910.out (by decide))) | (show (Addr.add _ _).block ≠ _; rw [Qbc]; exact Kd.own_blk (Kd.R_ne HO_5.out BK910.out (by decide))) | (dsimp only; exact Kd.own_blk (Kd.R_ne HO_5.out BK910.out (by decide)))) _).trans (hHeld.2.2.2.2.2.2.2.1)))))))))))), ((Qa7 (p := ⟨gb910, _, none⟩) (by first | exact Kd.own_blk (Kd.R_ne HO_5.out BK910.out (by decide)) | (rw [Qbc]; exact Kd.own_blk (Kd.R_ne HO_5.out BK910.out (by decide))) | (show (Addr.add _ _).block ≠ _; rw [Qbc]; exact Kd.own_blk (Kd.R_ne HO_5.out BK910.out (by decide))) | (dsimp only; exact Kd.own_blk (Kd.R_ne HO_5.out BK910.out (by decide)))) _).trans (((Qa7 (p := ⟨gb910, _, none⟩) (by first | exact Kd.own_blk (Kd.R_ne HO_5.out BK910.out (by decide)) | (rw [Qbc]; exact Kd.own_blk (Kd.R_ne HO_5.out BK910.out (by decide))) | (show (Addr.add _ _).block ≠ _; rw [Qbc]; exact Kd.own_blk (Kd.R_ne HO_5.out BK910.out (by decide))) | (dsimp only; exact Kd.own_blk (Kd.R_ne HO_5.out BK910.out (by decide)))) _).trans (((Qa7 (p := ⟨gb910, _, none⟩) (by first | exact Kd.own_blk (Kd.R_ne HO_5.out BK910.out (by decide)) | (rw [Qbc]; exact Kd.own_blk (Kd.R_ne HO_5.out BK910.out (by decide))) | (show (Addr.add _ _).block ≠ _; rw [Qbc]; exact Kd.own_blk (Kd.R_ne HO_5.out BK910.out (by decide))) | (dsimp only; exact Kd.own_blk (Kd.R_ne HO_5.out BK910.out (by decide)))) _).trans (((Qa7 (p := ⟨gb910, _, none⟩) (by first | exact Kd.own_blk (Kd.R_ne HO_5.out BK910.out (by decide)) | (rw [Qbc]; exact Kd.own_blk (Kd.R_ne HO_5.out BK910.out (by decide))) | (show (Addr.add _ _).block ≠ _; rw [Qbc]; exact Kd.own_blk (Kd.R_ne HO_5.out BK910.out (by decide))) | (dsimp only; exact Kd.own_blk (Kd.R_ne HO_5.out BK910.out (by decide)))) _).trans (((Qa7 (p := ⟨gb910, _, none⟩) (by first | exact Kd.own_blk (Kd.R_ne HO_5.out BK910.out (by decide)) | (rw [Qbc]; exact Kd.own_blk (Kd.R_ne HO_5.out BK910.out (by decide))) | (show (Addr.add _ _).block ≠ _; rw [Qbc]; exact Kd.own_blk (Kd.R_ne HO_5.out BK910.out (by decide))) | (dsimp only; exact Kd.own_blk (Kd.R_ne HO_5.out BK910.out (by decide)))) _).trans (((Qa7 (p := ⟨gb910, _, none⟩) (by first | exact Kd.own_blk (Kd.R_ne HO_5.out BK910.out (by decide)) | (rw [Qbc]; exact Kd.own_blk (Kd.R_ne HO_5.out BK910.out (by decide))) | (show (Addr.add _ _).block ≠ _; rw [Qbc]; exact Kd.own_blk (Kd.R_ne HO_5.out BK910.out (by decide))) | (dsimp only; exact Kd.own_blk (Kd.R_ne HO_5.out BK910.out (by decide)))) _).trans (hHeld.2.2.2.2.2.2.2.2.1)))))))))))), ((Qa7 (p := ⟨gb910, _, none⟩) (by first | exact Kd.own_blk (Kd.R_ne HO_5.out BK910.out (by decide)) | (rw [Qbc]; exact Kd.own_blk (Kd.R_ne HO_5.out BK910.out (by decide))) | (show (Addr.add _ _).block ≠ _; rw [Qbc]; exact Kd.own_blk (Kd.R_ne HO_5.out BK910.out (by decide))) | (dsimp only; exact Kd.own_blk (Kd.R_ne HO_5.out BK910.out (by decide)))) _).trans (((Qa7 (p := ⟨gb910, _, none⟩) (by first | exact Kd.own_blk (Kd.R_ne HO_5.out BK910.out (by decide)) | (rw [Qbc]; exact Kd.own_blk (Kd.R_ne HO_5.out BK910.out (by decide))) | (show (Addr.add _ _).block ≠ _; rw [Qbc]; exact Kd.own_blk (Kd.R_ne HO_5.out BK910.out (by decide))) | (dsimp only; exact Kd.own_blk (Kd.R_ne HO_5.out BK910.out (by decide)))) _).trans (((Qa7 (p := ⟨gb910, _, none⟩) (by first | exact Kd.own_blk (Kd.R_ne HO_5.out BK910.out (by decide)) | (rw [Qbc]; exact Kd.own_blk (Kd.R_ne HO_5.out BK910.out (by decide))) | (show (Addr.add _ _).block ≠ _; rw [Qbc]; exact Kd.own_blk (Kd.R_ne HO_5.out BK910.out (by decide))) | (dsimp only; exact Kd.own_blk (Kd.R_ne HO_5.out BK910.out (by decide)))) _).trans (((Qa7 (p := ⟨gb910, _, none⟩) (by first | exact Kd.own_blk (Kd.R_ne HO_5.out BK910.out (by decide)) | (rw [Qbc]; exact Kd.own_blk (Kd.R_ne HO_5.out BK910.out (by decide))) | (show (Addr.add _ _).block ≠ _; rw [Qbc]; exact Kd.own_blk (Kd.R_ne HO_5.out BK910.out (by decide))) | (dsimp only; exact Kd.own_blk (Kd.R_ne HO_5.out BK910.out (by decide)))) _).trans (((Qa7 (p := ⟨gb910, _, none⟩) (by first | exact Kd.own_blk (Kd.R_ne HO_5.out BK910.out (by decide)) | (rw [Qbc]; exact Kd.own_blk (Kd.R_ne HO_5.out BK910.out (by decide))) | (show (Addr.add _ _).block ≠ _; rw [Qbc]; exact Kd.own_blk (Kd.R_ne HO_5.out BK910.out (by decide))) | (dsimp only; exact Kd.own_blk (Kd.R_ne HO_5.out BK910.out (by decide)))) _).trans (((Qa7 (p := ⟨gb910, _, none⟩) (by first | exact Kd.own_blk (Kd.R_ne HO_5.out BK910.out (by decide)) | (rw [Qbc]; exact Kd.own_blk (Kd.R_ne HO_5.out BK910.out (by decide))) | (show (Addr.add _ _).block ≠ _; rw [Qbc]; exact Kd.own_blk (Kd.R_ne HO_5.out BK910.out (by decide))) | (dsimp only; exact Kd.own_blk (Kd.R_ne HO_5.out BK910.out (by decide)))) _).trans (hHeld.2.2.2.2.2.2.2.2.2))))))))))))⟩ (fun hHeld => ?_)
          clear hK K
          refine pure_ (i := 13) (N := some 12) (v := ?_) (a' := ?_) #[T, T, T, T, T, T, T, T, T, T, T, T, T, T] rfl rfl (any_of HT_.out (by kernel_rfl)) (fun _ _ _ h => h) (Or.inl ⟨by rfl, ?_⟩) ?_ ?_
          rotate_left
          ·intro w'
           go_simp
           with_reducible rfl
          rotate_left
          ·simp only [Act.put, Zj, Zk, Zm, i64_w, i32_w]
           rfl
          refine done_ (Qb1 HT_.out (by kernel_rfl)) ?_
          try go_wp2
          have n0_ : Aside0 (Kd.R (Kd.int .i64) 3 ((((((w36.setCell ⟨gb910, 0, none⟩ (.string t903)).setCell ⟨gb910, 1, none⟩ (.int .i64 t904)).setCell ⟨gb910, 2, none⟩ (.int .i64 t905)).setCell ⟨gb910, 3, none⟩ (.int .i64 t906)).setCell ⟨gb910, 4, none⟩ (.int .i64 t907)).setCell ⟨gb910, 5, none⟩ (.int .i64 t908)) w.heap.size (fun _ => True) (.slice Ao26 t889.length co26) t889) := ⟨by (with_reducible repeat (first | apply Kd.R_alloc | apply Kd.R_drewN | apply Kd.R_drew)); exact Kd.R_mono (Zf gb910 5 (Zf gb910 4 (Zf gb910 3 (Zf gb910 2 (Zf gb910 1 (Zf gb910 0 (Kd.R_types HO_3.out BK910.out (by decide)) (.string t903)) (.int .i64 t904)) (.int .i64 t905)) (.int .i64 t906)) (.int .i64 t907)) (.int .i64 t908)) (fun _ hk => trivial)⟩
          have n1_ : Aside0 (Kd.R k46 46 ((((((w36.setCell ⟨gb910, 0, none⟩ (.string t903)).setCell ⟨gb910, 1, none⟩ (.int .i64 t904)).setCell ⟨gb910, 2, none⟩ (.int .i64 t905)).setCell ⟨gb910, 3, none⟩ (.int .i64 t906)).setCell ⟨gb910, 4, none⟩ (.int .i64 t907)).setCell ⟨gb910, 5, none⟩ (.int .i64 t908)) w.heap.size (fun _ => True) (.slice (some ad902) t894.length co33) t894) := ⟨by (with_reducible repeat (first | apply Kd.R_alloc | apply Kd.R_drewN | apply Kd.R_drew)); exact Kd.R_mono (Zf gb910 5 (Zf gb910 4 (Zf gb910 3 (Zf gb910 2 (Zf gb910 1 (Zf gb910 0 (Kd.R_types HO_5.out BK910.out (by decide)) (.string t903)) (.int .i64 t904)) (.int .i64 t905)) (.int .i64 t906)) (.int .i64 t907)) (.int .i64 t908)) (fun _ hk => trivial)⟩
          have n2_ : Aside0 (((((((w36.setCell ⟨gb910, 0, none⟩ (.string t903)).setCell ⟨gb910, 1, none⟩ (.int .i64 t904)).setCell ⟨gb910, 2, none⟩ (.int .i64 t905)).setCell ⟨gb910, 3, none⟩ (.int .i64 t906)).setCell ⟨gb910, 4, none⟩ (.int .i64 t907)).setCell ⟨gb910, 5, none⟩ (.int .i64 t908)).heap[gb886]? = some (.cells #[.slice A0_0 l0_0.length c0_0, .string a0_1, .string a0_2, .int .i64 a0_3, .slice A0_4 l0_4.length c0_4, .slice A0_5 l0_5.length c0_5] 61 (0, 0))) := ⟨Zg6 BK886.out NB886_910.out NB886_910.out NB886_910.out NB886_910.out NB886_910.out NB886_910.out⟩
          have n3_ : Aside0 (((((((w36.setCell ⟨gb910, 0, none⟩ (.string t903)).setCell ⟨gb910, 1, none⟩ (.int .i64 t904)).setCell ⟨gb910, 2, none⟩ (.int .i64 t905)).setCell ⟨gb910, 3, none⟩ (.int .i64 t906)).setCell ⟨gb910, 4, none⟩ (.int .i64 t907)).setCell ⟨gb910, 5, none⟩ (.int .i64 t908)).heap[gb910]? = some (.cells #[.string t903, .int .i64 t904, .int .i64 t905, .int .i64 t906, .int .i64 t907, .int .i64 t908] 84 (0, 0))) := ⟨Zp2 BK910.out⟩
          have n4_ : Aside0 (Below w.heap.size w ((((((w36.setCell ⟨gb910, 0, none⟩ (.string t903)).setCell ⟨gb910, 1, none⟩ (.int .i64 t904)).setCell ⟨gb910, 2, none⟩ (.int .i64 t905)).setCell ⟨gb910, 3, none⟩ (.int .i64 t906)).setCell ⟨gb910, 4, none⟩ (.int .i64 t907)).setCell ⟨gb910, 5, none⟩ (.int .i64 t908))) := ⟨Zc2 GE886.out GE910.out⟩
          (try clear HO_3)
          (try clear HO_5)
          (try clear BK886)
          (try clear BK910)
          (try clear HB)
          generalize ((((((w36.setCell ⟨gb910, 0, none⟩ (.string t903)).setCell ⟨gb910, 1, none⟩ (.int .i64 t904)).setCell ⟨gb910, 2, none⟩ (.int .i64 t905)).setCell ⟨gb910, 3, none⟩ (.int .i64 t906)).setCell ⟨gb910, 4, none⟩ (.int .i64 t907)).setCell ⟨gb910, 5, none⟩ (.int .i64 t908)) = w43 at n0_ n1_ n2_ n3_ n4_ ⊢
          have HO_3 := n0_
          have HO_5 := n1_
          have BK886 := n2_
          have BK910 := n3_
          have HB := n4_
          clear n0_ n1_ n2_ n3_ n4_
          replace HO_3 := Aside0.mk (Kd.R_drew HO_3.out)
          replace HO_5 := Aside0.mk (Kd.R_drew HO_5.out)
          replace BK886 := Aside0.mk (Qad BK886.out)
          replace BK910 := Aside0.mk (Qad BK910.out)
          replace HB := Aside0.mk (Qag HB.out)
          have p911 : 0 ≤ (x10_2 : Int) := Ze
          have q911 : x10_2 < (t894.length : Int) := Ze
          obtain ⟨ad911, e911, hx911_0, hx911_1, hx911_2, hx911_3⟩ := at_T46 (Kd.R_reads' HO_5.out).2.2 x10_2 p911 q911
          obtain rfl : ad902 = ad911 := (by injection e911)
          replace p911 := eq_true p911
          replace q911 := eq_true q911
          refine start_ (n := 14) (S := fun w' => w'.cell? ⟨gb910, 0, none⟩ = some (.string t903) ∧ w'.cell? ⟨gb910, 1, none⟩ = some (.int .i64 t904) ∧ w'.cell? ⟨gb910, 2, none⟩ = some (.int .i64 t905) ∧ w'.cell? ⟨gb910, 3, none⟩ = some (.int .i64 t906) ∧ w'.cell? ⟨gb910, 4, none⟩ = some (.int .i64 t907) ∧ w'.cell? ⟨gb910, 5, none⟩ = some (.int .i64 t908) ∧ w'.cell? ⟨gb886, 0, none⟩ = some (.slice A0_0 l0_0.length c0_0) ∧ w'.cell? ⟨gb886, 1, none⟩ = some (.string a0_1) ∧ w'.cell? ⟨gb886, 2, none⟩ = some (.string a0_2) ∧ w'.cell? ⟨gb886, 3, none⟩ = some (.int .i64 a0_3) ∧ w'.cell? ⟨gb886, 4, none⟩ = some (.slice A0_4 l0_4.length c0_4) ∧ w'.cell? ⟨gb886, 5, none⟩ = some (.slice A0_5 l0_5.length c0_5) ∧ w'.cell? (ad902.add ((x10_2).toNat * 4)) = some (.string ((rd_T46 t894 x10_2).f0.f0)) ∧ w'.cell? ⟨(ad902.add ((x10_2).toNat * 4)).block, (ad902.add ((x10_2).toNat * 4)).off + 1, none⟩ = some (.string ((rd_T46 t894 x10_2).f0.f1)) ∧ w'.cell? ⟨(ad902.add ((x10_2).toNat * 4)).block, (ad902.add ((x10_2).toNat * 4)).off + 2, none⟩ = some (.string ((rd_T46 t894 x10_2).f1)) ∧ w'.cell? ⟨(ad902.add ((x10_2).toNat * 4)).block, (ad902.add ((x10_2).toNat * 4)).off + 3, none⟩ = some (.int .i64 ((rd_T46 t894 x10_2).f2))) (ds := []) #[F, F, F, F, F, F, F, F, F, F, F, F, F, F] (by kernel_rfl) rfl rfl ⟨(Qai BK910.out 0).trans rfl, (Qai BK910.out 1).trans rfl, (Qai BK910.out 2).trans rfl, (Qai BK910.out 3).trans rfl, (Qai BK910.out 4).trans rfl, (Qai BK910.out 5).trans rfl, (Qai BK886.out 0).trans rfl, (Qai BK886.out 1).trans rfl, (Qai BK886.out 2).trans rfl, (Qai BK886.out 3).trans rfl, (Qai BK886.out 4).trans rfl, (Qai BK886.out 5).trans rfl, hx911_0, hx911_1, hx911_2, hx911_3⟩ (fun hHeld => ?_); refine QbU contangolaw33_LimitCaps.tab15 contangolaw33_LimitCaps.bits15 (fun HT_ HW_ => ?_)
          generalize w43.drew = w44 at HO_3 HO_5 BK886 BK910 HB hx911_0 hx911_1 hx911_2 hx911_3 hHeld ⊢
          refine pure_ (i := 1) (N := some 106) (v := ?_) (a' := ?_) #[F, T, F, F, F, F, F, F, F, F, F, F, F, F] rfl rfl (any_of HT_.out (by kernel_rfl)) (fun _ _ _ h => h) (Or.inl ⟨by rfl, ?_⟩) ?_ ?_
          rotate_left
          ·intro w'
           go_simp
           with_reducible rfl
          rotate_left
          ·simp only [Act.put, Zj, Zk, Zm, i64_w, i32_w]
           rfl
          refine pure_ (i := 2) (N := some 107) (v := ?_) (a' := ?_) #[F, T, T, F, F, F, F, F, F, F, F, F, F, F] rfl rfl (any_of HT_.out (by kernel_rfl)) (fun _ _ _ h => h) (Or.inl ⟨by rfl, ?_⟩) ?_ ?_
          rotate_left
          ·intro w'
           go_simp
           with_reducible rfl
          rotate_left
          ·simp only [Act.put, Zj, Zk, Zm, i64_w, i32_w]
           rfl
          refine pure_ (i := 3) (N := some 108) (v := ?_) (a' := ?_) #[F, T, T, T, F, F, F, F, F, F, F, F, F, F] rfl rfl (any_of HT_.out (by kernel_rfl)) (fun _ _ _ h => h) (Or.inl ⟨by rfl, ?_⟩) ?_ ?_
          rotate_left
          ·intro w'
           go_simp
           with_reducible rfl
          rotate_left
          ·simp only [Act.put, Zj, Zk, Zm, i64_w, i32_w]
           rfl
          refine pure_ (i := 4) (N := some 109) (v := ?_) (a' := ?_) #[F, T, T, T, T, F, F, F, F, F, F, F, F, F] rfl rfl (any_of HT_.out (by kernel_rfl)) (fun _ _ _ h => h) (Or.inl ⟨by rfl, ?_⟩) ?_ ?_
          rotate_left
          ·intro w'
           go_simp
           with_reducible rfl
          rotate_left
          ·simp only [Act.put, Zj, Zk, Zm, i64_w, i32_w]
           rfl
          refine pure_ (i := 6) (N := some 111) (v := ?_) (a' := ?_) #[F, T, T, T, T, F, T, F, F, F, F, F, F, F] rfl rfl (any_of HT_.out (by kernel_rfl)) (fun _ _ _ h => h) (Or.inl ⟨by rfl, ?_⟩) ?_ ?_
          rotate_left
          ·intro w'
           go_simp
           with_reducible rfl
          rotate_left
          ·simp only [Act.put, Zj, Zk, Zm, i64_w, i32_w]
           rfl
          refine take_ (i := 0) (N := some 105) (v := ?_) (a' := ?_) #[T, T, T, T, T, F, T, F, F, F, F, F, F, F] rfl rfl (QbD HT_.out HW_.out (by kernel_rfl)) (fun _ _ _ h => h) (Or.inl ⟨by rfl, ?_⟩) hHeld ?_ ?_
          rotate_left
          ·rintro w' ⟨s0, s1, s2, s3, s4, s5, s6, s7, s8, s9, s10, s11, s12, s13, s14, s15⟩
           go_simp
           with_reducible rfl
          rotate_left
          ·simp only [Act.put, Zj, Zk, Zm, i64_w, i32_w]
           rfl
          refine take_ (i := 5) (N := some 110) (v := ?_) (a' := ?_) #[T, T, T, T, T, T, T, F, F, F, F, F, F, F] rfl rfl (QbD HT_.out HW_.out (by kernel_rfl)) (fun _ _ _ h => h) (Or.inl ⟨by rfl, ?_⟩) hHeld ?_ ?_
          rotate_left
          ·rintro w' ⟨s0, s1, s2, s3, s4, s5, s6, s7, s8, s9, s10, s11, s12, s13, s14, s15⟩
           go_simp
           with_reducible rfl
          rotate_left
          ·simp only [Act.put, Zj, Zk, Zm, i64_w, i32_w]
           rfl
          refine take_ (i := 7) (N := some 112) (v := ?_) (a' := ?_) #[T, T, T, T, T, T, T, T, F, F, F, F, F, F] rfl rfl (QbD HT_.out HW_.out (by kernel_rfl)) (fun _ _ _ h => h) (Or.inl ⟨by rfl, ?_⟩) hHeld ?_ ?_
          rotate_left
          ·rintro w' ⟨s0, s1, s2, s3, s4, s5, s6, s7, s8, s9, s10, s11, s12, s13, s14, s15⟩
           go_simp
           with_reducible rfl
          rotate_left
          ·simp only [Act.put, Zj, Zk, Zm, i64_w, i32_w]
           rfl
          refine one_ (i := 8) (N := some 113) #[T, T, T, T, T, T, T, T, T, F, F, F, F, F] rfl rfl (one_of HT_.out (by kernel_rfl)) (by decide) (fun K hK => ?_)
          refine goes_ Try.func42 (by kernel_rfl) rfl #[.agg #[.string t903, .int .i64 t904, .int .i64 t905, .int .i64 t906, .int .i64 t907, .int .i64 t908], .int .i64 ((rd_T46 t894 x10_2).f2), .slice A0_5 l0_5.length c0_5] (by rfl) rfl rfl (Zl) ?_
          with_reducible refine (Qa6.calls k2 t903 t904 t905 t906 t907 t908 ((rd_T46 t894 x10_2).f2) _ _ l0_5 t912 t913 _ ?side1 ?side2 A31.out).mono ?_
          (case side1 => exact Zv (Kd.C_below HR0_5.out HB.out))
          (case side2 => exact HC0_5.out)
          rintro e w45 ⟨rfl, hb⟩
          have HS12_ := (hb.cell (World.block_lt_of_cell? _ _ (hHeld.2.2.2.2.2.2.2.2.2.2.2.2.1))).trans (hHeld.2.2.2.2.2.2.2.2.2.2.2.2.1)
          have HS13_ := (hb.cell (World.block_lt_of_cell? _ _ (hHeld.2.2.2.2.2.2.2.2.2.2.2.2.2.1))).trans (hHeld.2.2.2.2.2.2.2.2.2.2.2.2.2.1)
          have HS14_ := (hb.cell (World.block_lt_of_cell? _ _ (hHeld.2.2.2.2.2.2.2.2.2.2.2.2.2.2.1))).trans (hHeld.2.2.2.2.2.2.2.2.2.2.2.2.2.2.1)
          have HS15_ := (hb.cell (World.block_lt_of_cell? _ _ (hHeld.2.2.2.2.2.2.2.2.2.2.2.2.2.2.2))).trans (hHeld.2.2.2.2.2.2.2.2.2.2.2.2.2.2.2)
          refine ⟨_, rfl, ?_⟩
          replace HO_3 := Aside0.mk (Kd.R_below (Zr HO_3.out) hb)
          replace HO_5 := Aside0.mk (Kd.R_below (Zr HO_5.out) hb)
          replace BK886 := Aside0.mk (Zi BK886.out hb)
          replace BK910 := Aside0.mk (Zi BK910.out hb)
          replace HB := Aside0.mk (Qan (Zc2 GE886.out GE910.out) hb)
          (try clear hb)
          (try clear hb2)
          (try clear hk)
          (try clear hi)
          refine hK.out _ _ ⟨(Qai BK910.out 0).trans rfl, (Qai BK910.out 1).trans rfl, (Qai BK910.out 2).trans rfl, (Qai BK910.out 3).trans rfl, (Qai BK910.out 4).trans rfl, (Qai BK910.out 5).trans rfl, (Qai BK886.out 0).trans rfl, (Qai BK886.out 1).trans rfl, (Qai BK886.out 2).trans rfl, (Qai BK886.out 3).trans rfl, (Qai BK886.out 4).trans rfl, (Qai BK886.out 5).trans rfl, HS12_, HS13_, HS14_, HS15_⟩ (fun hHeld => ?_)
          clear hK K
          refine norm_ (a' := ?_) ?_ ?_
          rotate_left
          ·show Act.put _ (some 113) _ = _
           simp only [Act.put, Zj, Zk, Zm, i64_w, i32_w]
           rfl
          refine pure_ (i := 9) (N := some 104) (v := ?_) (a' := ?_) #[T, T, T, T, T, T, T, T, T, T, F, F, F, F] rfl rfl (any_of HT_.out (by kernel_rfl)) (fun _ _ _ h => h) (Or.inl ⟨by rfl, ?_⟩) ?_ ?_
          rotate_left
          ·intro w'
           go_simp
           with_reducible rfl
          rotate_left
          ·simp only [Act.put, Zj, Zk, Zm, i64_w, i32_w]
           rfl
          refine pure_ (i := 10) (N := some 114) (v := ?_) (a' := ?_) #[T, T, T, T, T, T, T, T, T, T, T, F, F, F] rfl rfl (any_of HT_.out (by kernel_rfl)) (fun _ _ _ h => h) (Or.inl ⟨by rfl, ?_⟩) ?_ ?_
          rotate_left
          ·intro w'
           go_simp
           with_reducible rfl
          rotate_left
          ·simp only [Act.put, Zj, Zk, Zm, i64_w, i32_w]
           rfl
          refine pure_ (i := 11) (N := some 115) (v := ?_) (a' := ?_) #[T, T, T, T, T, T, T, T, T, T, T, T, F, F] rfl rfl (any_of HT_.out (by kernel_rfl)) (fun _ _ _ h => h) (Or.inl ⟨by rfl, ?_⟩) ?_ ?_
          rotate_left
          ·intro w'
           go_simp
           with_reducible rfl
          rotate_left
          ·simp only [Act.put, Zj, Zk, Zm, i64_w, i32_w]
           rfl
          refine pure_ (i := 12) (N := some 13) (v := ?_) (a' := ?_) #[T, T, T, T, T, T, T, T, T, T, T, T, T, F] rfl rfl (any_of HT_.out (by kernel_rfl)) (fun _ _ _ h => h) (Or.inl ⟨by rfl, ?_⟩) ?_ ?_
          rotate_left
          ·intro w'
           go_simp
           with_reducible rfl
          rotate_left
          ·simp only [Act.put, Zj, Zk, Zm, i64_w, i32_w]
           rfl
          refine pure_ (i := 13) (N := some 14) (v := ?_) (a' := ?_) #[T, T, T, T, T, T, T, T, T, T, T, T, T, T] rfl rfl (any_of HT_.out (by kernel_rfl)) (fun _ _ _ h => h) (Or.inl ⟨by rfl, ?_⟩) ?_ ?_
          rotate_left
          ·intro w'
           go_simp
           with_reducible rfl
          rotate_left
          ·simp only [Act.put, Zj, Zk, Zm, i64_w, i32_w]
           rfl
          refine done_ (Qb1 HT_.out (by kernel_rfl)) ?_
          have hnb46 := NB886_910.out
          have hnc46 := NB910_886.out
          obtain ⟨hcz47_0, hfz47_0⟩ := Zy (v := (.slice A0_0 l0_0.length c0_0)) BK886.out 0
          obtain ⟨hcz47_1, hfz47_1⟩ := Zy (v := (.string a0_1)) BK886.out 1
          obtain ⟨hcz47_2, hfz47_2⟩ := Zy (v := (.string a0_2)) BK886.out 2
          obtain ⟨hcz47_3, hfz47_3⟩ := Zy (v := (.int .i64 a0_3)) BK886.out 3
          obtain ⟨hcz47_4, hfz47_4⟩ := Zy (v := (.slice A0_4 l0_4.length c0_4)) BK886.out 4
          obtain ⟨hcz47_5, hfz47_5⟩ := Zy (v := (.slice A0_5 l0_5.length c0_5)) BK886.out 5
          obtain ⟨hcz48_0, hfz48_0⟩ := Zy (v := (.string t903)) BK910.out 0
          obtain ⟨hcz48_1, hfz48_1⟩ := Zy (v := (.int .i64 t904)) BK910.out 1
          obtain ⟨hcz48_2, hfz48_2⟩ := Zy (v := (.int .i64 t905)) BK910.out 2
          obtain ⟨hcz48_3, hfz48_3⟩ := Zy (v := (.int .i64 t906)) BK910.out 3
          obtain ⟨hcz48_4, hfz48_4⟩ := Zy (v := (.int .i64 t907)) BK910.out 4
          obtain ⟨hcz48_5, hfz48_5⟩ := Zy (v := (.int .i64 t908)) BK910.out 5
          go_upto_region 17 with (fail)
          by_cases c49 : (rd t889 x10_2) < 0
          ·rw [if_pos c49] at H
           have c49b0 : decide ((rd t889 x10_2) < 0) = T := decide_eq_true c49
           clear c49
           (try simp only [c49b0])
           obtain rfl := Option.some.inj H
           have p914 : 0 ≤ (x10_2 : Int) := Ze
           have q914 : x10_2 < (t889.length : Int) := Ze
           obtain ⟨ad914, e914, hx914_0⟩ := Kd.at_int (Kd.R_reads' HO_3.out).2.2 x10_2 p914 q914
           cases e914
           replace p914 := eq_true p914
           replace q914 := eq_true q914
           go_wp2
           go_ret
           exact ⟨Zq, Zc2 GE886.out GE910.out⟩
          rw [if_neg c49] at H
          have c49b0 : decide ((rd t889 x10_2) < 0) = F := decide_eq_false c49
          clear c49
          (try simp only [c49b0])
          by_cases c50 : (rd t889 x10_2) > (wrap64 ((wrap64 ((wrap64 (Int.tdiv a0_3 1000)) * t908)) + (wrap64 (Int.tdiv (wrap64 ((Int.tmod a0_3 1000) * t908)) 1000))))
          ·rw [if_pos c50] at H
           have c50b0 : decide ((wrap64 ((wrap64 ((wrap64 (Int.tdiv a0_3 1000)) * t908)) + (wrap64 (Int.tdiv (wrap64 ((Int.tmod a0_3 1000) * t908)) 1000)))) < (rd t889 x10_2)) = T := decide_eq_true c50
           clear c50
           obtain rfl := Option.some.inj H
           have p914 : 0 ≤ (x10_2 : Int) := Ze
           have q914 : x10_2 < (t889.length : Int) := Ze
           obtain ⟨ad914, e914, hx914_0⟩ := Kd.at_int (Kd.R_reads' HO_3.out).2.2 x10_2 p914 q914
           cases e914
           replace p914 := eq_true p914
           replace q914 := eq_true q914
           have p915 : 0 ≤ (x10_2 : Int) := Ze
           have q915 : x10_2 < (t889.length : Int) := Ze
           obtain ⟨ad915, e915, hx915_0⟩ := Kd.at_int (Kd.R_reads' HO_3.out).2.2 x10_2 p915 q915
           obtain rfl : ad914 = ad915 := (by injection e915)
           replace p915 := eq_true p915
           replace q915 := eq_true q915
           go_wp2
           go_ret
           exact ⟨Zq, Zc2 GE886.out GE910.out⟩
          rw [if_neg c50] at H
          have c50b0 : decide ((wrap64 ((wrap64 ((wrap64 (Int.tdiv a0_3 1000)) * t908)) + (wrap64 (Int.tdiv (wrap64 ((Int.tmod a0_3 1000) * t908)) 1000)))) < (rd t889 x10_2)) = F := decide_eq_false c50
          clear c50
          by_cases c51 : (rd t889 x10_2) > t912
          ·rw [if_pos c51] at H
           have c51b0 : decide (t912 < (rd t889 x10_2)) = T := decide_eq_true c51
           clear c51
           obtain rfl := Option.some.inj H
           have p914 : 0 ≤ (x10_2 : Int) := Ze
           have q914 : x10_2 < (t889.length : Int) := Ze
           obtain ⟨ad914, e914, hx914_0⟩ := Kd.at_int (Kd.R_reads' HO_3.out).2.2 x10_2 p914 q914
           cases e914
           replace p914 := eq_true p914
           replace q914 := eq_true q914
           have p915 : 0 ≤ (x10_2 : Int) := Ze
           have q915 : x10_2 < (t889.length : Int) := Ze
           obtain ⟨ad915, e915, hx915_0⟩ := Kd.at_int (Kd.R_reads' HO_3.out).2.2 x10_2 p915 q915
           obtain rfl : ad914 = ad915 := (by injection e915)
           replace p915 := eq_true p915
           replace q915 := eq_true q915
           have p916 : 0 ≤ (x10_2 : Int) := Ze
           have q916 : x10_2 < (t889.length : Int) := Ze
           obtain ⟨ad916, e916, hx916_0⟩ := Kd.at_int (Kd.R_reads' HO_3.out).2.2 x10_2 p916 q916
           obtain rfl : ad914 = ad916 := (by injection e916)
           replace p916 := eq_true p916
           replace q916 := eq_true q916
           go_wp2
           go_ret
           exact ⟨Zq, Zc2 GE886.out GE910.out⟩
          rw [if_neg c51] at H
          have c51b0 : decide (t912 < (rd t889 x10_2)) = F := decide_eq_false c51
          clear c51
          by_cases c52 : (rd t889 x10_2) < (wrap64 ((wrap64 ((wrap64 (Int.tdiv a0_3 1000)) * t908)) + (wrap64 (Int.tdiv (wrap64 ((Int.tmod a0_3 1000) * t908)) 1000))))
          ·rw [if_pos c52] at H
           have c52b0 : decide ((rd t889 x10_2) < (wrap64 ((wrap64 ((wrap64 (Int.tdiv a0_3 1000)) * t908)) + (wrap64 (Int.tdiv (wrap64 ((Int.tmod a0_3 1000) * t908)) 1000))))) = T := decide_eq_true c52
           clear c52
           have p914 : 0 ≤ (x10_2 : Int) := Ze
           have q914 : x10_2 < (t889.length : Int) := Ze
           obtain ⟨ad914, e914, hx914_0⟩ := Kd.at_int (Kd.R_reads' HO_3.out).2.2 x10_2 p914 q914
           cases e914
           replace p914 := eq_true p914
           replace q914 := eq_true q914
           have p915 : 0 ≤ (x10_2 : Int) := Ze
           have q915 : x10_2 < (t889.length : Int) := Ze
           obtain ⟨ad915, e915, hx915_0⟩ := Kd.at_int (Kd.R_reads' HO_3.out).2.2 x10_2 p915 q915
           obtain rfl : ad914 = ad915 := (by injection e915)
           replace p915 := eq_true p915
           replace q915 := eq_true q915
           have p916 : 0 ≤ (x10_2 : Int) := Ze
           have q916 : x10_2 < (t889.length : Int) := Ze
           obtain ⟨ad916, e916, hx916_0⟩ := Kd.at_int (Kd.R_reads' HO_3.out).2.2 x10_2 p916 q916
           obtain rfl : ad914 = ad916 := (by injection e916)
           replace p916 := eq_true p916
           replace q916 := eq_true q916
           have p917 : 0 ≤ (x10_2 : Int) := Ze
           have q917 : x10_2 < (t889.length : Int) := Ze
           obtain ⟨ad917, e917, hx917_0⟩ := Kd.at_int (Kd.R_reads' HO_3.out).2.2 x10_2 p917 q917
           obtain rfl : ad914 = ad917 := (by injection e917)
           replace p917 := eq_true p917
           replace q917 := eq_true q917
           have p918 : 0 ≤ (x10_2 : Int) := Ze
           have q918 : x10_2 < (t889.length : Int) := Ze
           obtain ⟨ad918, e918, hx918_0⟩ := Kd.at_int (Kd.R_reads' HO_3.out).2.2 x10_2 p918 q918
           obtain rfl : ad914 = ad918 := (by injection e918)
           replace p918 := eq_true p918
           replace q918 := eq_true q918
           go_upto_if 166 with (fail)
           by_cases c53 : (rd t889 x10_2) < t912
           ·rw [if_pos c53] at H
            have c53b0 : decide ((rd t889 x10_2) < t912) = T := decide_eq_true c53
            clear c53
            (try simp only [c53b0])
            obtain rfl := Option.some.inj H
            go_wp2
            go_ret
            exact ⟨Zq, Zc2 GE886.out GE910.out⟩
           rw [if_neg c53] at H
           have c53b0 : decide ((rd t889 x10_2) < t912) = F := decide_eq_false c53
           clear c53
           (try simp only [c53b0])
           have H' := Aside0.mk H
           clear H
           go_wp2
           go_roundg k2
           case measure => have := HJ13.out; have := HK2.out; omega
           case rel => exact ⟨(wrap64 (x10_2 + 1)), (Zs), H', ⟨by have := HJ13.out; have := HK2.out; omega⟩, ⟨Zr HO_3.out⟩, ⟨Zr HO_5.out⟩, ⟨Zu BK886.out⟩, ⟨Zc2 GE886.out GE910.out⟩⟩
          rw [if_neg c52] at H
          have c52b0 : decide ((rd t889 x10_2) < (wrap64 ((wrap64 ((wrap64 (Int.tdiv a0_3 1000)) * t908)) + (wrap64 (Int.tdiv (wrap64 ((Int.tmod a0_3 1000) * t908)) 1000))))) = F := decide_eq_false c52
          clear c52
          have H' := Aside0.mk H
          clear H
          have p914 : 0 ≤ (x10_2 : Int) := Ze
          have q914 : x10_2 < (t889.length : Int) := Ze
          obtain ⟨ad914, e914, hx914_0⟩ := Kd.at_int (Kd.R_reads' HO_3.out).2.2 x10_2 p914 q914
          cases e914
          replace p914 := eq_true p914
          replace q914 := eq_true q914
          have p915 : 0 ≤ (x10_2 : Int) := Ze
          have q915 : x10_2 < (t889.length : Int) := Ze
          obtain ⟨ad915, e915, hx915_0⟩ := Kd.at_int (Kd.R_reads' HO_3.out).2.2 x10_2 p915 q915
          obtain rfl : ad914 = ad915 := (by injection e915)
          replace p915 := eq_true p915
          replace q915 := eq_true q915
          have p916 : 0 ≤ (x10_2 : Int) := Ze
          have q916 : x10_2 < (t889.length : Int) := Ze
          obtain ⟨ad916, e916, hx916_0⟩ := Kd.at_int (Kd.R_reads' HO_3.out).2.2 x10_2 p916 q916
          obtain rfl : ad914 = ad916 := (by injection e916)
          replace p916 := eq_true p916
          replace q916 := eq_true q916
          have p917 : 0 ≤ (x10_2 : Int) := Ze
          have q917 : x10_2 < (t889.length : Int) := Ze
          obtain ⟨ad917, e917, hx917_0⟩ := Kd.at_int (Kd.R_reads' HO_3.out).2.2 x10_2 p917 q917
          obtain rfl : ad914 = ad917 := (by injection e917)
          replace p917 := eq_true p917
          replace q917 := eq_true q917
          go_wp2
          go_roundg k2
          case measure => have := HJ13.out; have := HK2.out; omega
          case rel => exact ⟨(wrap64 (x10_2 + 1)), (Zs), H', ⟨by have := HJ13.out; have := HK2.out; omega⟩, ⟨Zr HO_3.out⟩, ⟨Zr HO_5.out⟩, ⟨Zu BK886.out⟩, ⟨Zc2 GE886.out GE910.out⟩⟩
         rw [if_neg c29] at H
         exact absurd H (by simp)
        rw [if_neg c28] at H
        exact absurd H (by simp)
       rw [if_neg c27] at H
       have c27b0 : decide (x10_2 < (t889.length : Int)) = F := decide_eq_false c27
       clear c27
       (try simp only [c27b0])
       replace H := Option.bind_eq_some_iff.mp H
       obtain ⟨t901, A540, H⟩ := H
       replace H : (some t901) = some r := H
       have A54 := Aside0.mk A540
       clear A540
       obtain rfl := Option.some.inj H
       go_wp2_with (first | ((with_reducible refine Qay (f := 27) rfl ?_); refine goesL_ (some 167) rfl rfl Try.func27 (by kernel_rfl) rfl #[] rfl (Zl) ?_; (with_reducible refine (Qa3.calls k2  t901 _ A54.out).mono ?_); rintro e w55 ⟨rfl, hb⟩; refine ⟨_, rfl, ?_⟩; replace HO_3 := Aside0.mk (Kd.R_below (Zr HO_3.out) hb); replace HO_5 := Aside0.mk (Kd.R_below (Zr HO_5.out) hb); replace BK886 := Aside0.mk (Zi BK886.out hb); replace HB := Aside0.mk (Qan (Zc1 GE886.out) hb); (try clear hb); (try clear hb2); (try clear hk); (try clear hi)))
       go_ret
       exact ⟨Zq, Zc1 GE886.out⟩
  rw [if_neg c10] at H
  have c10b0 : (t892 == 0) = F := beq_eq_false_iff_ne.mpr c10
  have c10b1 : (t892 != 0) = T := bne_iff_ne.mpr c10
  (try simp only [c10b0, c10b1])
  by_cases c56 : (t889.length : Int) = 0
  ·rw [if_pos c56] at H
   have c56b0 : ((t889.length : Int) == 0) = T := beq_iff_eq.mpr c56
   have c56b1 : ((t889.length : Int) != 0) = F := bne_eq_false_iff_eq.mpr c56
   clear c56
   replace H := Option.bind_eq_some_iff.mp H
   obtain ⟨t893, A570, H⟩ := H
   replace H : (some t893) = some r := H
   have A57 := Aside0.mk A570
   clear A570
   obtain rfl := Option.some.inj H
   obtain ⟨Ao58, co58, eo58⟩ := Kd.R_slice HO891.out
   subst eo58
   go_wp2_with (first | (go_at_call 27; (with_reducible refine (Qa3.calls k  t893 _ A57.out).mono ?_); rintro e w59 ⟨rfl, hb⟩; replace HO891 := Aside0.mk (Kd.R_below (Zr HO891.out) hb); replace BK886 := Aside0.mk (Zi BK886.out hb); replace HB := Aside0.mk (Qan (Zc1 GE886.out) hb); (try clear hb); (try clear hb2); (try clear hk); (try clear hi)))
   go_ret
   exact ⟨Zq, Zc1 GE886.out⟩
  rw [if_neg c56] at H
  have c56b0 : ((t889.length : Int) == 0) = F := beq_eq_false_iff_ne.mpr c56
  have c56b1 : ((t889.length : Int) != 0) = T := bne_iff_ne.mpr c56
  have c56b2 : ¬ (t889 = []) := fun h_ => c56 (by rw [h_]; rfl)
  obtain rfl := Option.some.inj H
  obtain ⟨Ao60, co60, eo60⟩ := Kd.R_slice HO891.out
  subst eo60
  go_wp2
  go_ret
  exact ⟨Zq, Zc1 GE886.out⟩
 replace c6 := Bool.eq_false_iff.mpr c6
 subst c6
 have H1 : ((Qa3.f k).bind fun t888 => (some t888)) = some r := by rw [if_neg (show ¬ (F = T) by decide)] at H; exact H
 clear H
 have H := H1
 clear H1
 replace H := Option.bind_eq_some_iff.mp H
 obtain ⟨t888, A610, H⟩ := H
 replace H : (some t888) = some r := H
 have A61 := Aside0.mk A610
 clear A610
 obtain rfl := Option.some.inj H
 go_wp2_with (first | ((with_reducible refine Qay (f := 27) rfl ?_); refine goesL_ (some 19) rfl rfl Try.func27 (by kernel_rfl) rfl #[] rfl (Zl) ?_; (with_reducible refine (Qa3.calls k  t888 _ A61.out).mono ?_); rintro e w62 ⟨rfl, hb⟩; refine ⟨_, rfl, ?_⟩; replace BK886 := Aside0.mk (Zi BK886.out hb); replace HB := Aside0.mk (Qan (Zc1 GE886.out) hb); (try clear hb); (try clear hb2); (try clear hk); (try clear hi)))
 go_ret
 exact ⟨Zq, Zc1 GE886.out⟩
end Go.Proofs.Ytfcaaefdmabkhaa.Pr
