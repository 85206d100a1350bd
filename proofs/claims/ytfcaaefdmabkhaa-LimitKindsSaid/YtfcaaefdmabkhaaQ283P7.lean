/- Functions' values and contracts, as the print wrote them. -/
import Derived.Test.YtfcaaefdmabkhaaQ283P0
import Derived.Test.YtfcaaefdmabkhaaQ283P3
import Derived.Test.YtfcaaefdmabkhaaQ283P6
import Derived.Test.YtfcaaefdmabkhaaQ283P1
import Derived.Test.YtfcaaefdmabkhaaQ283P5
import Derived.Test.YtfcaaefdmabkhaaQ283P2
namespace Go.Proofs.Ytfcaaefdmabkhaa.Pr
open Bool renaming true → T
open Bool renaming false → F
open Go.RowKit Go.Proofs.YtfcaaefdmabkhaaW.PrintWords Go.Proofs.YtfcaaefdmabkhaaW.PrintLast Go.Proofs.YtfcaaefdmabkhaaW.PrintMore
attribute [local go_sem] QaS QaU Qa2 Qa3 QaK QaL QaT QaV   -- for this text's walks alone
set_option linter.unusedVariables false
set_option linter.unusedSimpArgs false
set_option maxRecDepth 100000
def QaZ.l0 : Nat → Int → Int → List (S46) → ByteArray → ByteArray → ByteArray → Int → List (S84) → List (S98) → Option (Int × Int)
 | 0, _, _, _, _, _, _, _, _, _ => none
 | k + 1, x305, x306, x654000, x655000, x655001, x656000, x657000, x658000, x659000 => if x305 < x306 then (if (wrap64 ((IntKind.u64.wrap (wrap64 (x305 + x306))) / 2)) > 0 then ((Qbc.f k x654000 x655000 x655001 x656000 (wrap64 ((IntKind.u64.wrap (wrap64 (x305 + x306))) / 2))).bind fun bt671 => (if bt671.2 = 0 then ((Qbo.f k bt671.1 x655000 x655001 x657000 x658000 x659000).bind fun bt675 => (if bt675.2 = 0 then (if bt675.1 ≥ x657000 then (QaZ.l0 k (wrap64 ((wrap64 ((IntKind.u64.wrap (wrap64 (x305 + x306))) / 2)) + 1)) x306 x654000 x655000 x655001 x656000 x657000 x658000 x659000) else (QaZ.l0 k x305 (wrap64 ((IntKind.u64.wrap (wrap64 (x305 + x306))) / 2)) x654000 x655000 x655001 x656000 x657000 x658000 x659000)) else (QaZ.l0 k x305 (wrap64 ((IntKind.u64.wrap (wrap64 (x305 + x306))) / 2)) x654000 x655000 x655001 x656000 x657000 x658000 x659000))) else (QaZ.l0 k x305 (wrap64 ((IntKind.u64.wrap (wrap64 (x305 + x306))) / 2)) x654000 x655000 x655001 x656000 x657000 x658000 x659000))) else ((Qbo.f k x654000 x655000 x655001 x657000 x658000 x659000).bind fun bt677 => (if bt677.2 = 0 then (if bt677.1 ≥ x657000 then (QaZ.l0 k (wrap64 ((wrap64 ((IntKind.u64.wrap (wrap64 (x305 + x306))) / 2)) + 1)) x306 x654000 x655000 x655001 x656000 x657000 x658000 x659000) else (QaZ.l0 k x305 (wrap64 ((IntKind.u64.wrap (wrap64 (x305 + x306))) / 2)) x654000 x655000 x655001 x656000 x657000 x658000 x659000)) else (QaZ.l0 k x305 (wrap64 ((IntKind.u64.wrap (wrap64 (x305 + x306))) / 2)) x654000 x655000 x655001 x656000 x657000 x658000 x659000)))) else (some (mx (wrap64 (x305 - 1)) 0, 0))
def QaZ.f (k : Nat) (l0 : List (S46)) (a1_0 : ByteArray) (a1_1 : ByteArray) (a2 : ByteArray) (a3 : Int) (l4 : List (S84)) (l5 : List (S98)) : Option (Int × Int) := (Qbo.f k l0 a1_0 a1_1 a3 l4 l5).bind fun bt659 => (if bt659.2 = 0 then ((Qbe.f k l4 a2).bind fun bt661 => (if bt661.2.2.2.2.2.2 = T then ((Qbn.f k l0 a1_0 a1_1 a2).bind fun t670 => (QaZ.l0 k 0 (wrap64 (t670 + 1)) l0 a1_0 a1_1 a2 a3 l4 l5)) else (some (0, 11)))) else (some (0, bt659.2)))
theorem QaZ.mono_l : ∀ k, (∀ y0 y1 y2 y3 y4 y5 y6 y7 y8, LeO (QaZ.l0 k y0 y1 y2 y3 y4 y5 y6 y7 y8) (QaZ.l0 (k + 1) y0 y1 y2 y3 y4 y5 y6 y7 y8))
 | 0 => fun _ _ _ _ _ _ _ _ _ r h => by simp [QaZ.l0] at h
 | k + 1 => by
  have ih0 := QaZ.mono_l k
  intro y0 y1 y2 y3 y4 y5 y6 y7 y8
  unfold QaZ.l0
  exact ZM5 ih0 Qbe.mono Qbo.mono Qbn.mono Qbc.mono
theorem QaZ.mono : ∀ a0 a1 a2 a3 a4 a5 a6 k, LeO (QaZ.f k a0 a1 a2 a3 a4 a5 a6) (QaZ.f (k + 1) a0 a1 a2 a3 a4 a5 a6) := by
 intro a0 a1 a2 a3 a4 a5 a6 k
 have ih0 := QaZ.mono_l k
 unfold QaZ.f
 exact ZM5 ih0 Qbe.mono Qbo.mono Qbn.mono Qbc.mono
set_option maxHeartbeats 8000000 in
theorem QaZ.calls (k : Nat) (A0 : Option Addr) (c0 : Nat) (l0 : List (S46)) (a1_0 : ByteArray) (a1_1 : ByteArray) (a2 : ByteArray) (a3 : Int) (A4 : Option Addr) (c4 : Nat) (l4 : List (S84)) (A5 : Option Addr) (c5 : Nat) (l5 : List (S98)) (r1 : Int) (r2 : Int) (w : World) (hr0 : Kd.C k46 w A0 l0.length l0) (hc0 : l0.length ≤ c0) (hr4 : Kd.C k84 w A4 l4.length l4) (hc4 : l4.length ≤ c4) (hr5 : Kd.C k98 w A5 l5.length l5) (hc5 : l5.length ≤ c5) (h : QaZ.f k l0 a1_0 a1_1 a2 a3 l4 l5 = some (r1, r2)) :
  Calls Try.prog 33 #[.slice A0 l0.length c0, .agg #[.string a1_0, .string a1_1], .string a2, .int .i64 a3, .slice A4 l4.length c4, .slice A5 l5.length c5] w fun e w' => e = .returned (.tuple #[.int .i64 r1, .int .i64 r2]) ∧ Below w.heap.size w w' := by
 have hu44 := Try.underlying44
 have hu84 := Try.underlying84
 have HR0 := Aside0.mk hr0
 have HC0 := Aside0.mk hc0
 clear hr0 hc0
 have HR4 := Aside0.mk hr4
 have HC4 := Aside0.mk hc4
 clear hr4 hc4
 have HR5 := Aside0.mk hr5
 have HC5 := Aside0.mk hc5
 clear hr5 hc5
 have HB := Aside0.mk (Below.refl w.heap.size w)
 have H : ((Qbo.f k l0 a1_0 a1_1 a3 l4 l5).bind fun bt659 => (if bt659.2 = 0 then ((Qbe.f k l4 a2).bind fun bt661 => (if bt661.2.2.2.2.2.2 = T then ((Qbn.f k l0 a1_0 a1_1 a2).bind fun t670 => (QaZ.l0 k 0 (wrap64 (t670 + 1)) l0 a1_0 a1_1 a2 a3 l4 l5)) else (some (0, 11)))) else (some (0, bt659.2)))) = some (r1, r2) := h
 clear h
 replace H := Option.bind_eq_some_iff.mp H
 obtain ⟨⟨t659, t660⟩, A70, H⟩ := H
 replace H : (if t660 = 0 then ((Qbe.f k l4 a2).bind fun bt661 => (if bt661.2.2.2.2.2.2 = T then ((Qbn.f k l0 a1_0 a1_1 a2).bind fun t670 => (QaZ.l0 k 0 (wrap64 (t670 + 1)) l0 a1_0 a1_1 a2 a3 l4 l5)) else (some (0, 11)))) else (some (0, t660))) = some (r1, r2) := H
 have A7 := Aside0.mk A70
 clear A70
 go_enter Try.func33, Try.ntmps33
 go_upto_if 29 with (first | ((with_reducible refine QaJ (N := 6) rfl ?_); (refine gate_n (n := 51) rfl ?_); refine Zbx (N := 6) (cs := #[.slice A0 l0.length c0]) (t := 30) ?_; intro gb653 hg w8 hbox hb; have BK653 := Aside0.mk (hbox); have GW653 := Aside0.mk (Zt w hg (Zb)); have GE653 := GW653; replace HB := Aside0.mk (Qao (Zb) hb); clear hb hbox hg) | ((with_reducible refine QaJ (N := 7) rfl ?_); (refine gate_n (n := 51) rfl ?_); refine Zbx (N := 7) (cs := #[.string a1_0, .string a1_1]) (t := 44) ?_; intro gb654 hg w9 hbox hb; have BK654 := Aside0.mk (hbox); have GW654 := Aside0.mk (Zt w hg (Zc1 GE653.out)); have GE654 := GW654; have NB653_654 := Aside0.mk (Zn hg BK653.out); have NB654_653 := Aside0.mk NB653_654.out.symm; replace BK653 := Aside0.mk (Zi BK653.out hb); replace HB := Aside0.mk (Qao (Zc1 GE653.out) hb); clear hb hbox hg) | ((with_reducible refine QaJ (N := 8) rfl ?_); (refine gate_n (n := 51) rfl ?_); refine Zbx (N := 8) (cs := #[.string a2]) (t := 9) ?_; intro gb655 hg w10 hbox hb; have BK655 := Aside0.mk (hbox); have GW655 := Aside0.mk (Zt w hg (Zc2 GE653.out GE654.out)); have GE655 := GW655; have NB653_655 := Aside0.mk (Zn hg BK653.out); have NB655_653 := Aside0.mk NB653_655.out.symm; have NB654_655 := Aside0.mk (Zn hg BK654.out); have NB655_654 := Aside0.mk NB654_655.out.symm; replace BK653 := Aside0.mk (Zi BK653.out hb); replace BK654 := Aside0.mk (Zi BK654.out hb); replace HB := Aside0.mk (Qao (Zc2 GE653.out GE654.out) hb); clear hb hbox hg) | ((with_reducible refine QaJ (N := 9) rfl ?_); (refine gate_n (n := 51) rfl ?_); refine Zbx (N := 9) (cs := #[.int .i64 a3]) (t := 3) ?_; intro gb656 hg w11 hbox hb; have BK656 := Aside0.mk (hbox); have GW656 := Aside0.mk (Zt w hg (Zc3 GE653.out GE654.out GE655.out)); have GE656 := GW656; have NB653_656 := Aside0.mk (Zn hg BK653.out); have NB656_653 := Aside0.mk NB653_656.out.symm; have NB654_656 := Aside0.mk (Zn hg BK654.out); have NB656_654 := Aside0.mk NB654_656.out.symm; have NB655_656 := Aside0.mk (Zn hg BK655.out); have NB656_655 := Aside0.mk NB655_656.out.symm; replace BK653 := Aside0.mk (Zi BK653.out hb); replace BK654 := Aside0.mk (Zi BK654.out hb); replace BK655 := Aside0.mk (Zi BK655.out hb); replace HB := Aside0.mk (Qao (Zc3 GE653.out GE654.out GE655.out) hb); clear hb hbox hg) | ((with_reducible refine QaJ (N := 10) rfl ?_); (refine gate_n (n := 51) rfl ?_); refine Zbx (N := 10) (cs := #[.slice A4 l4.length c4]) (t := 31) ?_; intro gb657 hg w12 hbox hb; have BK657 := Aside0.mk (hbox); have GW657 := Aside0.mk (Zt w hg (Zc4 GE653.out GE654.out GE655.out GE656.out)); have GE657 := GW657; have NB653_657 := Aside0.mk (Zn hg BK653.out); have NB657_653 := Aside0.mk NB653_657.out.symm; have NB654_657 := Aside0.mk (Zn hg BK654.out); have NB657_654 := Aside0.mk NB654_657.out.symm; have NB655_657 := Aside0.mk (Zn hg BK655.out); have NB657_655 := Aside0.mk NB655_657.out.symm; have NB656_657 := Aside0.mk (Zn hg BK656.out); have NB657_656 := Aside0.mk NB656_657.out.symm; replace BK653 := Aside0.mk (Zi BK653.out hb); replace BK654 := Aside0.mk (Zi BK654.out hb); replace BK655 := Aside0.mk (Zi BK655.out hb); replace BK656 := Aside0.mk (Zi BK656.out hb); replace HB := Aside0.mk (Qao (Zc4 GE653.out GE654.out GE655.out GE656.out) hb); clear hb hbox hg) | ((with_reducible refine QaJ (N := 11) rfl ?_); (refine gate_n (n := 51) rfl ?_); refine Zbx (N := 11) (cs := #[.slice A5 l5.length c5]) (t := 32) ?_; intro gb658 hg w13 hbox hb; have BK658 := Aside0.mk (hbox); have GW658 := Aside0.mk (Zt w hg (Zc5 GE653.out GE654.out GE655.out GE656.out GE657.out)); have GE658 := GW658; have NB653_658 := Aside0.mk (Zn hg BK653.out); have NB658_653 := Aside0.mk NB653_658.out.symm; have NB654_658 := Aside0.mk (Zn hg BK654.out); have NB658_654 := Aside0.mk NB654_658.out.symm; have NB655_658 := Aside0.mk (Zn hg BK655.out); have NB658_655 := Aside0.mk NB655_658.out.symm; have NB656_658 := Aside0.mk (Zn hg BK656.out); have NB658_656 := Aside0.mk NB656_658.out.symm; have NB657_658 := Aside0.mk (Zn hg BK657.out); have NB658_657 := Aside0.mk NB657_658.out.symm; replace BK653 := Aside0.mk (Zi BK653.out hb); replace BK654 := Aside0.mk (Zi BK654.out hb); replace BK655 := Aside0.mk (Zi BK655.out hb); replace BK656 := Aside0.mk (Zi BK656.out hb); replace BK657 := Aside0.mk (Zi BK657.out hb); replace HB := Aside0.mk (Qao (Zc5 GE653.out GE654.out GE655.out GE656.out GE657.out) hb); clear hb hbox hg; have hnb14 := NB653_654.out; have hnc14 := NB654_653.out; have hnb15 := NB653_655.out; have hnc15 := NB655_653.out; have hnb16 := NB653_656.out; have hnc16 := NB656_653.out; have hnb17 := NB653_657.out; have hnc17 := NB657_653.out; have hnb18 := NB653_658.out; have hnc18 := NB658_653.out; obtain ⟨hcz19_0, hfz19_0⟩ := Zy (v := (.slice A0 l0.length c0)) BK653.out 0; have hnb20 := NB654_655.out; have hnc20 := NB655_654.out; have hnb21 := NB654_656.out; have hnc21 := NB656_654.out; have hnb22 := NB654_657.out; have hnc22 := NB657_654.out; have hnb23 := NB654_658.out; have hnc23 := NB658_654.out; obtain ⟨hcz24_0, hfz24_0⟩ := Zy (v := (.string a1_0)) BK654.out 0; obtain ⟨hcz24_1, hfz24_1⟩ := Zy (v := (.string a1_1)) BK654.out 1; have hnb25 := NB656_655.out; have hnc25 := NB655_656.out; have hnb26 := NB656_657.out; have hnc26 := NB657_656.out; have hnb27 := NB656_658.out; have hnc27 := NB658_656.out; obtain ⟨hcz28_0, hfz28_0⟩ := Zy (v := (.int .i64 a3)) BK656.out 0; have hnb29 := NB657_655.out; have hnc29 := NB655_657.out; have hnb30 := NB657_658.out; have hnc30 := NB658_657.out; obtain ⟨hcz31_0, hfz31_0⟩ := Zy (v := (.slice A4 l4.length c4)) BK657.out 0; have hnb32 := NB658_655.out; have hnc32 := NB655_658.out; obtain ⟨hcz33_0, hfz33_0⟩ := Zy (v := (.slice A5 l5.length c5)) BK658.out 0) | ((with_reducible refine Qax (f := 30) rfl ?_); refine goesL_ (some 25) rfl rfl Try.func30 (by kernel_rfl) rfl #[.slice A0 l0.length c0, .agg #[.string a1_0, .string a1_1], .int .i64 a3, .slice A4 l4.length c4, .slice A5 l5.length c5] rfl (Zl) ?_; (with_reducible refine (Qbo.calls k _ _ l0 a1_0 a1_1 a3 _ _ l4 _ _ l5 t659 t660 _ ?side1 ?side2 ?side3 ?side4 ?side5 ?side6 A7.out).mono ?_); (case side1 => exact Zv (Kd.C_below HR0.out HB.out)); (case side2 => exact HC0.out); (case side3 => exact Zv (Kd.C_below HR4.out HB.out)); (case side4 => exact HC4.out); (case side5 => exact Zv (Kd.C_below HR5.out HB.out)); (case side6 => exact HC5.out); rintro e w34 ⟨rfl, hb⟩; refine ⟨_, rfl, ?_⟩; replace BK653 := Aside0.mk (Zi BK653.out hb); replace BK654 := Aside0.mk (Zi BK654.out hb); replace BK655 := Aside0.mk (Zi BK655.out hb); replace BK656 := Aside0.mk (Zi BK656.out hb); replace BK657 := Aside0.mk (Zi BK657.out hb); replace BK658 := Aside0.mk (Zi BK658.out hb); replace HB := Aside0.mk (Qao (Zc6 GE653.out GE654.out GE655.out GE656.out GE657.out GE658.out) hb); (try clear hb); (try clear hb2); (try clear hk); (try clear hi)))
 (try simp only [Act.put, Zj, Zk, Zm])
 by_cases c35 : t660 = 0
 ·rw [if_pos c35] at H
  have c35b0 : (t660 == 0) = T := beq_iff_eq.mpr c35
  have c35b1 : (t660 != 0) = F := bne_eq_false_iff_eq.mpr c35
  clear c35
  (try simp only [c35b0, c35b1])
  replace H := Option.bind_eq_some_iff.mp H
  obtain ⟨⟨t661, t662, t663, t664, t665, t666, t667⟩, A360, H⟩ := H
  replace H : (if t667 = T then ((Qbn.f k l0 a1_0 a1_1 a2).bind fun t670 => (QaZ.l0 k 0 (wrap64 (t670 + 1)) l0 a1_0 a1_1 a2 a3 l4 l5)) else (some (0, 11))) = some (r1, r2) := H
  have A36 := Aside0.mk A360
  clear A360
  have hnb37 := NB657_653.out
  have hnc37 := NB653_657.out
  have hnb38 := NB657_654.out
  have hnc38 := NB654_657.out
  have hnb39 := NB657_655.out
  have hnc39 := NB655_657.out
  have hnb40 := NB657_656.out
  have hnc40 := NB656_657.out
  have hnb41 := NB657_658.out
  have hnc41 := NB658_657.out
  obtain ⟨hcz42_0, hfz42_0⟩ := Zy (v := (.slice A4 l4.length c4)) BK657.out 0
  have hnb43 := NB655_653.out
  have hnc43 := NB653_655.out
  have hnb44 := NB655_654.out
  have hnc44 := NB654_655.out
  have hnb45 := NB655_656.out
  have hnc45 := NB656_655.out
  have hnb46 := NB655_658.out
  have hnc46 := NB658_655.out
  obtain ⟨hcz47_0, hfz47_0⟩ := Zy (v := (.string a2)) BK655.out 0
  go_upto_if 38 with (first | ((with_reducible refine Qax (f := 48) rfl ?_); refine goesL_ (some 34) rfl rfl Try.func48 (by kernel_rfl) rfl #[.slice A4 l4.length c4, .string a2] rfl (Zl) ?_; (with_reducible refine (Qbe.calls k _ _ l4 a2 t661 t662 t663 t664 t665 t666 t667 _ ?side1 ?side2 A36.out).mono ?_); (case side1 => exact Zv (Kd.C_below HR4.out HB.out)); (case side2 => exact HC4.out); rintro e w48 ⟨rfl, hb⟩; refine ⟨_, rfl, ?_⟩; replace BK653 := Aside0.mk (Zi BK653.out hb); replace BK654 := Aside0.mk (Zi BK654.out hb); replace BK655 := Aside0.mk (Zi BK655.out hb); replace BK656 := Aside0.mk (Zi BK656.out hb); replace BK657 := Aside0.mk (Zi BK657.out hb); replace BK658 := Aside0.mk (Zi BK658.out hb); replace HB := Aside0.mk (Qao (Zc6 GE653.out GE654.out GE655.out GE656.out GE657.out GE658.out) hb); (try clear hb); (try clear hb2); (try clear hk); (try clear hi)) | ((with_reducible refine QaJ (N := 14) rfl ?_); (refine gate_n (n := 51) rfl ?_); refine Zbx (N := 14) (cs := #[.string (⟨#[]⟩ : ByteArray), .int .i64 0, .int .i64 0, .int .i64 0, .int .i64 0, .int .i64 0]) (t := 84) ?_; intro gb668 hg w49 hbox hb; have BK668 := Aside0.mk (hbox); have GW668 := Aside0.mk (Zt w hg (Zc6 GE653.out GE654.out GE655.out GE656.out GE657.out GE658.out)); have GE668 := GW668; have NB653_668 := Aside0.mk (Zn hg BK653.out); have NB668_653 := Aside0.mk NB653_668.out.symm; have NB654_668 := Aside0.mk (Zn hg BK654.out); have NB668_654 := Aside0.mk NB654_668.out.symm; have NB655_668 := Aside0.mk (Zn hg BK655.out); have NB668_655 := Aside0.mk NB655_668.out.symm; have NB656_668 := Aside0.mk (Zn hg BK656.out); have NB668_656 := Aside0.mk NB656_668.out.symm; have NB657_668 := Aside0.mk (Zn hg BK657.out); have NB668_657 := Aside0.mk NB657_668.out.symm; have NB658_668 := Aside0.mk (Zn hg BK658.out); have NB668_658 := Aside0.mk NB658_668.out.symm; replace BK653 := Aside0.mk (Zi BK653.out hb); replace BK654 := Aside0.mk (Zi BK654.out hb); replace BK655 := Aside0.mk (Zi BK655.out hb); replace BK656 := Aside0.mk (Zi BK656.out hb); replace BK657 := Aside0.mk (Zi BK657.out hb); replace BK658 := Aside0.mk (Zi BK658.out hb); replace HB := Aside0.mk (Qao (Zc6 GE653.out GE654.out GE655.out GE656.out GE657.out GE658.out) hb); clear hb hbox hg; have hnb50 := NB668_653.out; have hnc50 := NB653_668.out; have hnb51 := NB668_654.out; have hnc51 := NB654_668.out; have hnb52 := NB668_655.out; have hnc52 := NB655_668.out; have hnb53 := NB668_656.out; have hnc53 := NB656_668.out; have hnb54 := NB668_657.out; have hnc54 := NB657_668.out; have hnb55 := NB668_658.out; have hnc55 := NB658_668.out; obtain ⟨hcz56_0, hfz56_0⟩ := Zy (v := (.string (⟨#[]⟩ : ByteArray))) BK668.out 0; obtain ⟨hcz56_1, hfz56_1⟩ := Zy (v := (.int .i64 0)) BK668.out 1; obtain ⟨hcz56_2, hfz56_2⟩ := Zy (v := (.int .i64 0)) BK668.out 2; obtain ⟨hcz56_3, hfz56_3⟩ := Zy (v := (.int .i64 0)) BK668.out 3; obtain ⟨hcz56_4, hfz56_4⟩ := Zy (v := (.int .i64 0)) BK668.out 4; obtain ⟨hcz56_5, hfz56_5⟩ := Zy (v := (.int .i64 0)) BK668.out 5) | ((with_reducible refine Qdr (t := 84) (p := 14) rfl ?_); (refine gate_n (n := 51) rfl ?_); refine Qdg (t := 84) (p := 14) (v := ?vo_w57) (w1 := ((((((w49.setCell ⟨gb668, 0, none⟩ (.string t661)).setCell ⟨gb668, 1, none⟩ (.int .i64 t662)).setCell ⟨gb668, 2, none⟩ (.int .i64 t663)).setCell ⟨gb668, 3, none⟩ (.int .i64 t664)).setCell ⟨gb668, 4, none⟩ (.int .i64 t665)).setCell ⟨gb668, 5, none⟩ (.int .i64 t666))) ?hg ?ho ?hn ?hr ?_; (case ho => rfl); (case hg => rfl); (case hn => rfl); (case hr => first | (exact QcS (cs := #[.string (⟨#[]⟩ : ByteArray), .int .i64 0, .int .i64 0, .int .i64 0, .int .i64 0, .int .i64 0]) (seg := [.string t661, .int .i64 t662, .int .i64 t663, .int .i64 t664, .int .i64 t665, .int .i64 t666]) BK668.out rfl (by first | rfl | (go_simp; done)) (by first | rfl | (go_simp; done)) (by rfl) (by first | rfl | kernel_rfl) (by simp) (by first | rfl | simp [Value.oneCell'])) | (go_simp; done) | (go_simp; rfl)); intro w57 hw; replace BK653 : Aside0 (w57.heap[gb653]? = some (.cells #[.slice A0 l0.length c0] 30 (0, 0))) := ⟨(by rw [hw]; exact (Zg6 BK653.out NB653_668.out NB653_668.out NB653_668.out NB653_668.out NB653_668.out NB653_668.out))⟩; replace BK654 : Aside0 (w57.heap[gb654]? = some (.cells #[.string a1_0, .string a1_1] 44 (0, 0))) := ⟨(by rw [hw]; exact (Zg6 BK654.out NB654_668.out NB654_668.out NB654_668.out NB654_668.out NB654_668.out NB654_668.out))⟩; replace BK655 : Aside0 (w57.heap[gb655]? = some (.cells #[.string a2] 9 (0, 0))) := ⟨(by rw [hw]; exact (Zg6 BK655.out NB655_668.out NB655_668.out NB655_668.out NB655_668.out NB655_668.out NB655_668.out))⟩; replace BK656 : Aside0 (w57.heap[gb656]? = some (.cells #[.int .i64 a3] 3 (0, 0))) := ⟨(by rw [hw]; exact (Zg6 BK656.out NB656_668.out NB656_668.out NB656_668.out NB656_668.out NB656_668.out NB656_668.out))⟩; replace BK657 : Aside0 (w57.heap[gb657]? = some (.cells #[.slice A4 l4.length c4] 31 (0, 0))) := ⟨(by rw [hw]; exact (Zg6 BK657.out NB657_668.out NB657_668.out NB657_668.out NB657_668.out NB657_668.out NB657_668.out))⟩; replace BK658 : Aside0 (w57.heap[gb658]? = some (.cells #[.slice A5 l5.length c5] 32 (0, 0))) := ⟨(by rw [hw]; exact (Zg6 BK658.out NB658_668.out NB658_668.out NB658_668.out NB658_668.out NB658_668.out NB658_668.out))⟩; replace BK668 : Aside0 (w57.heap[gb668]? = some (.cells #[.string t661, .int .i64 t662, .int .i64 t663, .int .i64 t664, .int .i64 t665, .int .i64 t666] 84 (0, 0))) := ⟨(by rw [hw]; exact (Zp2 BK668.out))⟩; replace HB : Aside0 (Below w.heap.size w w57) := ⟨(by rw [hw]; exact (Zc7 GE653.out GE654.out GE655.out GE656.out GE657.out GE658.out GE668.out))⟩; clear hw))
  (try simp only [Act.put, Zj, Zk, Zm])
  by_cases c58 : t667 = T
  ·subst c58
   have H1 : ((Qbn.f k l0 a1_0 a1_1 a2).bind fun t670 => (QaZ.l0 k 0 (wrap64 (t670 + 1)) l0 a1_0 a1_1 a2 a3 l4 l5)) = some (r1, r2) := by rw [if_pos rfl] at H; exact H
   clear H
   have H := H1
   clear H1
   replace H := Option.bind_eq_some_iff.mp H
   obtain ⟨t670, A590, H⟩ := H
   replace H : (QaZ.l0 k 0 (wrap64 (t670 + 1)) l0 a1_0 a1_1 a2 a3 l4 l5) = some (r1, r2) := H
   have A59 := Aside0.mk A590
   clear A590
   have H' := Aside0.mk H
   clear H
   go_wp2_with (first | ((with_reducible refine QaJ (N := 16) rfl ?_); (refine gate_n (n := 51) rfl ?_); refine Zbx (N := 16) (cs := #[.nilFunc]) (t := 96) ?_; intro gb669 hg w60 hbox hb; have BK669 := Aside0.mk (hbox); have GW669 := Aside0.mk (Zt w hg (Zc7 GE653.out GE654.out GE655.out GE656.out GE657.out GE658.out GE668.out)); have GE669 := GW669; have NB653_669 := Aside0.mk (Zn hg BK653.out); have NB669_653 := Aside0.mk NB653_669.out.symm; have NB654_669 := Aside0.mk (Zn hg BK654.out); have NB669_654 := Aside0.mk NB654_669.out.symm; have NB655_669 := Aside0.mk (Zn hg BK655.out); have NB669_655 := Aside0.mk NB655_669.out.symm; have NB656_669 := Aside0.mk (Zn hg BK656.out); have NB669_656 := Aside0.mk NB656_669.out.symm; have NB657_669 := Aside0.mk (Zn hg BK657.out); have NB669_657 := Aside0.mk NB657_669.out.symm; have NB658_669 := Aside0.mk (Zn hg BK658.out); have NB669_658 := Aside0.mk NB658_669.out.symm; have NB668_669 := Aside0.mk (Zn hg BK668.out); have NB669_668 := Aside0.mk NB668_669.out.symm; replace BK653 := Aside0.mk (Zi BK653.out hb); replace BK654 := Aside0.mk (Zi BK654.out hb); replace BK655 := Aside0.mk (Zi BK655.out hb); replace BK656 := Aside0.mk (Zi BK656.out hb); replace BK657 := Aside0.mk (Zi BK657.out hb); replace BK658 := Aside0.mk (Zi BK658.out hb); replace BK668 := Aside0.mk (Zi BK668.out hb); replace HB := Aside0.mk (Qao (Zc7 GE653.out GE654.out GE655.out GE656.out GE657.out GE658.out GE668.out) hb); clear hb hbox hg; have hnb61 := NB669_653.out; have hnc61 := NB653_669.out; have hnb62 := NB669_654.out; have hnc62 := NB654_669.out; have hnb63 := NB669_655.out; have hnc63 := NB655_669.out; have hnb64 := NB669_656.out; have hnc64 := NB656_669.out; have hnb65 := NB669_657.out; have hnc65 := NB657_669.out; have hnb66 := NB669_658.out; have hnc66 := NB658_669.out; have hnb67 := NB669_668.out; have hnc67 := NB668_669.out; obtain ⟨hcz68_0, hfz68_0⟩ := Zy (v := (.nilFunc)) BK669.out 0) | ((with_reducible refine Qdr (t := 96) (p := 16) rfl ?_); (refine gate_n (n := 51) rfl ?_); refine Qdg (t := 96) (p := 16) (v := ?vo_w69) (w1 := (w60.setCell ⟨gb669, 0, none⟩ (.func (.func 61) #[] #[.pointer (some ⟨gb653, 0, none⟩), .pointer (some ⟨gb654, 0, none⟩), .pointer (some ⟨gb655, 0, none⟩), .pointer (some ⟨gb656, 0, none⟩), .pointer (some ⟨gb657, 0, none⟩), .pointer (some ⟨gb658, 0, none⟩)]))) ?hg ?ho ?hn ?hr ?_; (case ho => rfl); (case hg => rfl); (case hn => rfl); (case hr => first | (exact QcS (cs := #[.nilFunc]) (seg := [.func (.func 61) #[] #[.pointer (some ⟨gb653, 0, none⟩), .pointer (some ⟨gb654, 0, none⟩), .pointer (some ⟨gb655, 0, none⟩), .pointer (some ⟨gb656, 0, none⟩), .pointer (some ⟨gb657, 0, none⟩), .pointer (some ⟨gb658, 0, none⟩)]]) BK669.out rfl (by first | rfl | (go_simp; done)) (by first | rfl | (go_simp; done)) (by rfl) (by first | rfl | kernel_rfl) (by simp) (by first | rfl | simp [Value.oneCell'])) | (go_simp; done) | (go_simp; rfl)); intro w69 hw; replace BK653 : Aside0 (w69.heap[gb653]? = some (.cells #[.slice A0 l0.length c0] 30 (0, 0))) := ⟨(by rw [hw]; exact (Zg1 BK653.out NB653_669.out))⟩; replace BK654 : Aside0 (w69.heap[gb654]? = some (.cells #[.string a1_0, .string a1_1] 44 (0, 0))) := ⟨(by rw [hw]; exact (Zg1 BK654.out NB654_669.out))⟩; replace BK655 : Aside0 (w69.heap[gb655]? = some (.cells #[.string a2] 9 (0, 0))) := ⟨(by rw [hw]; exact (Zg1 BK655.out NB655_669.out))⟩; replace BK656 : Aside0 (w69.heap[gb656]? = some (.cells #[.int .i64 a3] 3 (0, 0))) := ⟨(by rw [hw]; exact (Zg1 BK656.out NB656_669.out))⟩; replace BK657 : Aside0 (w69.heap[gb657]? = some (.cells #[.slice A4 l4.length c4] 31 (0, 0))) := ⟨(by rw [hw]; exact (Zg1 BK657.out NB657_669.out))⟩; replace BK658 : Aside0 (w69.heap[gb658]? = some (.cells #[.slice A5 l5.length c5] 32 (0, 0))) := ⟨(by rw [hw]; exact (Zg1 BK658.out NB658_669.out))⟩; replace BK668 : Aside0 (w69.heap[gb668]? = some (.cells #[.string t661, .int .i64 t662, .int .i64 t663, .int .i64 t664, .int .i64 t665, .int .i64 t666] 84 (0, 0))) := ⟨(by rw [hw]; exact (Zg1 BK668.out NB668_669.out))⟩; replace BK669 : Aside0 (w69.heap[gb669]? = some (.cells #[.func (.func 61) #[] #[.pointer (some ⟨gb653, 0, none⟩), .pointer (some ⟨gb654, 0, none⟩), .pointer (some ⟨gb655, 0, none⟩), .pointer (some ⟨gb656, 0, none⟩), .pointer (some ⟨gb657, 0, none⟩), .pointer (some ⟨gb658, 0, none⟩)]] 96 (0, 0))) := ⟨(by rw [hw]; exact (Zp2 BK669.out))⟩; replace HB : Aside0 (Below w.heap.size w w69) := ⟨(by rw [hw]; exact (Zc8 GE653.out GE654.out GE655.out GE656.out GE657.out GE658.out GE668.out GE669.out))⟩; clear hw; have hnb70 := NB653_654.out; have hnc70 := NB654_653.out; have hnb71 := NB653_655.out; have hnc71 := NB655_653.out; have hnb72 := NB653_656.out; have hnc72 := NB656_653.out; have hnb73 := NB653_657.out; have hnc73 := NB657_653.out; have hnb74 := NB653_658.out; have hnc74 := NB658_653.out; have hnb75 := NB653_668.out; have hnc75 := NB668_653.out; obtain ⟨hcz76_0, hfz76_0⟩ := Zy (v := (.slice A0 l0.length c0)) BK653.out 0; have hnb77 := NB654_655.out; have hnc77 := NB655_654.out; have hnb78 := NB654_656.out; have hnc78 := NB656_654.out; have hnb79 := NB654_657.out; have hnc79 := NB657_654.out; have hnb80 := NB654_658.out; have hnc80 := NB658_654.out; have hnb81 := NB654_668.out; have hnc81 := NB668_654.out; obtain ⟨hcz82_0, hfz82_0⟩ := Zy (v := (.string a1_0)) BK654.out 0; obtain ⟨hcz82_1, hfz82_1⟩ := Zy (v := (.string a1_1)) BK654.out 1; have hnb83 := NB655_656.out; have hnc83 := NB656_655.out; have hnb84 := NB655_657.out; have hnc84 := NB657_655.out; have hnb85 := NB655_658.out; have hnc85 := NB658_655.out; have hnb86 := NB655_668.out; have hnc86 := NB668_655.out; obtain ⟨hcz87_0, hfz87_0⟩ := Zy (v := (.string a2)) BK655.out 0) | ((with_reducible refine Qax (f := 46) rfl ?_); refine goesL_ (some 43) rfl rfl Try.func46 (by kernel_rfl) rfl #[.slice A0 l0.length c0, .agg #[.string a1_0, .string a1_1], .string a2] rfl (Zl) ?_; (with_reducible refine (Qbn.calls k _ _ l0 a1_0 a1_1 a2 t670 _ ?side1 ?side2 A59.out).mono ?_); (case side1 => exact Zv (Kd.C_below HR0.out HB.out)); (case side2 => exact HC0.out); rintro e w88 ⟨rfl, hb⟩; refine ⟨_, rfl, ?_⟩; replace BK653 := Aside0.mk (Zi BK653.out hb); replace BK654 := Aside0.mk (Zi BK654.out hb); replace BK655 := Aside0.mk (Zi BK655.out hb); replace BK656 := Aside0.mk (Zi BK656.out hb); replace BK657 := Aside0.mk (Zi BK657.out hb); replace BK658 := Aside0.mk (Zi BK658.out hb); replace BK668 := Aside0.mk (Zi BK668.out hb); replace BK669 := Aside0.mk (Zi BK669.out hb); replace HB := Aside0.mk (Qao (Zc8 GE653.out GE654.out GE655.out GE656.out GE657.out GE658.out GE668.out GE669.out) hb); (try clear hb); (try clear hb2); (try clear hk); (try clear hi)) | (go_at_call 62; go_in))
   go_loopg [5, 6] k (fun kq v305 v306 w' => ∃ (x305_1 : Int) (x306_1 : Int), v305 = .int .i64 x305_1 ∧ v306 = .int .i64 x306_1 ∧ Aside0 (QaZ.l0 kq x305_1 x306_1 l0 a1_0 a1_1 a2 a3 l4 l5 = some (r1, r2)) ∧ Aside0 (kq ≤ k) ∧ Aside0 (w'.heap[gb653]? = some (.cells #[(.slice A0 l0.length c0)] 30 (0, 0))) ∧ Aside0 (w'.heap[gb654]? = some (.cells #[.string a1_0, .string a1_1] 44 (0, 0))) ∧ Aside0 (w'.heap[gb655]? = some (.cells #[.string a2] 9 (0, 0))) ∧ Aside0 (w'.heap[gb656]? = some (.cells #[.int .i64 a3] 3 (0, 0))) ∧ Aside0 (w'.heap[gb657]? = some (.cells #[(.slice A4 l4.length c4)] 31 (0, 0))) ∧ Aside0 (w'.heap[gb658]? = some (.cells #[(.slice A5 l5.length c5)] 32 (0, 0))) ∧ Aside0 (w'.heap[gb668]? = some (.cells #[.string t661, .int .i64 t662, .int .i64 t663, .int .i64 t664, .int .i64 t665, .int .i64 t666] 84 (0, 0))) ∧ Aside0 (w'.heap[gb669]? = some (.cells #[(.func (.func 61) #[] #[.pointer (some ⟨gb653, 0, none⟩), .pointer (some ⟨gb654, 0, none⟩), .pointer (some ⟨gb655, 0, none⟩), .pointer (some ⟨gb656, 0, none⟩), .pointer (some ⟨gb657, 0, none⟩), .pointer (some ⟨gb658, 0, none⟩)])] 96 (0, 0))) ∧ Aside0 (Below w.heap.size w w'))
   case atStart => exact ⟨(0), (wrap64 (t670 + 1)), (Zs), (Zs), H', ⟨Nat.le_refl _⟩, ⟨Zu BK653.out⟩, ⟨Zu BK654.out⟩, ⟨Zu BK655.out⟩, ⟨Zu BK656.out⟩, ⟨Zu BK657.out⟩, ⟨Zu BK658.out⟩, ⟨Zu BK668.out⟩, ⟨Zu BK669.out⟩, ⟨Zc8 GE653.out GE654.out GE655.out GE656.out GE657.out GE658.out GE668.out GE669.out⟩⟩
   case round =>
    clear H'
    try clear c1
    try clear c2
    try clear p2
    try clear c3
    try clear c4
    try clear c5
    try clear c6
    try clear p6
    try clear c7
    try clear c8
    try clear c14
    try clear c15
    try clear c16
    try clear c17
    try clear c18
    try clear c20
    try clear c21
    try clear c22
    try clear c23
    try clear c25
    try clear c26
    try clear c27
    try clear c29
    try clear c30
    try clear c32
    try clear c33
    try clear c35
    try clear c35b0
    try clear c35b1
    try clear c37
    try clear c38
    try clear c39
    try clear c40
    try clear c41
    try clear c43
    try clear c44
    try clear c45
    try clear c46
    try clear c48
    try clear c50
    try clear c51
    try clear c52
    try clear c53
    try clear c54
    try clear c55
    try clear c58
    try clear c61
    try clear c62
    try clear c63
    try clear c64
    try clear p64
    try clear c65
    try clear c66
    try clear c67
    try clear c70
    try clear c71
    try clear c72
    try clear c73
    try clear c74
    try clear c75
    try clear c77
    try clear c78
    try clear c79
    try clear c80
    try clear c81
    try clear c83
    try clear c84
    try clear c85
    try clear c86
    try clear hcz19_0
    try clear hcz24_0
    try clear hcz24_1
    try clear hcz28_0
    try clear hcz31_0
    try clear hcz33_0
    try clear hcz42_0
    try clear hcz47_0
    try clear hcz56_0
    try clear hcz56_1
    try clear hcz56_2
    try clear hcz56_3
    try clear hcz56_4
    try clear hcz56_5
    try clear hcz68_0
    try clear hcz76_0
    try clear hcz82_0
    try clear hcz82_1
    try clear hcz87_0
    try clear hfz19_0
    try clear hfz24_0
    try clear hfz24_1
    try clear hfz28_0
    try clear hfz31_0
    try clear hfz33_0
    try clear hfz42_0
    try clear hfz47_0
    try clear hfz56_0
    try clear hfz56_1
    try clear hfz56_2
    try clear hfz56_3
    try clear hfz56_4
    try clear hfz56_5
    try clear hfz68_0
    try clear hfz76_0
    try clear hfz82_0
    try clear hfz82_1
    try clear hfz87_0
    obtain ⟨x305_1, x306_1, rfl, rfl, HA, HK1, BK653, BK654, BK655, BK656, BK657, BK658, BK668, BK669, HB⟩ := hrel
    cases gk with
    | zero => exact absurd HA.out (by simp [QaZ.l0])
    | succ k1 =>
     have H := HA.out
     clear HA
     simp only [QaZ.l0] at H
     by_cases c89 : x305_1 < x306_1
     ·rw [if_pos c89] at H
      have c89b0 : decide (x305_1 < x306_1) = T := decide_eq_true c89
      clear c89
      (try simp only [c89b0])
      have hnb90 := NB669_653.out
      have hnc90 := NB653_669.out
      have hnb91 := NB669_654.out
      have hnc91 := NB654_669.out
      have hnb92 := NB669_655.out
      have hnc92 := NB655_669.out
      have hnb93 := NB669_656.out
      have hnc93 := NB656_669.out
      have hnb94 := NB669_657.out
      have hnc94 := NB657_669.out
      have hnb95 := NB669_658.out
      have hnc95 := NB658_669.out
      have hnb96 := NB669_668.out
      have hnc96 := NB668_669.out
      obtain ⟨hcz97_0, hfz97_0⟩ := Zy (v := (.func (.func 61) #[] #[.pointer (some ⟨gb653, 0, none⟩), .pointer (some ⟨gb654, 0, none⟩), .pointer (some ⟨gb655, 0, none⟩), .pointer (some ⟨gb656, 0, none⟩), .pointer (some ⟨gb657, 0, none⟩), .pointer (some ⟨gb658, 0, none⟩)])) BK669.out 0
      have hnb98 := NB653_654.out
      have hnc98 := NB654_653.out
      have hnb99 := NB653_655.out
      have hnc99 := NB655_653.out
      have hnb100 := NB653_656.out
      have hnc100 := NB656_653.out
      have hnb101 := NB653_657.out
      have hnc101 := NB657_653.out
      have hnb102 := NB653_658.out
      have hnc102 := NB658_653.out
      have hnb103 := NB653_668.out
      have hnc103 := NB668_653.out
      obtain ⟨hcz104_0, hfz104_0⟩ := Zy (v := (.slice A0 l0.length c0)) BK653.out 0
      go_upto_if 16 with (first | (go_at_call 63; go_in) | (go_at_call 61; go_in))
      (try simp only [Act.put, Zj, Zk, Zm])
      by_cases c105 : (wrap64 ((IntKind.u64.wrap (wrap64 (x305_1 + x306_1))) / 2)) > 0
      ·rw [if_pos c105] at H
       have c105b0 : decide (0 < (wrap64 ((IntKind.u64.wrap (wrap64 (x305_1 + x306_1))) / 2))) = T := decide_eq_true c105
       clear c105
       (try simp only [c105b0])
       replace H := Option.bind_eq_some_iff.mp H
       obtain ⟨⟨t671, t674⟩, A1060, H⟩ := H
       replace H : (if t674 = 0 then ((Qbo.f k1 t671 a1_0 a1_1 a3 l4 l5).bind fun bt675 => (if bt675.2 = 0 then (if bt675.1 ≥ a3 then (QaZ.l0 k1 (wrap64 ((wrap64 ((IntKind.u64.wrap (wrap64 (x305_1 + x306_1))) / 2)) + 1)) x306_1 l0 a1_0 a1_1 a2 a3 l4 l5) else (QaZ.l0 k1 x305_1 (wrap64 ((IntKind.u64.wrap (wrap64 (x305_1 + x306_1))) / 2)) l0 a1_0 a1_1 a2 a3 l4 l5)) else (QaZ.l0 k1 x305_1 (wrap64 ((IntKind.u64.wrap (wrap64 (x305_1 + x306_1))) / 2)) l0 a1_0 a1_1 a2 a3 l4 l5))) else (QaZ.l0 k1 x305_1 (wrap64 ((IntKind.u64.wrap (wrap64 (x305_1 + x306_1))) / 2)) l0 a1_0 a1_1 a2 a3 l4 l5)) = some (r1, r2) := H
       have A106 := Aside0.mk A1060
       clear A1060
       have hnb107 := NB653_654.out
       have hnc107 := NB654_653.out
       have hnb108 := NB653_655.out
       have hnc108 := NB655_653.out
       have hnb109 := NB653_656.out
       have hnc109 := NB656_653.out
       have hnb110 := NB653_657.out
       have hnc110 := NB657_653.out
       have hnb111 := NB653_658.out
       have hnc111 := NB658_653.out
       have hnb112 := NB653_668.out
       have hnc112 := NB668_653.out
       have hnb113 := NB653_669.out
       have hnc113 := NB669_653.out
       obtain ⟨hcz114_0, hfz114_0⟩ := Zy (v := (.slice A0 l0.length c0)) BK653.out 0
       have hnb115 := NB654_655.out
       have hnc115 := NB655_654.out
       have hnb116 := NB654_656.out
       have hnc116 := NB656_654.out
       have hnb117 := NB654_657.out
       have hnc117 := NB657_654.out
       have hnb118 := NB654_658.out
       have hnc118 := NB658_654.out
       have hnb119 := NB654_668.out
       have hnc119 := NB668_654.out
       have hnb120 := NB654_669.out
       have hnc120 := NB669_654.out
       obtain ⟨hcz121_0, hfz121_0⟩ := Zy (v := (.string a1_0)) BK654.out 0
       obtain ⟨hcz121_1, hfz121_1⟩ := Zy (v := (.string a1_1)) BK654.out 1
       have hnb122 := NB655_656.out
       have hnc122 := NB656_655.out
       have hnb123 := NB655_657.out
       have hnc123 := NB657_655.out
       have hnb124 := NB655_658.out
       have hnc124 := NB658_655.out
       have hnb125 := NB655_668.out
       have hnc125 := NB668_655.out
       have hnb126 := NB655_669.out
       have hnc126 := NB669_655.out
       obtain ⟨hcz127_0, hfz127_0⟩ := Zy (v := (.string a2)) BK655.out 0
       go_upto_if 26 with (first | ((with_reducible refine Qax (f := 47) rfl ?_); refine goesL_ (some 22) rfl rfl Try.func47 (by kernel_rfl) rfl #[.slice A0 l0.length c0, .agg #[.string a1_0, .string a1_1], .string a2, .int .i64 (wrap64 ((IntKind.u64.wrap (wrap64 (x305_1 + x306_1))) / 2))] rfl (Zl) ?_; (with_reducible refine (Qbc.calls k1 _ _ l0 a1_0 a1_1 a2 (wrap64 ((IntKind.u64.wrap (wrap64 (x305_1 + x306_1))) / 2)) t671 t674 _ ?side1 ?side2 A106.out).mono ?_); (case side1 => exact Zv (Kd.C_below HR0.out HB.out)); (case side2 => exact HC0.out); rintro e w128 ⟨v672, rfl, ho0, hb⟩; refine ⟨_, rfl, ?_⟩; have HO673 := Aside0.mk (Kd.R_lower ho0 (Qam (Zc8 GE653.out GE654.out GE655.out GE656.out GE657.out GE658.out GE668.out GE669.out))); replace BK653 := Aside0.mk (Zi BK653.out hb); replace BK654 := Aside0.mk (Zi BK654.out hb); replace BK655 := Aside0.mk (Zi BK655.out hb); replace BK656 := Aside0.mk (Zi BK656.out hb); replace BK657 := Aside0.mk (Zi BK657.out hb); replace BK658 := Aside0.mk (Zi BK658.out hb); replace BK668 := Aside0.mk (Zi BK668.out hb); replace BK669 := Aside0.mk (Zi BK669.out hb); replace HB := Aside0.mk (Qao (Zc8 GE653.out GE654.out GE655.out GE656.out GE657.out GE658.out GE668.out GE669.out) hb); (try clear hb); (try clear hb2); (try clear hk); (try clear hi); (try clear ho0)))
       (try simp only [Act.put, Zj, Zk, Zm])
       by_cases c129 : t674 = 0
       ·rw [if_pos c129] at H
        have c129b0 : (t674 == 0) = T := beq_iff_eq.mpr c129
        have c129b1 : (t674 != 0) = F := bne_eq_false_iff_eq.mpr c129
        clear c129
        (try simp only [c129b0, c129b1])
        replace H := Option.bind_eq_some_iff.mp H
        obtain ⟨⟨t675, t676⟩, A1300, H⟩ := H
        replace H : (if t676 = 0 then (if t675 ≥ a3 then (QaZ.l0 k1 (wrap64 ((wrap64 ((IntKind.u64.wrap (wrap64 (x305_1 + x306_1))) / 2)) + 1)) x306_1 l0 a1_0 a1_1 a2 a3 l4 l5) else (QaZ.l0 k1 x305_1 (wrap64 ((IntKind.u64.wrap (wrap64 (x305_1 + x306_1))) / 2)) l0 a1_0 a1_1 a2 a3 l4 l5)) else (QaZ.l0 k1 x305_1 (wrap64 ((IntKind.u64.wrap (wrap64 (x305_1 + x306_1))) / 2)) l0 a1_0 a1_1 a2 a3 l4 l5)) = some (r1, r2) := H
        have A130 := Aside0.mk A1300
        clear A1300
        have hnb131 := NB654_653.out
        have hnc131 := NB653_654.out
        have hnb132 := NB654_655.out
        have hnc132 := NB655_654.out
        have hnb133 := NB654_656.out
        have hnc133 := NB656_654.out
        have hnb134 := NB654_657.out
        have hnc134 := NB657_654.out
        have hnb135 := NB654_658.out
        have hnc135 := NB658_654.out
        have hnb136 := NB654_668.out
        have hnc136 := NB668_654.out
        have hnb137 := NB654_669.out
        have hnc137 := NB669_654.out
        obtain ⟨hcz138_0, hfz138_0⟩ := Zy (v := (.string a1_0)) BK654.out 0
        obtain ⟨hcz138_1, hfz138_1⟩ := Zy (v := (.string a1_1)) BK654.out 1
        have hnb139 := NB656_653.out
        have hnc139 := NB653_656.out
        have hnb140 := NB656_655.out
        have hnc140 := NB655_656.out
        have hnb141 := NB656_657.out
        have hnc141 := NB657_656.out
        have hnb142 := NB656_658.out
        have hnc142 := NB658_656.out
        have hnb143 := NB656_668.out
        have hnc143 := NB668_656.out
        have hnb144 := NB656_669.out
        have hnc144 := NB669_656.out
        obtain ⟨hcz145_0, hfz145_0⟩ := Zy (v := (.int .i64 a3)) BK656.out 0
        have hnb146 := NB657_653.out
        have hnc146 := NB653_657.out
        have hnb147 := NB657_655.out
        have hnc147 := NB655_657.out
        have hnb148 := NB657_658.out
        have hnc148 := NB658_657.out
        have hnb149 := NB657_668.out
        have hnc149 := NB668_657.out
        have hnb150 := NB657_669.out
        have hnc150 := NB669_657.out
        obtain ⟨hcz151_0, hfz151_0⟩ := Zy (v := (.slice A4 l4.length c4)) BK657.out 0
        have hnb152 := NB658_653.out
        have hnc152 := NB653_658.out
        have hnb153 := NB658_655.out
        have hnc153 := NB655_658.out
        have hnb154 := NB658_668.out
        have hnc154 := NB668_658.out
        have hnb155 := NB658_669.out
        have hnc155 := NB669_658.out
        obtain ⟨hcz156_0, hfz156_0⟩ := Zy (v := (.slice A5 l5.length c5)) BK658.out 0
        obtain ⟨Ao157, co157, eo157⟩ := Kd.R_slice HO673.out
        subst eo157
        go_upto_region 8 with (first | ((with_reducible refine Qax (f := 30) rfl ?_); refine goesL_ (some 34) rfl rfl Try.func30 (by kernel_rfl) rfl #[.slice Ao157 t671.length co157, .agg #[.string a1_0, .string a1_1], .int .i64 a3, .slice A4 l4.length c4, .slice A5 l5.length c5] rfl (Zl) ?_; (with_reducible refine (Qbo.calls k1 _ _ t671 a1_0 a1_1 a3 _ _ l4 _ _ l5 t675 t676 _ ?side1 ?side2 ?side3 ?side4 ?side5 ?side6 A130.out).mono ?_); (case side1 => exact Zv (Kd.R_reads' HO673.out).2.2); (case side2 => exact (Kd.R_reads' HO673.out).2.1); (case side3 => exact Zv (Kd.C_below HR4.out HB.out)); (case side4 => exact HC4.out); (case side5 => exact Zv (Kd.C_below HR5.out HB.out)); (case side6 => exact HC5.out); rintro e w158 ⟨rfl, hb⟩; refine ⟨_, rfl, ?_⟩; replace HO673 := Aside0.mk (Kd.R_below (Zr HO673.out) hb); replace BK653 := Aside0.mk (Zi BK653.out hb); replace BK654 := Aside0.mk (Zi BK654.out hb); replace BK655 := Aside0.mk (Zi BK655.out hb); replace BK656 := Aside0.mk (Zi BK656.out hb); replace BK657 := Aside0.mk (Zi BK657.out hb); replace BK658 := Aside0.mk (Zi BK658.out hb); replace BK668 := Aside0.mk (Zi BK668.out hb); replace BK669 := Aside0.mk (Zi BK669.out hb); replace HB := Aside0.mk (Qao (Zc8 GE653.out GE654.out GE655.out GE656.out GE657.out GE658.out GE668.out GE669.out) hb); (try clear hb); (try clear hb2); (try clear hk); (try clear hi)))
        (try simp only [Act.put, Zj, Zk, Zm])
        by_cases c159 : t676 = 0
        ·rw [if_pos c159] at H
         have c159b0 : (t676 == 0) = T := beq_iff_eq.mpr c159
         have c159b1 : (t676 != 0) = F := bne_eq_false_iff_eq.mpr c159
         clear c159
         (try simp only [c159b0, c159b1])
         have hnb160 := NB656_653.out
         have hnc160 := NB653_656.out
         have hnb161 := NB656_654.out
         have hnc161 := NB654_656.out
         have hnb162 := NB656_655.out
         have hnc162 := NB655_656.out
         have hnb163 := NB656_657.out
         have hnc163 := NB657_656.out
         have hnb164 := NB656_658.out
         have hnc164 := NB658_656.out
         have hnb165 := NB656_668.out
         have hnc165 := NB668_656.out
         have hnb166 := NB656_669.out
         have hnc166 := NB669_656.out
         obtain ⟨hcz167_0, hfz167_0⟩ := Zy (v := (.int .i64 a3)) BK656.out 0
         go_upto_if 21 with (fail)
         by_cases c168 : t675 ≥ a3
         ·rw [if_pos c168] at H
          have c168b0 : decide (a3 ≤ t675) = T := decide_eq_true c168
          clear c168
          (try simp only [c168b0])
          have H' := Aside0.mk H
          clear H
          go_wp2
          go_roundg k1
          case measure => have := HK1.out; omega
          case rel => exact ⟨(wrap64 ((wrap64 ((IntKind.u64.wrap (wrap64 (x305_1 + x306_1))) / 2)) + 1)), (x306_1), (Zs), (Zs), H', ⟨by have := HK1.out; omega⟩, ⟨Zu BK653.out⟩, ⟨Zu BK654.out⟩, ⟨Zu BK655.out⟩, ⟨Zu BK656.out⟩, ⟨Zu BK657.out⟩, ⟨Zu BK658.out⟩, ⟨Zu BK668.out⟩, ⟨Zu BK669.out⟩, ⟨Zc8 GE653.out GE654.out GE655.out GE656.out GE657.out GE658.out GE668.out GE669.out⟩⟩
         rw [if_neg c168] at H
         have c168b0 : decide (a3 ≤ t675) = F := decide_eq_false c168
         clear c168
         (try simp only [c168b0])
         have H' := Aside0.mk H
         clear H
         go_wp2
         go_roundg k1
         case measure => have := HK1.out; omega
         case rel => exact ⟨(x305_1), (wrap64 ((IntKind.u64.wrap (wrap64 (x305_1 + x306_1))) / 2)), (Zs), (Zs), H', ⟨by have := HK1.out; omega⟩, ⟨Zu BK653.out⟩, ⟨Zu BK654.out⟩, ⟨Zu BK655.out⟩, ⟨Zu BK656.out⟩, ⟨Zu BK657.out⟩, ⟨Zu BK658.out⟩, ⟨Zu BK668.out⟩, ⟨Zu BK669.out⟩, ⟨Zc8 GE653.out GE654.out GE655.out GE656.out GE657.out GE658.out GE668.out GE669.out⟩⟩
        rw [if_neg c159] at H
        have c159b0 : (t676 == 0) = F := beq_eq_false_iff_ne.mpr c159
        have c159b1 : (t676 != 0) = T := bne_iff_ne.mpr c159
        (try simp only [c159b0, c159b1])
        have H' := Aside0.mk H
        clear H
        go_wp2
        go_roundg k1
        case measure => have := HK1.out; omega
        case rel => exact ⟨(x305_1), (wrap64 ((IntKind.u64.wrap (wrap64 (x305_1 + x306_1))) / 2)), (Zs), (Zs), H', ⟨by have := HK1.out; omega⟩, ⟨Zu BK653.out⟩, ⟨Zu BK654.out⟩, ⟨Zu BK655.out⟩, ⟨Zu BK656.out⟩, ⟨Zu BK657.out⟩, ⟨Zu BK658.out⟩, ⟨Zu BK668.out⟩, ⟨Zu BK669.out⟩, ⟨Zc8 GE653.out GE654.out GE655.out GE656.out GE657.out GE658.out GE668.out GE669.out⟩⟩
       rw [if_neg c129] at H
       have c129b0 : (t674 == 0) = F := beq_eq_false_iff_ne.mpr c129
       have c129b1 : (t674 != 0) = T := bne_iff_ne.mpr c129
       (try simp only [c129b0, c129b1])
       go_upto_region 6 with (fail)
       have H' := Aside0.mk H
       clear H
       go_wp2
       go_roundg k1
       case measure => have := HK1.out; omega
       case rel => exact ⟨(x305_1), (wrap64 ((IntKind.u64.wrap (wrap64 (x305_1 + x306_1))) / 2)), (Zs), (Zs), H', ⟨by have := HK1.out; omega⟩, ⟨Zu BK653.out⟩, ⟨Zu BK654.out⟩, ⟨Zu BK655.out⟩, ⟨Zu BK656.out⟩, ⟨Zu BK657.out⟩, ⟨Zu BK658.out⟩, ⟨Zu BK668.out⟩, ⟨Zu BK669.out⟩, ⟨Zc8 GE653.out GE654.out GE655.out GE656.out GE657.out GE658.out GE668.out GE669.out⟩⟩
      rw [if_neg c105] at H
      have c105b0 : decide (0 < (wrap64 ((IntKind.u64.wrap (wrap64 (x305_1 + x306_1))) / 2))) = F := decide_eq_false c105
      clear c105
      (try simp only [c105b0])
      replace H := Option.bind_eq_some_iff.mp H
      obtain ⟨⟨t677, t678⟩, A1690, H⟩ := H
      replace H : (if t678 = 0 then (if t677 ≥ a3 then (QaZ.l0 k1 (wrap64 ((wrap64 ((IntKind.u64.wrap (wrap64 (x305_1 + x306_1))) / 2)) + 1)) x306_1 l0 a1_0 a1_1 a2 a3 l4 l5) else (QaZ.l0 k1 x305_1 (wrap64 ((IntKind.u64.wrap (wrap64 (x305_1 + x306_1))) / 2)) l0 a1_0 a1_1 a2 a3 l4 l5)) else (QaZ.l0 k1 x305_1 (wrap64 ((IntKind.u64.wrap (wrap64 (x305_1 + x306_1))) / 2)) l0 a1_0 a1_1 a2 a3 l4 l5)) = some (r1, r2) := H
      have A169 := Aside0.mk A1690
      clear A1690
      have hnb170 := NB654_653.out
      have hnc170 := NB653_654.out
      have hnb171 := NB654_655.out
      have hnc171 := NB655_654.out
      have hnb172 := NB654_656.out
      have hnc172 := NB656_654.out
      have hnb173 := NB654_657.out
      have hnc173 := NB657_654.out
      have hnb174 := NB654_658.out
      have hnc174 := NB658_654.out
      have hnb175 := NB654_668.out
      have hnc175 := NB668_654.out
      have hnb176 := NB654_669.out
      have hnc176 := NB669_654.out
      obtain ⟨hcz177_0, hfz177_0⟩ := Zy (v := (.string a1_0)) BK654.out 0
      obtain ⟨hcz177_1, hfz177_1⟩ := Zy (v := (.string a1_1)) BK654.out 1
      have hnb178 := NB656_653.out
      have hnc178 := NB653_656.out
      have hnb179 := NB656_655.out
      have hnc179 := NB655_656.out
      have hnb180 := NB656_657.out
      have hnc180 := NB657_656.out
      have hnb181 := NB656_658.out
      have hnc181 := NB658_656.out
      have hnb182 := NB656_668.out
      have hnc182 := NB668_656.out
      have hnb183 := NB656_669.out
      have hnc183 := NB669_656.out
      obtain ⟨hcz184_0, hfz184_0⟩ := Zy (v := (.int .i64 a3)) BK656.out 0
      have hnb185 := NB657_653.out
      have hnc185 := NB653_657.out
      have hnb186 := NB657_655.out
      have hnc186 := NB655_657.out
      have hnb187 := NB657_658.out
      have hnc187 := NB658_657.out
      have hnb188 := NB657_668.out
      have hnc188 := NB668_657.out
      have hnb189 := NB657_669.out
      have hnc189 := NB669_657.out
      obtain ⟨hcz190_0, hfz190_0⟩ := Zy (v := (.slice A4 l4.length c4)) BK657.out 0
      have hnb191 := NB658_653.out
      have hnc191 := NB653_658.out
      have hnb192 := NB658_655.out
      have hnc192 := NB655_658.out
      have hnb193 := NB658_668.out
      have hnc193 := NB668_658.out
      have hnb194 := NB658_669.out
      have hnc194 := NB669_658.out
      obtain ⟨hcz195_0, hfz195_0⟩ := Zy (v := (.slice A5 l5.length c5)) BK658.out 0
      go_upto_region 8 with (first | ((with_reducible refine Qax (f := 30) rfl ?_); refine goesL_ (some 34) rfl rfl Try.func30 (by kernel_rfl) rfl #[.slice A0 l0.length c0, .agg #[.string a1_0, .string a1_1], .int .i64 a3, .slice A4 l4.length c4, .slice A5 l5.length c5] rfl (Zl) ?_; (with_reducible refine (Qbo.calls k1 _ _ l0 a1_0 a1_1 a3 _ _ l4 _ _ l5 t677 t678 _ ?side1 ?side2 ?side3 ?side4 ?side5 ?side6 A169.out).mono ?_); (case side1 => exact Zv (Kd.C_below HR0.out HB.out)); (case side2 => exact HC0.out); (case side3 => exact Zv (Kd.C_below HR4.out HB.out)); (case side4 => exact HC4.out); (case side5 => exact Zv (Kd.C_below HR5.out HB.out)); (case side6 => exact HC5.out); rintro e w196 ⟨rfl, hb⟩; refine ⟨_, rfl, ?_⟩; replace BK653 := Aside0.mk (Zi BK653.out hb); replace BK654 := Aside0.mk (Zi BK654.out hb); replace BK655 := Aside0.mk (Zi BK655.out hb); replace BK656 := Aside0.mk (Zi BK656.out hb); replace BK657 := Aside0.mk (Zi BK657.out hb); replace BK658 := Aside0.mk (Zi BK658.out hb); replace BK668 := Aside0.mk (Zi BK668.out hb); replace BK669 := Aside0.mk (Zi BK669.out hb); replace HB := Aside0.mk (Qao (Zc8 GE653.out GE654.out GE655.out GE656.out GE657.out GE658.out GE668.out GE669.out) hb); (try clear hb); (try clear hb2); (try clear hk); (try clear hi)))
      (try simp only [Act.put, Zj, Zk, Zm])
      by_cases c197 : t678 = 0
      ·rw [if_pos c197] at H
       have c197b0 : (t678 == 0) = T := beq_iff_eq.mpr c197
       have c197b1 : (t678 != 0) = F := bne_eq_false_iff_eq.mpr c197
       clear c197
       (try simp only [c197b0, c197b1])
       have hnb198 := NB656_653.out
       have hnc198 := NB653_656.out
       have hnb199 := NB656_654.out
       have hnc199 := NB654_656.out
       have hnb200 := NB656_655.out
       have hnc200 := NB655_656.out
       have hnb201 := NB656_657.out
       have hnc201 := NB657_656.out
       have hnb202 := NB656_658.out
       have hnc202 := NB658_656.out
       have hnb203 := NB656_668.out
       have hnc203 := NB668_656.out
       have hnb204 := NB656_669.out
       have hnc204 := NB669_656.out
       obtain ⟨hcz205_0, hfz205_0⟩ := Zy (v := (.int .i64 a3)) BK656.out 0
       go_upto_if 21 with (fail)
       by_cases c206 : t677 ≥ a3
       ·rw [if_pos c206] at H
        have c206b0 : decide (a3 ≤ t677) = T := decide_eq_true c206
        clear c206
        (try simp only [c206b0])
        have H' := Aside0.mk H
        clear H
        go_wp2
        go_roundg k1
        case measure => have := HK1.out; omega
        case rel => exact ⟨(wrap64 ((wrap64 ((IntKind.u64.wrap (wrap64 (x305_1 + x306_1))) / 2)) + 1)), (x306_1), (Zs), (Zs), H', ⟨by have := HK1.out; omega⟩, ⟨Zu BK653.out⟩, ⟨Zu BK654.out⟩, ⟨Zu BK655.out⟩, ⟨Zu BK656.out⟩, ⟨Zu BK657.out⟩, ⟨Zu BK658.out⟩, ⟨Zu BK668.out⟩, ⟨Zu BK669.out⟩, ⟨Zc8 GE653.out GE654.out GE655.out GE656.out GE657.out GE658.out GE668.out GE669.out⟩⟩
       rw [if_neg c206] at H
       have c206b0 : decide (a3 ≤ t677) = F := decide_eq_false c206
       clear c206
       (try simp only [c206b0])
       have H' := Aside0.mk H
       clear H
       go_wp2
       go_roundg k1
       case measure => have := HK1.out; omega
       case rel => exact ⟨(x305_1), (wrap64 ((IntKind.u64.wrap (wrap64 (x305_1 + x306_1))) / 2)), (Zs), (Zs), H', ⟨by have := HK1.out; omega⟩, ⟨Zu BK653.out⟩, ⟨Zu BK654.out⟩, ⟨Zu BK655.out⟩, ⟨Zu BK656.out⟩, ⟨Zu BK657.out⟩, ⟨Zu BK658.out⟩, ⟨Zu BK668.out⟩, ⟨Zu BK669.out⟩, ⟨Zc8 GE653.out GE654.out GE655.out GE656.out GE657.out GE658.out GE668.out GE669.out⟩⟩
      rw [if_neg c197] at H
      have c197b0 : (t678 == 0) = F := beq_eq_false_iff_ne.mpr c197
      have c197b1 : (t678 != 0) = T := bne_iff_ne.mpr c197
      (try simp only [c197b0, c197b1])
      go_upto_region 6 with (fail)
      have H' := Aside0.mk H
      clear H
      go_wp2
      go_roundg k1
      case measure => have := HK1.out; omega
      case rel => exact ⟨(x305_1), (wrap64 ((IntKind.u64.wrap (wrap64 (x305_1 + x306_1))) / 2)), (Zs), (Zs), H', ⟨by have := HK1.out; omega⟩, ⟨Zu BK653.out⟩, ⟨Zu BK654.out⟩, ⟨Zu BK655.out⟩, ⟨Zu BK656.out⟩, ⟨Zu BK657.out⟩, ⟨Zu BK658.out⟩, ⟨Zu BK668.out⟩, ⟨Zu BK669.out⟩, ⟨Zc8 GE653.out GE654.out GE655.out GE656.out GE657.out GE658.out GE668.out GE669.out⟩⟩
     rw [if_neg c89] at H
     have c89b0 : decide (x305_1 < x306_1) = F := decide_eq_false c89
     clear c89
     (try simp only [c89b0])
     go_upto_region 10 with (fail)
     obtain ⟨ji207, hji207⟩ : ∃ j_ : Int, (mx (wrap64 (x305_1 - 1)) 0) = j_ := ⟨_, rfl⟩
     replace H : (some (ji207, 0)) = some (r1, r2) := by first | (rw [hji207] at H; exact H) | (simp only [hji207] at H ⊢; exact H)
     have hji207_ : (if (wrap64 (x305_1 - 1)) < 0 then 0 else (wrap64 (x305_1 - 1))) = ji207 := hji207
     simp only [Option.some.injEq, Prod.mk.injEq] at H
     obtain ⟨rfl, rfl⟩ := H
     go_wp2
     go_ret2
     exact ⟨by first | rfl | (simp [Qaj, Qak] <;> rfl) | (simp only [← hji207]; first | rfl | (simp [Qaj, Qak] <;> rfl)) | (simp [*, Qaj, Qak] <;> rfl), Zc8 GE653.out GE654.out GE655.out GE656.out GE657.out GE658.out GE668.out GE669.out⟩
  replace c58 := Bool.eq_false_iff.mpr c58
  subst c58
  have H1 : (some (0, 11)) = some (r1, r2) := by rw [if_neg (show ¬ (F = T) by decide)] at H; exact H
  clear H
  have H := H1
  clear H1
  simp only [Option.some.injEq, Prod.mk.injEq] at H
  obtain ⟨rfl, rfl⟩ := H
  go_wp2
  go_ret2
  exact ⟨Zq, Zc7 GE653.out GE654.out GE655.out GE656.out GE657.out GE658.out GE668.out⟩
 rw [if_neg c35] at H
 have c35b0 : (t660 == 0) = F := beq_eq_false_iff_ne.mpr c35
 have c35b1 : (t660 != 0) = T := bne_iff_ne.mpr c35
 (try simp only [c35b0, c35b1])
 simp only [Option.some.injEq, Prod.mk.injEq] at H
 obtain ⟨rfl, rfl⟩ := H
 go_wp2
 go_ret2
 exact ⟨Zq, Zc6 GE653.out GE654.out GE655.out GE656.out GE657.out GE658.out⟩
def Qaz.l0 : Nat → List (S84) → List (S98) → List (S46) → Int → Int → Int → Int → Int → Option (Int × Int × Int × Int × Int)
 | 0, _, _, _, _, _, _, _, _ => none
 | k + 1, x2, x3, x13, x14, x789000, x789001, x789002, x789003 => if x14 < (x13.length : Int) then (if 0 ≤ x14 then ((QaP.f k x2 ((rd_T46 x13 x14).f1)).bind fun bt795 => ((Qa9.f k bt795.1 bt795.2.1 bt795.2.2.1 bt795.2.2.2.1 bt795.2.2.2.2.1 bt795.2.2.2.2.2.1 ((rd_T46 x13 x14).f2) x3).bind fun bt804 => (if bt795.2.1 = 0 then (Qaz.l0 k x2 x3 x13 (wrap64 (x14 + 1)) (wrap64 (x789000 + bt804.1)) x789001 x789002 x789003) else (if bt795.2.1 = 1 then (Qaz.l0 k x2 x3 x13 (wrap64 (x14 + 1)) x789000 (wrap64 (x789001 + bt804.1)) x789002 x789003) else (if bt795.2.1 = 2 then (Qaz.l0 k x2 x3 x13 (wrap64 (x14 + 1)) x789000 x789001 (wrap64 (x789002 + bt804.1)) x789003) else (if bt795.2.1 = 3 then (Qaz.l0 k x2 x3 x13 (wrap64 (x14 + 1)) x789000 x789001 x789002 (wrap64 (x789003 + bt804.1))) else (none))))))) else (none)) else (some (x789000, x789001, x789002, x789003, 0))
def Qaz.f (k : Nat) (l0 : List (S46)) (a1_0 : ByteArray) (a1_1 : ByteArray) (l2 : List (S84)) (l3 : List (S98)) : Option (Int × Int × Int × Int × Int) := (Qay.f k l0 a1_0 a1_1 l2 l3).bind fun bt789 => (if bt789.2 = 0 then ((QaI.f k l0 a1_0 a1_1).bind fun t791 => (Qaz.l0 k l2 l3 t791 0 0 0 0 0)) else (some (0, 0, 0, 0, bt789.2)))
theorem Qaz.mono_l : ∀ k, (∀ y0 y1 y2 y3 y4 y5 y6 y7, LeO (Qaz.l0 k y0 y1 y2 y3 y4 y5 y6 y7) (Qaz.l0 (k + 1) y0 y1 y2 y3 y4 y5 y6 y7))
 | 0 => fun _ _ _ _ _ _ _ _ r h => by simp [Qaz.l0] at h
 | k + 1 => by
  have ih0 := Qaz.mono_l k
  intro y0 y1 y2 y3 y4 y5 y6 y7
  unfold Qaz.l0
  exact ZM5 ih0 QaP.mono Qa9.mono QaI.mono Qay.mono
theorem Qaz.mono : ∀ a0 a1 a2 a3 a4 k, LeO (Qaz.f k a0 a1 a2 a3 a4) (Qaz.f (k + 1) a0 a1 a2 a3 a4) := by
 intro a0 a1 a2 a3 a4 k
 have ih0 := Qaz.mono_l k
 unfold Qaz.f
 exact ZM5 ih0 QaP.mono Qa9.mono QaI.mono Qay.mono
def Qaz.T10 : Bool × List (List Nat × List Nat) := (T, [([], []), ([], []), ([], []), ([1, 2], [1, 2]), ([3], [3]), ([4], [4]), ([], []), ([0, 5, 6], [0, 5, 6]), ([7], [7]), ([8], [8]), ([8], [8]), ([9, 7, 0, 1, 2, 3, 4, 5, 6, 7, 8, 9], [9]), ([10, 11, 0, 1, 2, 3, 4, 5, 6, 7, 8, 9, 10, 11], [10])])
def Qaz.B10 : List Nat := [0, 0, 0, 6, 14, 30, 0, 127, 255, 511, 511, 1023, 4095]
theorem Qaz.tab10 : rtab .any (opsOf Try.f36 10) = Qaz.T10 := by kernel_rfl
theorem Qaz.bits10 : Qb0 Qaz.T10.2 Qaz.B10 = T := by kernel_rfl
set_option maxHeartbeats 100000000 in
theorem Qaz.calls (k : Nat) (A0 : Option Addr) (c0 : Nat) (l0 : List (S46)) (a1_0 : ByteArray) (a1_1 : ByteArray) (A2 : Option Addr) (c2 : Nat) (l2 : List (S84)) (A3 : Option Addr) (c3 : Nat) (l3 : List (S98)) (r1 : Int) (r2 : Int) (r3 : Int) (r4 : Int) (r5 : Int) (w : World) (hr0 : Kd.C k46 w A0 l0.length l0) (hc0 : l0.length ≤ c0) (hr2 : Kd.C k84 w A2 l2.length l2) (hc2 : l2.length ≤ c2) (hr3 : Kd.C k98 w A3 l3.length l3) (hc3 : l3.length ≤ c3) (h : Qaz.f k l0 a1_0 a1_1 l2 l3 = some (r1, r2, r3, r4, r5)) :
  Calls Try.prog 36 #[.slice A0 l0.length c0, .agg #[.string a1_0, .string a1_1], .slice A2 l2.length c2, .slice A3 l3.length c3] w fun e w' => e = .returned (.tuple #[.agg #[.int .i64 r1, .int .i64 r2, .int .i64 r3, .int .i64 r4], .int .i64 r5]) ∧ Below w.heap.size w w' := by
 have hu44 := Try.underlying44
 have hu74 := Try.underlying74
 have hu84 := Try.underlying84
 have HR0 := Aside0.mk hr0
 have HC0 := Aside0.mk hc0
 clear hr0 hc0
 have HR2 := Aside0.mk hr2
 have HC2 := Aside0.mk hc2
 clear hr2 hc2
 have HR3 := Aside0.mk hr3
 have HC3 := Aside0.mk hc3
 clear hr3 hc3
 have HB := Aside0.mk (Below.refl w.heap.size w)
 have H : ((Qay.f k l0 a1_0 a1_1 l2 l3).bind fun bt789 => (if bt789.2 = 0 then ((QaI.f k l0 a1_0 a1_1).bind fun t791 => (Qaz.l0 k l2 l3 t791 0 0 0 0 0)) else (some (0, 0, 0, 0, bt789.2)))) = some (r1, r2, r3, r4, r5) := h
 clear h
 replace H := Option.bind_eq_some_iff.mp H
 obtain ⟨⟨t789, t790⟩, A50, H⟩ := H
 replace H : (if t790 = 0 then ((QaI.f k l0 a1_0 a1_1).bind fun t791 => (Qaz.l0 k l2 l3 t791 0 0 0 0 0)) else (some (0, 0, 0, 0, t790))) = some (r1, r2, r3, r4, r5) := H
 have A5 := Aside0.mk A50
 clear A50
 go_enter Try.func36, Try.ntmps36
 go_upto_if 28 with (first | ((with_reducible refine QaJ (N := 5) rfl ?_); refine Zbx (N := 5) (cs := #[.string a1_0, .string a1_1]) (t := 44) ?_; intro gb786 hg w6 hbox hb; have BK786 := Aside0.mk (hbox); have GW786 := Aside0.mk (Zt w hg (Zb)); have GE786 := GW786; replace HB := Aside0.mk (Qao (Zb) hb); clear hb hbox hg) | ((with_reducible refine QaJ (N := 8) rfl ?_); refine Zbx (N := 8) (cs := #[.int .i64 0, .int .i64 0, .int .i64 0, .int .i64 0]) (t := 74) ?_; intro gb787 hg w7 hbox hb; have BK787 := Aside0.mk (hbox); have GW787 := Aside0.mk (Zt w hg (Zc1 GE786.out)); have GE787 := GW787; have NB786_787 := Aside0.mk (Zn hg BK786.out); have NB787_786 := Aside0.mk NB786_787.out.symm; replace BK786 := Aside0.mk (Zi BK786.out hb); replace HB := Aside0.mk (Qao (Zc1 GE786.out) hb); clear hb hbox hg) | ((with_reducible refine QaJ (N := 10) rfl ?_); refine Zbx (N := 10) (cs := #[.int .i64 0, .int .i64 0, .int .i64 0, .int .i64 0]) (t := 74) ?_; intro gb788 hg w8 hbox hb; have BK788 := Aside0.mk (hbox); have GW788 := Aside0.mk (Zt w hg (Zc2 GE786.out GE787.out)); have GE788 := GW788; have NB786_788 := Aside0.mk (Zn hg BK786.out); have NB788_786 := Aside0.mk NB786_788.out.symm; have NB787_788 := Aside0.mk (Zn hg BK787.out); have NB788_787 := Aside0.mk NB787_788.out.symm; replace BK786 := Aside0.mk (Zi BK786.out hb); replace BK787 := Aside0.mk (Zi BK787.out hb); replace HB := Aside0.mk (Qao (Zc2 GE786.out GE787.out) hb); clear hb hbox hg; have hnb9 := NB786_787.out; have hnc9 := NB787_786.out; have hnb10 := NB786_788.out; have hnc10 := NB788_786.out; obtain ⟨hcz11_0, hfz11_0⟩ := Zy (v := (.string a1_0)) BK786.out 0; obtain ⟨hcz11_1, hfz11_1⟩ := Zy (v := (.string a1_1)) BK786.out 1) | ((with_reducible refine Qax (f := 37) rfl ?_); refine goesL_ (some 24) rfl rfl Try.func37 (by kernel_rfl) rfl #[.slice A0 l0.length c0, .agg #[.string a1_0, .string a1_1], .slice A2 l2.length c2, .slice A3 l3.length c3] rfl (Zl) ?_; (with_reducible refine (Qay.calls k _ _ l0 a1_0 a1_1 _ _ l2 _ _ l3 t789 t790 _ ?side1 ?side2 ?side3 ?side4 ?side5 ?side6 A5.out).mono ?_); (case side1 => exact Zv (Kd.C_below HR0.out HB.out)); (case side2 => exact HC0.out); (case side3 => exact Zv (Kd.C_below HR2.out HB.out)); (case side4 => exact HC2.out); (case side5 => exact Zv (Kd.C_below HR3.out HB.out)); (case side6 => exact HC3.out); rintro e w12 ⟨rfl, hb⟩; refine ⟨_, rfl, ?_⟩; replace BK786 := Aside0.mk (Zi BK786.out hb); replace BK787 := Aside0.mk (Zi BK787.out hb); replace BK788 := Aside0.mk (Zi BK788.out hb); replace HB := Aside0.mk (Qao (Zc3 GE786.out GE787.out GE788.out) hb); (try clear hb); (try clear hb2); (try clear hk); (try clear hi)))
 (try simp only [Act.put, Zj, Zk, Zm])
 by_cases c13 : t790 = 0
 ·rw [if_pos c13] at H
  have c13b0 : (t790 == 0) = T := beq_iff_eq.mpr c13
  have c13b1 : (t790 != 0) = F := bne_eq_false_iff_eq.mpr c13
  clear c13
  (try simp only [c13b0, c13b1])
  replace H := Option.bind_eq_some_iff.mp H
  obtain ⟨t791, A140, H⟩ := H
  replace H : (Qaz.l0 k l2 l3 t791 0 0 0 0 0) = some (r1, r2, r3, r4, r5) := H
  have A14 := Aside0.mk A140
  clear A140
  have H' := Aside0.mk H
  clear H
  have hnb15 := NB786_787.out
  have hnc15 := NB787_786.out
  have hnb16 := NB786_788.out
  have hnc16 := NB788_786.out
  obtain ⟨hcz17_0, hfz17_0⟩ := Zy (v := (.string a1_0)) BK786.out 0
  obtain ⟨hcz17_1, hfz17_1⟩ := Zy (v := (.string a1_1)) BK786.out 1
  go_wp2_with (first | ((with_reducible refine Qax (f := 40) rfl ?_); refine goesL_ (some 33) rfl rfl Try.func40 (by kernel_rfl) rfl #[.slice A0 l0.length c0, .agg #[.string a1_0, .string a1_1]] rfl (Zl) ?_; (with_reducible refine (QaI.calls k _ _ l0 a1_0 a1_1 t791 _ ?side1 ?side2 A14.out).mono ?_); (case side1 => exact Zv (Kd.C_below HR0.out HB.out)); (case side2 => exact HC0.out); rintro e w18 ⟨v792, rfl, ho0, hb⟩; refine ⟨_, rfl, ?_⟩; have HO793 := Aside0.mk (Kd.R_lower ho0 (Qam (Zc3 GE786.out GE787.out GE788.out))); replace BK786 := Aside0.mk (Zi BK786.out hb); replace BK787 := Aside0.mk (Zi BK787.out hb); replace BK788 := Aside0.mk (Zi BK788.out hb); replace HB := Aside0.mk (Qao (Zc3 GE786.out GE787.out GE788.out) hb); (try clear hb); (try clear hb2); (try clear hk); (try clear hi); (try clear ho0)))
  go_loopg [14] k (fun kq v14 w' => ∃ (x14_1 : Int) (x789000_1 : Int) (x789001_1 : Int) (x789002_1 : Int) (x789003_1 : Int), v14 = .int .i64 x14_1 ∧ Aside0 (Qaz.l0 kq l2 l3 t791 x14_1 x789000_1 x789001_1 x789002_1 x789003_1 = some (r1, r2, r3, r4, r5)) ∧ Aside0 (kq ≤ k) ∧ Aside0 (Kd.R k46 46 w' w.heap.size (fun _ => True) v792 t791) ∧ Aside0 (w'.heap[gb786]? = some (.cells #[.string a1_0, .string a1_1] 44 (0, 0))) ∧ Aside0 (w'.heap[gb787]? = some (.cells #[.int .i64 0, .int .i64 0, .int .i64 0, .int .i64 0] 74 (0, 0))) ∧ Aside0 (w'.heap[gb788]? = some (.cells #[.int .i64 x789000_1, .int .i64 x789001_1, .int .i64 x789002_1, .int .i64 x789003_1] 74 (0, 0))) ∧ Aside0 (Below w.heap.size w w'))
  case atStart => exact ⟨(0), (0), (0), (0), (0), (Zs), H', ⟨Nat.le_refl _⟩, ⟨Zr HO793.out⟩, ⟨Zu BK786.out⟩, ⟨Zu BK787.out⟩, ⟨Zu BK788.out⟩, ⟨Zc3 GE786.out GE787.out GE788.out⟩⟩
  case round =>
   clear H'
   try clear c1
   try clear c2
   try clear p2
   try clear c3
   try clear c4
   try clear c9
   try clear c10
   try clear c13
   try clear c13b0
   try clear c13b1
   try clear c15
   try clear c16
   try clear hcz11_0
   try clear hcz11_1
   try clear hcz17_0
   try clear hcz17_1
   try clear hfz11_0
   try clear hfz11_1
   try clear hfz17_0
   try clear hfz17_1
   obtain ⟨x14_1, x789000_1, x789001_1, x789002_1, x789003_1, rfl, HA, HK1, HO_13, BK786, BK787, BK788, HB⟩ := hrel
   cases gk with
   | zero => exact absurd HA.out (by simp [Qaz.l0])
   | succ k1 =>
    have H := HA.out
    clear HA
    simp only [Qaz.l0] at H
    obtain ⟨Ao19, co19, eo19⟩ := Kd.R_slice HO_13.out
    subst eo19
    go_upto_if 37 with (fail)
    by_cases c20 : x14_1 < (t791.length : Int)
    ·rw [if_pos c20] at H
     have c20b0 : decide (x14_1 < (t791.length : Int)) = T := decide_eq_true c20
     clear c20
     (try simp only [c20b0])
     by_cases c21 : 0 ≤ x14_1
     ·rw [if_pos c21] at H
      have c21b0 : decide (0 ≤ x14_1) = T := decide_eq_true c21
      clear c21
      replace H := Option.bind_eq_some_iff.mp H
      obtain ⟨⟨t795, t796, t797, t798, t799, t800, t801⟩, A220, H⟩ := H
      replace H : ((Qa9.f k1 t795 t796 t797 t798 t799 t800 ((rd_T46 t791 x14_1).f2) l3).bind fun bt804 => (if t796 = 0 then (Qaz.l0 k1 l2 l3 t791 (wrap64 (x14_1 + 1)) (wrap64 (x789000_1 + bt804.1)) x789001_1 x789002_1 x789003_1) else (if t796 = 1 then (Qaz.l0 k1 l2 l3 t791 (wrap64 (x14_1 + 1)) x789000_1 (wrap64 (x789001_1 + bt804.1)) x789002_1 x789003_1) else (if t796 = 2 then (Qaz.l0 k1 l2 l3 t791 (wrap64 (x14_1 + 1)) x789000_1 x789001_1 (wrap64 (x789002_1 + bt804.1)) x789003_1) else (if t796 = 3 then (Qaz.l0 k1 l2 l3 t791 (wrap64 (x14_1 + 1)) x789000_1 x789001_1 x789002_1 (wrap64 (x789003_1 + bt804.1))) else (none)))))) = some (r1, r2, r3, r4, r5) := H
      have A22 := Aside0.mk A220
      clear A220
      replace H := Option.bind_eq_some_iff.mp H
      obtain ⟨⟨t804, t805⟩, A230, H⟩ := H
      replace H : (if t796 = 0 then (Qaz.l0 k1 l2 l3 t791 (wrap64 (x14_1 + 1)) (wrap64 (x789000_1 + t804)) x789001_1 x789002_1 x789003_1) else (if t796 = 1 then (Qaz.l0 k1 l2 l3 t791 (wrap64 (x14_1 + 1)) x789000_1 (wrap64 (x789001_1 + t804)) x789002_1 x789003_1) else (if t796 = 2 then (Qaz.l0 k1 l2 l3 t791 (wrap64 (x14_1 + 1)) x789000_1 x789001_1 (wrap64 (x789002_1 + t804)) x789003_1) else (if t796 = 3 then (Qaz.l0 k1 l2 l3 t791 (wrap64 (x14_1 + 1)) x789000_1 x789001_1 x789002_1 (wrap64 (x789003_1 + t804))) else (none))))) = some (r1, r2, r3, r4, r5) := H
      have A23 := Aside0.mk A230
      clear A230
      have H' := Aside0.mk H
      clear H
      have p794 : 0 ≤ (x14_1 : Int) := Ze
      have q794 : x14_1 < (t791.length : Int) := Ze
      obtain ⟨ad794, e794, hx794_0, hx794_1, hx794_2, hx794_3⟩ := at_T46 (Kd.R_reads' HO_13.out).2.2 x14_1 p794 q794
      cases e794
      replace p794 := eq_true p794
      replace q794 := eq_true q794
      try go_wp2_with (first | ((with_reducible refine Qax (f := 41) rfl ?_); refine goesL_ (some 47) rfl rfl Try.func41 (by kernel_rfl) rfl #[.slice A2 l2.length c2, .string ((rd_T46 t791 x14_1).f1)] rfl (Zl) ?_; (with_reducible refine (QaP.calls k1 _ _ l2 ((rd_T46 t791 x14_1).f1) t795 t796 t797 t798 t799 t800 t801 _ ?side1 ?side2 A22.out).mono ?_); (case side1 => exact Zv (Kd.C_below HR2.out HB.out)); (case side2 => exact HC2.out); rintro e w25 ⟨rfl, hb⟩; refine ⟨_, rfl, ?_⟩; replace HO_13 := Aside0.mk (Kd.R_below (Zr HO_13.out) hb); replace BK786 := Aside0.mk (Zi BK786.out hb); replace BK787 := Aside0.mk (Zi BK787.out hb); replace BK788 := Aside0.mk (Zi BK788.out hb); replace HB := Aside0.mk (Qao (Zc3 GE786.out GE787.out GE788.out) hb); (try clear hb); (try clear hb2); (try clear hk); (try clear hi)) | ((with_reducible refine QaJ (N := 15) rfl ?_); refine Zbx (N := 15) (cs := #[.string (⟨#[]⟩ : ByteArray), .int .i64 0, .int .i64 0, .int .i64 0, .int .i64 0, .int .i64 0]) (t := 84) ?_; intro gb802 hg w26 hbox hb; have BK802 := Aside0.mk (hbox); have GW802 := Aside0.mk (Zt w hg (Zc3 GE786.out GE787.out GE788.out)); have GE802 := GW802; have NB786_802 := Aside0.mk (Zn hg BK786.out); have NB802_786 := Aside0.mk NB786_802.out.symm; have NB787_802 := Aside0.mk (Zn hg BK787.out); have NB802_787 := Aside0.mk NB787_802.out.symm; have NB788_802 := Aside0.mk (Zn hg BK788.out); have NB802_788 := Aside0.mk NB788_802.out.symm; replace HO_13 := Aside0.mk (Kd.R_below (Zr HO_13.out) hb); replace BK786 := Aside0.mk (Zi BK786.out hb); replace BK787 := Aside0.mk (Zi BK787.out hb); replace BK788 := Aside0.mk (Zi BK788.out hb); replace HB := Aside0.mk (Qao (Zc3 GE786.out GE787.out GE788.out) hb); clear hb hbox hg; have hnb27 := NB802_786.out; have hnc27 := NB786_802.out; have hnb28 := NB802_787.out; have hnc28 := NB787_802.out; have hnb29 := NB802_788.out; have hnc29 := NB788_802.out; obtain ⟨hcz30_0, hfz30_0⟩ := Zy (v := (.string (⟨#[]⟩ : ByteArray))) BK802.out 0; obtain ⟨hcz30_1, hfz30_1⟩ := Zy (v := (.int .i64 0)) BK802.out 1; obtain ⟨hcz30_2, hfz30_2⟩ := Zy (v := (.int .i64 0)) BK802.out 2; obtain ⟨hcz30_3, hfz30_3⟩ := Zy (v := (.int .i64 0)) BK802.out 3; obtain ⟨hcz30_4, hfz30_4⟩ := Zy (v := (.int .i64 0)) BK802.out 4; obtain ⟨hcz30_5, hfz30_5⟩ := Zy (v := (.int .i64 0)) BK802.out 5))
      have n0_ : Aside0 (Kd.R k46 46 ((((((w26.setCell ⟨gb802, 0, none⟩ (.string t795)).setCell ⟨gb802, 1, none⟩ (.int .i64 t796)).setCell ⟨gb802, 2, none⟩ (.int .i64 t797)).setCell ⟨gb802, 3, none⟩ (.int .i64 t798)).setCell ⟨gb802, 4, none⟩ (.int .i64 t799)).setCell ⟨gb802, 5, none⟩ (.int .i64 t800)) w.heap.size (fun _ => True) (.slice (some ad794) t791.length co19) t791) := ⟨by (with_reducible repeat (first | apply Kd.R_alloc | apply Kd.R_drewN | apply Kd.R_drew)); exact Kd.R_mono (Zf gb802 5 (Zf gb802 4 (Zf gb802 3 (Zf gb802 2 (Zf gb802 1 (Zf gb802 0 (Kd.R_types HO_13.out BK802.out (by decide)) (.string t795)) (.int .i64 t796)) (.int .i64 t797)) (.int .i64 t798)) (.int .i64 t799)) (.int .i64 t800)) (fun _ hk => trivial)⟩
      have n1_ : Aside0 (((((((w26.setCell ⟨gb802, 0, none⟩ (.string t795)).setCell ⟨gb802, 1, none⟩ (.int .i64 t796)).setCell ⟨gb802, 2, none⟩ (.int .i64 t797)).setCell ⟨gb802, 3, none⟩ (.int .i64 t798)).setCell ⟨gb802, 4, none⟩ (.int .i64 t799)).setCell ⟨gb802, 5, none⟩ (.int .i64 t800)).heap[gb786]? = some (.cells #[.string a1_0, .string a1_1] 44 (0, 0))) := ⟨Zg6 BK786.out NB786_802.out NB786_802.out NB786_802.out NB786_802.out NB786_802.out NB786_802.out⟩
      have n2_ : Aside0 (((((((w26.setCell ⟨gb802, 0, none⟩ (.string t795)).setCell ⟨gb802, 1, none⟩ (.int .i64 t796)).setCell ⟨gb802, 2, none⟩ (.int .i64 t797)).setCell ⟨gb802, 3, none⟩ (.int .i64 t798)).setCell ⟨gb802, 4, none⟩ (.int .i64 t799)).setCell ⟨gb802, 5, none⟩ (.int .i64 t800)).heap[gb787]? = some (.cells #[.int .i64 0, .int .i64 0, .int .i64 0, .int .i64 0] 74 (0, 0))) := ⟨Zg6 BK787.out NB787_802.out NB787_802.out NB787_802.out NB787_802.out NB787_802.out NB787_802.out⟩
      have n3_ : Aside0 (((((((w26.setCell ⟨gb802, 0, none⟩ (.string t795)).setCell ⟨gb802, 1, none⟩ (.int .i64 t796)).setCell ⟨gb802, 2, none⟩ (.int .i64 t797)).setCell ⟨gb802, 3, none⟩ (.int .i64 t798)).setCell ⟨gb802, 4, none⟩ (.int .i64 t799)).setCell ⟨gb802, 5, none⟩ (.int .i64 t800)).heap[gb788]? = some (.cells #[.int .i64 x789000_1, .int .i64 x789001_1, .int .i64 x789002_1, .int .i64 x789003_1] 74 (0, 0))) := ⟨Zg6 BK788.out NB788_802.out NB788_802.out NB788_802.out NB788_802.out NB788_802.out NB788_802.out⟩
      have n4_ : Aside0 (((((((w26.setCell ⟨gb802, 0, none⟩ (.string t795)).setCell ⟨gb802, 1, none⟩ (.int .i64 t796)).setCell ⟨gb802, 2, none⟩ (.int .i64 t797)).setCell ⟨gb802, 3, none⟩ (.int .i64 t798)).setCell ⟨gb802, 4, none⟩ (.int .i64 t799)).setCell ⟨gb802, 5, none⟩ (.int .i64 t800)).heap[gb802]? = some (.cells #[.string t795, .int .i64 t796, .int .i64 t797, .int .i64 t798, .int .i64 t799, .int .i64 t800] 84 (0, 0))) := ⟨Zp2 BK802.out⟩
      have n5_ : Aside0 (Below w.heap.size w ((((((w26.setCell ⟨gb802, 0, none⟩ (.string t795)).setCell ⟨gb802, 1, none⟩ (.int .i64 t796)).setCell ⟨gb802, 2, none⟩ (.int .i64 t797)).setCell ⟨gb802, 3, none⟩ (.int .i64 t798)).setCell ⟨gb802, 4, none⟩ (.int .i64 t799)).setCell ⟨gb802, 5, none⟩ (.int .i64 t800))) := ⟨Zc4 GE786.out GE787.out GE788.out GE802.out⟩
      (try clear HO_13)
      (try clear BK786)
      (try clear BK787)
      (try clear BK788)
      (try clear BK802)
      (try clear HB)
      generalize ((((((w26.setCell ⟨gb802, 0, none⟩ (.string t795)).setCell ⟨gb802, 1, none⟩ (.int .i64 t796)).setCell ⟨gb802, 2, none⟩ (.int .i64 t797)).setCell ⟨gb802, 3, none⟩ (.int .i64 t798)).setCell ⟨gb802, 4, none⟩ (.int .i64 t799)).setCell ⟨gb802, 5, none⟩ (.int .i64 t800)) = w31 at n0_ n1_ n2_ n3_ n4_ n5_ ⊢
      have HO_13 := n0_
      have BK786 := n1_
      have BK787 := n2_
      have BK788 := n3_
      have BK802 := n4_
      have HB := n5_
      clear n0_ n1_ n2_ n3_ n4_ n5_
      replace HO_13 := Aside0.mk (Kd.R_drew HO_13.out)
      replace BK786 := Aside0.mk (Qad BK786.out)
      replace BK787 := Aside0.mk (Qad BK787.out)
      replace BK788 := Aside0.mk (Qad BK788.out)
      replace BK802 := Aside0.mk (Qad BK802.out)
      replace HB := Aside0.mk (Qah HB.out)
      have p803 : 0 ≤ (x14_1 : Int) := Ze
      have q803 : x14_1 < (t791.length : Int) := Ze
      obtain ⟨ad803, e803, hx803_0, hx803_1, hx803_2, hx803_3⟩ := at_T46 (Kd.R_reads' HO_13.out).2.2 x14_1 p803 q803
      obtain rfl : ad794 = ad803 := (by injection e803)
      replace p803 := eq_true p803
      replace q803 := eq_true q803
      refine start_ (n := 13) (S := fun w' => w'.cell? ⟨gb802, 0, none⟩ = some (.string t795) ∧ w'.cell? ⟨gb802, 1, none⟩ = some (.int .i64 t796) ∧ w'.cell? ⟨gb802, 2, none⟩ = some (.int .i64 t797) ∧ w'.cell? ⟨gb802, 3, none⟩ = some (.int .i64 t798) ∧ w'.cell? ⟨gb802, 4, none⟩ = some (.int .i64 t799) ∧ w'.cell? ⟨gb802, 5, none⟩ = some (.int .i64 t800) ∧ w'.cell? (ad794.add ((x14_1).toNat * 4)) = some (.string ((rd_T46 t791 x14_1).f0.f0)) ∧ w'.cell? ⟨(ad794.add ((x14_1).toNat * 4)).block, (ad794.add ((x14_1).toNat * 4)).off + 1, none⟩ = some (.string ((rd_T46 t791 x14_1).f0.f1)) ∧ w'.cell? ⟨(ad794.add ((x14_1).toNat * 4)).block, (ad794.add ((x14_1).toNat * 4)).off + 2, none⟩ = some (.string ((rd_T46 t791 x14_1).f1)) ∧ w'.cell? ⟨(ad794.add ((x14_1).toNat * 4)).block, (ad794.add ((x14_1).toNat * 4)).off + 3, none⟩ = some (.int .i64 ((rd_T46 t791 x14_1).f2))) (ds := []) #[F, F, F, F, F, F, F, F, F, F, F, F, F] (by kernel_rfl) rfl rfl ⟨(Qai BK802.out 0).trans rfl, (Qai BK802.out 1).trans rfl, (Qai BK802.out 2).trans rfl, (Qai BK802.out 3).trans rfl, (Qai BK802.out 4).trans rfl, (Qai BK802.out 5).trans rfl, hx803_0, hx803_1, hx803_2, hx803_3⟩ (fun hHeld => ?_); refine QbV Qaz.tab10 Qaz.bits10 (fun HT_ HW_ => ?_)
      generalize w31.drew = w32 at HO_13 BK786 BK787 BK788 BK802 HB hx803_0 hx803_1 hx803_2 hx803_3 hHeld ⊢
      refine pure_ (i := 1) (N := some 52) (v := ?_) (a' := ?_) #[F, T, F, F, F, F, F, F, F, F, F, F, F] rfl rfl (any_of HT_.out (by kernel_rfl)) (fun _ _ _ h => h) (Or.inl ⟨by rfl, ?_⟩) ?_ ?_
      rotate_left
      ·intro w'
       go_simp
       with_reducible rfl
      rotate_left
      ·simp only [Act.put, Zj, Zk, Zm, i64_w, i32_w]
       rfl
      refine pure_ (i := 2) (N := some 53) (v := ?_) (a' := ?_) #[F, T, T, F, F, F, F, F, F, F, F, F, F] rfl rfl (any_of HT_.out (by kernel_rfl)) (fun _ _ _ h => h) (Or.inl ⟨by rfl, ?_⟩) ?_ ?_
      rotate_left
      ·intro w'
       go_simp
       with_reducible rfl
      rotate_left
      ·simp only [Act.put, Zj, Zk, Zm, i64_w, i32_w]
       rfl
      refine pure_ (i := 3) (N := some 54) (v := ?_) (a' := ?_) #[F, T, T, T, F, F, F, F, F, F, F, F, F] rfl rfl (any_of HT_.out (by kernel_rfl)) (fun _ _ _ h => h) (Or.inl ⟨by rfl, ?_⟩) ?_ ?_
      rotate_left
      ·intro w'
       go_simp
       with_reducible rfl
      rotate_left
      ·simp only [Act.put, Zj, Zk, Zm, i64_w, i32_w]
       rfl
      refine pure_ (i := 4) (N := some 55) (v := ?_) (a' := ?_) #[F, T, T, T, T, F, F, F, F, F, F, F, F] rfl rfl (any_of HT_.out (by kernel_rfl)) (fun _ _ _ h => h) (Or.inl ⟨by rfl, ?_⟩) ?_ ?_
      rotate_left
      ·intro w'
       go_simp
       with_reducible rfl
      rotate_left
      ·simp only [Act.put, Zj, Zk, Zm, i64_w, i32_w]
       rfl
      refine pure_ (i := 6) (N := some 57) (v := ?_) (a' := ?_) #[F, T, T, T, T, F, T, F, F, F, F, F, F] rfl rfl (any_of HT_.out (by kernel_rfl)) (fun _ _ _ h => h) (Or.inl ⟨by rfl, ?_⟩) ?_ ?_
      rotate_left
      ·intro w'
       go_simp
       with_reducible rfl
      rotate_left
      ·simp only [Act.put, Zj, Zk, Zm, i64_w, i32_w]
       rfl
      refine take_ (i := 0) (N := some 51) (v := ?_) (a' := ?_) #[T, T, T, T, T, F, T, F, F, F, F, F, F] rfl rfl (QbI HT_.out HW_.out (by kernel_rfl)) (fun _ _ _ h => h) (Or.inl ⟨by rfl, ?_⟩) hHeld ?_ ?_
      rotate_left
      ·rintro w' ⟨s0, s1, s2, s3, s4, s5, s6, s7, s8, s9⟩
       go_simp
       with_reducible rfl
      rotate_left
      ·simp only [Act.put, Zj, Zk, Zm, i64_w, i32_w]
       rfl
      refine take_ (i := 5) (N := some 56) (v := ?_) (a' := ?_) #[T, T, T, T, T, T, T, F, F, F, F, F, F] rfl rfl (QbI HT_.out HW_.out (by kernel_rfl)) (fun _ _ _ h => h) (Or.inl ⟨by rfl, ?_⟩) hHeld ?_ ?_
      rotate_left
      ·rintro w' ⟨s0, s1, s2, s3, s4, s5, s6, s7, s8, s9⟩
       go_simp
       with_reducible rfl
      rotate_left
      ·simp only [Act.put, Zj, Zk, Zm, i64_w, i32_w]
       rfl
      refine one_ (i := 7) (N := some 58) #[T, T, T, T, T, T, T, T, F, F, F, F, F] rfl rfl (one_of HT_.out (by kernel_rfl)) (by decide) (fun K hK => ?_)
      refine goes_ Try.func42 (by kernel_rfl) rfl #[.agg #[.string t795, .int .i64 t796, .int .i64 t797, .int .i64 t798, .int .i64 t799, .int .i64 t800], .int .i64 ((rd_T46 t791 x14_1).f2), .slice A3 l3.length c3] (by rfl) rfl rfl (Zl) ?_
      with_reducible refine (Qa9.calls k1 t795 t796 t797 t798 t799 t800 ((rd_T46 t791 x14_1).f2) _ _ l3 t804 t805 _ ?side1 ?side2 A23.out).mono ?_
      (case side1 => exact Zv (Kd.C_below HR3.out HB.out))
      (case side2 => exact HC3.out)
      rintro e w33 ⟨rfl, hb⟩
      have HS6_ := (hb.cell (World.block_lt_of_cell? _ _ (hHeld.2.2.2.2.2.2.1))).trans (hHeld.2.2.2.2.2.2.1)
      have HS7_ := (hb.cell (World.block_lt_of_cell? _ _ (hHeld.2.2.2.2.2.2.2.1))).trans (hHeld.2.2.2.2.2.2.2.1)
      have HS8_ := (hb.cell (World.block_lt_of_cell? _ _ (hHeld.2.2.2.2.2.2.2.2.1))).trans (hHeld.2.2.2.2.2.2.2.2.1)
      have HS9_ := (hb.cell (World.block_lt_of_cell? _ _ (hHeld.2.2.2.2.2.2.2.2.2))).trans (hHeld.2.2.2.2.2.2.2.2.2)
      refine ⟨_, rfl, ?_⟩
      replace HO_13 := Aside0.mk (Kd.R_below (Zr HO_13.out) hb)
      replace BK786 := Aside0.mk (Zi BK786.out hb)
      replace BK787 := Aside0.mk (Zi BK787.out hb)
      replace BK788 := Aside0.mk (Zi BK788.out hb)
      replace BK802 := Aside0.mk (Zi BK802.out hb)
      replace HB := Aside0.mk (Qao (Zc4 GE786.out GE787.out GE788.out GE802.out) hb)
      (try clear hb)
      (try clear hb2)
      (try clear hk)
      (try clear hi)
      refine hK.out _ _ ⟨(Qai BK802.out 0).trans rfl, (Qai BK802.out 1).trans rfl, (Qai BK802.out 2).trans rfl, (Qai BK802.out 3).trans rfl, (Qai BK802.out 4).trans rfl, (Qai BK802.out 5).trans rfl, HS6_, HS7_, HS8_, HS9_⟩ (fun hHeld => ?_)
      clear hK K
      refine norm_ (a' := ?_) ?_ ?_
      rotate_left
      ·show Act.put _ (some 58) _ = _
       simp only [Act.put, Zj, Zk, Zm, i64_w, i32_w]
       rfl
      refine pure_ (i := 8) (N := some 50) (v := ?_) (a' := ?_) #[T, T, T, T, T, T, T, T, T, F, F, F, F] rfl rfl (any_of HT_.out (by kernel_rfl)) (fun _ _ _ h => h) (Or.inl ⟨by rfl, ?_⟩) ?_ ?_
      rotate_left
      ·intro w'
       go_simp
       with_reducible rfl
      rotate_left
      ·simp only [Act.put, Zj, Zk, Zm, i64_w, i32_w]
       rfl
      refine pure_ (i := 9) (N := some 59) (v := ?_) (a' := ?_) #[T, T, T, T, T, T, T, T, T, T, F, F, F] rfl rfl (any_of HT_.out (by kernel_rfl)) (fun _ _ _ h => h) (Or.inl ⟨by rfl, ?_⟩) ?_ ?_
      rotate_left
      ·intro w'
       go_simp
       with_reducible rfl
      rotate_left
      ·simp only [Act.put, Zj, Zk, Zm, i64_w, i32_w]
       rfl
      refine pure_ (i := 10) (N := some 60) (v := ?_) (a' := ?_) #[T, T, T, T, T, T, T, T, T, T, T, F, F] rfl rfl (any_of HT_.out (by kernel_rfl)) (fun _ _ _ h => h) (Or.inl ⟨by rfl, ?_⟩) ?_ ?_
      rotate_left
      ·intro w'
       go_simp
       with_reducible rfl
      rotate_left
      ·simp only [Act.put, Zj, Zk, Zm, i64_w, i32_w]
       rfl
      refine pure_ (i := 11) (N := some 17) (v := ?_) (a' := ?_) #[T, T, T, T, T, T, T, T, T, T, T, T, F] rfl rfl (any_of HT_.out (by kernel_rfl)) (fun _ _ _ h => h) (Or.inl ⟨by rfl, ?_⟩) ?_ ?_
      rotate_left
      ·intro w'
       go_simp
       with_reducible rfl
      rotate_left
      ·simp only [Act.put, Zj, Zk, Zm, i64_w, i32_w]
       rfl
      refine pure_ (i := 12) (N := some 18) (v := ?_) (a' := ?_) #[T, T, T, T, T, T, T, T, T, T, T, T, T] rfl rfl (any_of HT_.out (by kernel_rfl)) (fun _ _ _ h => h) (Or.inl ⟨by rfl, ?_⟩) ?_ ?_
      rotate_left
      ·intro w'
       go_simp
       with_reducible rfl
      rotate_left
      ·simp only [Act.put, Zj, Zk, Zm, i64_w, i32_w]
       rfl
      refine done_ (Qb4 HT_.out (by kernel_rfl)) ?_
      obtain ⟨hcz34_0, hfz34_0⟩ := Zy (v := (.string t795)) BK802.out 0
      obtain ⟨hcz34_1, hfz34_1⟩ := Zy (v := (.int .i64 t796)) BK802.out 1
      obtain ⟨hcz34_2, hfz34_2⟩ := Zy (v := (.int .i64 t797)) BK802.out 2
      obtain ⟨hcz34_3, hfz34_3⟩ := Zy (v := (.int .i64 t798)) BK802.out 3
      obtain ⟨hcz34_4, hfz34_4⟩ := Zy (v := (.int .i64 t799)) BK802.out 4
      obtain ⟨hcz34_5, hfz34_5⟩ := Zy (v := (.int .i64 t800)) BK802.out 5
      have hnb35 := NB788_786.out
      have hnc35 := NB786_788.out
      have hnb36 := NB788_787.out
      have hnc36 := NB787_788.out
      obtain ⟨hcz37_0, hfz37_0⟩ := Zy (v := (.int .i64 x789000_1)) BK788.out 0
      obtain ⟨hcz37_1, hfz37_1⟩ := Zy (v := (.int .i64 x789001_1)) BK788.out 1
      obtain ⟨hcz37_2, hfz37_2⟩ := Zy (v := (.int .i64 x789002_1)) BK788.out 2
      obtain ⟨hcz37_3, hfz37_3⟩ := Zy (v := (.int .i64 x789003_1)) BK788.out 3
      have H := H'.out
      clear H'
      by_cases c24_0 : t796 = 0
      ·rw [if_pos c24_0] at H
       have H' := Aside0.mk H
       clear H
       subst c24_0
       try go_wp2
       go_roundg k1
       case measure => have := HK1.out; omega
       case rel => exact ⟨(wrap64 (x14_1 + 1)), (wrap64 (x789000_1 + t804)), (x789001_1), (x789002_1), (x789003_1), (Zs), H', ⟨by have := HK1.out; omega⟩, ⟨by (with_reducible repeat (first | apply Kd.R_alloc | apply Kd.R_drewN | apply Kd.R_drew)); exact Kd.R_mono (Zf gb788 0 (Kd.R_types HO_13.out BK788.out (by decide)) (.int .i64 (wrap64 (x789000_1 + t804)))) (fun _ hk => trivial)⟩, ⟨Zg1 BK786.out NB786_788.out⟩, ⟨Zg1 BK787.out NB787_788.out⟩, ⟨Zp2 BK788.out⟩, ⟨Zc4 GE786.out GE787.out GE788.out GE802.out⟩⟩
      rw [if_neg c24_0] at H
      by_cases c24_1 : t796 = 1
      ·rw [if_pos c24_1] at H
       have H' := Aside0.mk H
       clear H
       subst c24_1
       try go_wp2
       go_roundg k1
       case measure => have := HK1.out; omega
       case rel => exact ⟨(wrap64 (x14_1 + 1)), (x789000_1), (wrap64 (x789001_1 + t804)), (x789002_1), (x789003_1), (Zs), H', ⟨by have := HK1.out; omega⟩, ⟨by (with_reducible repeat (first | apply Kd.R_alloc | apply Kd.R_drewN | apply Kd.R_drew)); exact Kd.R_mono (Zf gb788 1 (Kd.R_types HO_13.out BK788.out (by decide)) (.int .i64 (wrap64 (x789001_1 + t804)))) (fun _ hk => trivial)⟩, ⟨Zg1 BK786.out NB786_788.out⟩, ⟨Zg1 BK787.out NB787_788.out⟩, ⟨Zp2 BK788.out⟩, ⟨Zc4 GE786.out GE787.out GE788.out GE802.out⟩⟩
      rw [if_neg c24_1] at H
      by_cases c24_2 : t796 = 2
      ·rw [if_pos c24_2] at H
       have H' := Aside0.mk H
       clear H
       subst c24_2
       try go_wp2
       go_roundg k1
       case measure => have := HK1.out; omega
       case rel => exact ⟨(wrap64 (x14_1 + 1)), (x789000_1), (x789001_1), (wrap64 (x789002_1 + t804)), (x789003_1), (Zs), H', ⟨by have := HK1.out; omega⟩, ⟨by (with_reducible repeat (first | apply Kd.R_alloc | apply Kd.R_drewN | apply Kd.R_drew)); exact Kd.R_mono (Zf gb788 2 (Kd.R_types HO_13.out BK788.out (by decide)) (.int .i64 (wrap64 (x789002_1 + t804)))) (fun _ hk => trivial)⟩, ⟨Zg1 BK786.out NB786_788.out⟩, ⟨Zg1 BK787.out NB787_788.out⟩, ⟨Zp2 BK788.out⟩, ⟨Zc4 GE786.out GE787.out GE788.out GE802.out⟩⟩
      rw [if_neg c24_2] at H
      by_cases c24_3 : t796 = 3
      ·rw [if_pos c24_3] at H
       have H' := Aside0.mk H
       clear H
       subst c24_3
       try go_wp2
       go_roundg k1
       case measure => have := HK1.out; omega
       case rel => exact ⟨(wrap64 (x14_1 + 1)), (x789000_1), (x789001_1), (x789002_1), (wrap64 (x789003_1 + t804)), (Zs), H', ⟨by have := HK1.out; omega⟩, ⟨by (with_reducible repeat (first | apply Kd.R_alloc | apply Kd.R_drewN | apply Kd.R_drew)); exact Kd.R_mono (Zf gb788 3 (Kd.R_types HO_13.out BK788.out (by decide)) (.int .i64 (wrap64 (x789003_1 + t804)))) (fun _ hk => trivial)⟩, ⟨Zg1 BK786.out NB786_788.out⟩, ⟨Zg1 BK787.out NB787_788.out⟩, ⟨Zp2 BK788.out⟩, ⟨Zc4 GE786.out GE787.out GE788.out GE802.out⟩⟩
      rw [if_neg c24_3] at H
      exact absurd H (by simp)
     rw [if_neg c21] at H
     exact absurd H (by simp)
    rw [if_neg c20] at H
    have c20b0 : decide (x14_1 < (t791.length : Int)) = F := decide_eq_false c20
    clear c20
    (try simp only [c20b0])
    simp only [Option.some.injEq, Prod.mk.injEq] at H
    obtain ⟨rfl, rfl, rfl, rfl, rfl⟩ := H
    have hnb80 := NB788_786.out
    have hnc80 := NB786_788.out
    have hnb81 := NB788_787.out
    have hnc81 := NB787_788.out
    obtain ⟨hcz82_0, hfz82_0⟩ := Zy (v := (.int .i64 x789000_1)) BK788.out 0
    obtain ⟨hcz82_1, hfz82_1⟩ := Zy (v := (.int .i64 x789001_1)) BK788.out 1
    obtain ⟨hcz82_2, hfz82_2⟩ := Zy (v := (.int .i64 x789002_1)) BK788.out 2
    obtain ⟨hcz82_3, hfz82_3⟩ := Zy (v := (.int .i64 x789003_1)) BK788.out 3
    have hnb83 := NB787_786.out
    have hnc83 := NB786_787.out
    obtain ⟨hcz84_0, hfz84_0⟩ := Zy (v := (.int .i64 0)) BK787.out 0
    obtain ⟨hcz84_1, hfz84_1⟩ := Zy (v := (.int .i64 0)) BK787.out 1
    obtain ⟨hcz84_2, hfz84_2⟩ := Zy (v := (.int .i64 0)) BK787.out 2
    obtain ⟨hcz84_3, hfz84_3⟩ := Zy (v := (.int .i64 0)) BK787.out 3
    go_wp2
    refine bodyPost_ret (QbX rfl _ _ gb787 74 #[.int .i64 x789000_1, .int .i64 x789001_1, .int .i64 x789002_1, .int .i64 x789003_1] (0, 0) _ rfl (Zp2 BK787.out) Try.underlying74 rfl (by kernel_rfl)) rfl ?_
    exact ⟨Zq, Zc3 GE786.out GE787.out GE788.out⟩
 rw [if_neg c13] at H
 have c13b0 : (t790 == 0) = F := beq_eq_false_iff_ne.mpr c13
 have c13b1 : (t790 != 0) = T := bne_iff_ne.mpr c13
 (try simp only [c13b0, c13b1])
 simp only [Option.some.injEq, Prod.mk.injEq] at H
 obtain ⟨rfl, rfl, rfl, rfl, rfl⟩ := H
 have hnb85 := NB788_786.out
 have hnc85 := NB786_788.out
 have hnb86 := NB788_787.out
 have hnc86 := NB787_788.out
 obtain ⟨hcz87_0, hfz87_0⟩ := Zy (v := (.int .i64 0)) BK788.out 0
 obtain ⟨hcz87_1, hfz87_1⟩ := Zy (v := (.int .i64 0)) BK788.out 1
 obtain ⟨hcz87_2, hfz87_2⟩ := Zy (v := (.int .i64 0)) BK788.out 2
 obtain ⟨hcz87_3, hfz87_3⟩ := Zy (v := (.int .i64 0)) BK788.out 3
 have hnb88 := NB787_786.out
 have hnc88 := NB786_787.out
 obtain ⟨hcz89_0, hfz89_0⟩ := Zy (v := (.int .i64 0)) BK787.out 0
 obtain ⟨hcz89_1, hfz89_1⟩ := Zy (v := (.int .i64 0)) BK787.out 1
 obtain ⟨hcz89_2, hfz89_2⟩ := Zy (v := (.int .i64 0)) BK787.out 2
 obtain ⟨hcz89_3, hfz89_3⟩ := Zy (v := (.int .i64 0)) BK787.out 3
 go_wp2
 refine bodyPost_ret (QbX rfl _ _ gb787 74 #[.int .i64 0, .int .i64 0, .int .i64 0, .int .i64 0] (0, 0) _ rfl (Zp2 BK787.out) Try.underlying74 rfl (by kernel_rfl)) rfl ?_
 exact ⟨Zq, Zc3 GE786.out GE787.out GE788.out⟩
end Go.Proofs.Ytfcaaefdmabkhaa.Pr
