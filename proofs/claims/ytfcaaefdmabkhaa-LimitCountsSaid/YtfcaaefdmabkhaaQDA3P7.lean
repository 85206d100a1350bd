/- Functions' values and contracts, as the print wrote them. -/
import Derived.Test.YtfcaaefdmabkhaaQDA3P0
import Derived.Test.YtfcaaefdmabkhaaQDA3P4
import Derived.Test.YtfcaaefdmabkhaaQDA3P2
import Derived.Test.YtfcaaefdmabkhaaQDA3P6
import Derived.Test.YtfcaaefdmabkhaaQDA3P1
import Derived.Test.YtfcaaefdmabkhaaQDA3P3
namespace Go.Proofs.Ytfcaaefdmabkhaa.Pr
open Bool renaming true → T
open Bool renaming false → F
open Go.RowKit Go.Proofs.YtfcaaefdmabkhaaW.PrintWords Go.Proofs.YtfcaaefdmabkhaaW.PrintLast Go.Proofs.YtfcaaefdmabkhaaW.PrintMore
attribute [local go_sem] QaQ QaS Qa1 Qa2 QaJ QaK QaR QaT   -- for this text's walks alone
set_option linter.unusedVariables false
set_option linter.unusedSimpArgs false
set_option maxRecDepth 100000
set_option maxHeartbeats 8000000
def QaZ.l0 : Nat → Int → Int → List (S46) → ByteArray → ByteArray → ByteArray → Int → List (S84) → List (S98) → Option (Int × Int)
 | 0, _, _, _, _, _, _, _, _, _ => none
 | k + 1, x305, x306, x654000, x655000, x655001, x656000, x657000, x658000, x659000 => if x305 < x306 then (if (wrap64 ((IntKind.u64.wrap (wrap64 (x305 + x306))) / 2)) > 0 then ((Qbe.f k x654000 x655000 x655001 x656000 (wrap64 ((IntKind.u64.wrap (wrap64 (x305 + x306))) / 2))).bind fun bt671 => (if bt671.2 = 0 then ((Qbc.f k bt671.1 x655000 x655001 x657000 x658000 x659000).bind fun bt675 => (if bt675.2 = 0 then (if bt675.1 ≥ x657000 then (QaZ.l0 k (wrap64 ((wrap64 ((IntKind.u64.wrap (wrap64 (x305 + x306))) / 2)) + 1)) x306 x654000 x655000 x655001 x656000 x657000 x658000 x659000) else (QaZ.l0 k x305 (wrap64 ((IntKind.u64.wrap (wrap64 (x305 + x306))) / 2)) x654000 x655000 x655001 x656000 x657000 x658000 x659000)) else (QaZ.l0 k x305 (wrap64 ((IntKind.u64.wrap (wrap64 (x305 + x306))) / 2)) x654000 x655000 x655001 x656000 x657000 x658000 x659000))) else (QaZ.l0 k x305 (wrap64 ((IntKind.u64.wrap (wrap64 (x305 + x306))) / 2)) x654000 x655000 x655001 x656000 x657000 x658000 x659000))) else ((Qbc.f k x654000 x655000 x655001 x657000 x658000 x659000).bind fun bt677 => (if bt677.2 = 0 then (if bt677.1 ≥ x657000 then (QaZ.l0 k (wrap64 ((wrap64 ((IntKind.u64.wrap (wrap64 (x305 + x306))) / 2)) + 1)) x306 x654000 x655000 x655001 x656000 x657000 x658000 x659000) else (QaZ.l0 k x305 (wrap64 ((IntKind.u64.wrap (wrap64 (x305 + x306))) / 2)) x654000 x655000 x655001 x656000 x657000 x658000 x659000)) else (QaZ.l0 k x305 (wrap64 ((IntKind.u64.wrap (wrap64 (x305 + x306))) / 2)) x654000 x655000 x655001 x656000 x657000 x658000 x659000)))) else (some (mx (wrap64 (x305 - 1)) 0, 0))
def QaZ.f (k : Nat) (l0 : List (S46)) (a1_0 : ByteArray) (a1_1 : ByteArray) (a2 : ByteArray) (a3 : Int) (l4 : List (S84)) (l5 : List (S98)) : Option (Int × Int) := (Qbc.f k l0 a1_0 a1_1 a3 l4 l5).bind fun bt659 => (if bt659.2 = 0 then ((Qbf.f k l4 a2).bind fun bt661 => (if bt661.2.2.2.2.2.2 = T then ((Qbp.f k l0 a1_0 a1_1 a2).bind fun t670 => (QaZ.l0 k 0 (wrap64 (t670 + 1)) l0 a1_0 a1_1 a2 a3 l4 l5)) else (some (0, 11)))) else (some (0, bt659.2)))
theorem QaZ.mono_l : ∀ k, (∀ y0 y1 y2 y3 y4 y5 y6 y7 y8, LeO (QaZ.l0 k y0 y1 y2 y3 y4 y5 y6 y7 y8) (QaZ.l0 (k + 1) y0 y1 y2 y3 y4 y5 y6 y7 y8))
 | 0 => fun _ _ _ _ _ _ _ _ _ r h => by simp [QaZ.l0] at h
 | k + 1 => by
  have ih0 := QaZ.mono_l k
  intro y0 y1 y2 y3 y4 y5 y6 y7 y8
  unfold QaZ.l0
  exact ZM5 ih0 Qbf.mono Qbc.mono Qbp.mono Qbe.mono
theorem QaZ.mono : ∀ a0 a1 a2 a3 a4 a5 a6 k, LeO (QaZ.f k a0 a1 a2 a3 a4 a5 a6) (QaZ.f (k + 1) a0 a1 a2 a3 a4 a5 a6) := by
 intro a0 a1 a2 a3 a4 a5 a6 k
 have ih0 := QaZ.mono_l k
 unfold QaZ.f
 exact ZM5 ih0 Qbf.mono Qbc.mono Qbp.mono Qbe.mono
theorem QaZ.calls (k : Nat) (A0 : Option Addr) (c0 : Nat) (l0 : List (S46)) (a1_0 : ByteArray) (a1_1 : ByteArray) (a2 : ByteArray) (a3 : Int) (A4 : Option Addr) (c4 : Nat) (l4 : List (S84)) (A5 : Option Addr) (c5 : Nat) (l5 : List (S98)) (r1 : Int) (r2 : Int) (w : World) (hr0 : Kd.C k46 w A0 l0.length l0) (hc0 : l0.length ≤ c0) (hr4 : Kd.C k84 w A4 l4.length l4) (hc4 : l4.length ≤ c4) (hr5 : Kd.C k98 w A5 l5.length l5) (hc5 : l5.length ≤ c5) (h : QaZ.f k l0 a1_0 a1_1 a2 a3 l4 l5 = some (r1, r2)) :
  Calls Try.prog 33 #[.slice A0 l0.length c0, .agg #[.string a1_0, .string a1_1], .string a2, .int .i64 a3, .slice A4 l4.length c4, .slice A5 l5.length c5] w fun e w' => e = .returned (.tuple #[.int .i64 r1, .int .i64 r2]) ∧ Below w.heap.size w w' := by
 have hu44 := Try.underlying44
 have hu84 := Try.underlying84
 have HR0 := Aside0.mk hr0
 have HC0 := Aside0.mk hc0
 clear hr0 hc0
 have HR4 := Aside0.mk hr4
 have HC4 := Aside0.mk hc4
 clear hr4 hc4
 have HR5 := Aside0.mk hr5
 have HC5 := Aside0.mk hc5
 clear hr5 hc5
 have HB := Aside0.mk (Below.refl w.heap.size w)
 have H : ((Qbc.f k l0 a1_0 a1_1 a3 l4 l5).bind fun bt659 => (if bt659.2 = 0 then ((Qbf.f k l4 a2).bind fun bt661 => (if bt661.2.2.2.2.2.2 = T then ((Qbp.f k l0 a1_0 a1_1 a2).bind fun t670 => (QaZ.l0 k 0 (wrap64 (t670 + 1)) l0 a1_0 a1_1 a2 a3 l4 l5)) else (some (0, 11)))) else (some (0, bt659.2)))) = some (r1, r2) := h
 clear h
 replace H := Option.bind_eq_some_iff.mp H
 obtain ⟨⟨t659, t660⟩, A70, H⟩ := H
 replace H : (if t660 = 0 then ((Qbf.f k l4 a2).bind fun bt661 => (if bt661.2.2.2.2.2.2 = T then ((Qbp.f k l0 a1_0 a1_1 a2).bind fun t670 => (QaZ.l0 k 0 (wrap64 (t670 + 1)) l0 a1_0 a1_1 a2 a3 l4 l5)) else (some (0, 11)))) else (some (0, t660))) = some (r1, r2) := H
 have A7 := Aside0.mk A70
 clear A70
 go_enter Try.func33, Try.ntmps33
 go_upto_if 29 with (first | ((with_reducible refine QaL (N := 6) rfl ?_); (refine gate_n (n := 51) rfl ?_); refine Zbx (N := 6) (cs := #[.slice A0 l0.length c0]) (t := 30) ?_; intro gb653 hg w8 hbox hb; have BK653 := Aside0.mk (hbox); have GW653 := Aside0.mk (Zt w hg (Zb)); have GE653 := GW653; replace HB := Aside0.mk (Qan (Zb) hb); clear hb hbox hg) | ((with_reducible refine QaL (N := 7) rfl ?_); (refine gate_n (n := 51) rfl ?_); refine Zbx (N := 7) (cs := #[.string a1_0, .string a1_1]) (t := 44) ?_; intro gb654 hg w9 hbox hb; have BK654 := Aside0.mk (hbox); have GW654 := Aside0.mk (Zt w hg (Zc1 GE653.out)); have GE654 := GW654; have NB653_654 := Aside0.mk (Zn hg BK653.out); have NB654_653 := Aside0.mk NB653_654.out.symm; replace BK653 := Aside0.mk (Zi BK653.out hb); replace HB := Aside0.mk (Qan (Zc1 GE653.out) hb); clear hb hbox hg) | ((with_reducible refine QaL (N := 8) rfl ?_); (refine gate_n (n := 51) rfl ?_); refine Zbx (N := 8) (cs := #[.string a2]) (t := 9) ?_; intro gb655 hg w10 hbox hb; have BK655 := Aside0.mk (hbox); have GW655 := Aside0.mk (Zt w hg (Zc2 GE653.out GE654.out)); have GE655 := GW655; have NB653_655 := Aside0.mk (Zn hg BK653.out); have NB655_653 := Aside0.mk NB653_655.out.symm; have NB654_655 := Aside0.mk (Zn hg BK654.out); have NB655_654 := Aside0.mk NB654_655.out.symm; replace BK653 := Aside0.mk (Zi BK653.out hb); replace BK654 := Aside0.mk (Zi BK654.out hb); replace HB := Aside0.mk (Qan (Zc2 GE653.out GE654.out) hb); clear hb hbox hg) | ((with_reducible refine QaL (N := 9) rfl ?_); (refine gate_n (n := 51) rfl ?_); refine Zbx (N := 9) (cs := #[.int .i64 a3]) (t := 3) ?_; intro gb656 hg w11 hbox hb; have BK656 := Aside0.mk (hbox); have GW656 := Aside0.mk (Zt w hg (Zc3 GE653.out GE654.out GE655.out)); have GE656 := GW656; have NB653_656 := Aside0.mk (Zn hg BK653.out); have NB656_653 := Aside0.mk NB653_656.out.symm; have NB654_656 := Aside0.mk (Zn hg BK654.out); have NB656_654 := Aside0.mk NB654_656.out.symm; have NB655_656 := Aside0.mk (Zn hg BK655.out); have NB656_655 := Aside0.mk NB655_656.out.symm; replace BK653 := Aside0.mk (Zi BK653.out hb); replace BK654 := Aside0.mk (Zi BK654.out hb); replace BK655 := Aside0.mk (Zi BK655.out hb); replace HB := Aside0.mk (Qan (Zc3 GE653.out GE654.out GE655.out) hb); clear hb hbox hg) | ((with_reducible refine QaL (N := 10) rfl ?_); (refine gate_n (n := 51) rfl ?_); refine Zbx (N := 10) (cs := #[.slice A4 l4.length c4]) (t := 31) ?_; intro gb657 hg w12 hbox hb; have BK657 := Aside0.mk (hbox); have GW657 := Aside0.mk (Zt w hg (Zc4 GE653.out GE654.out GE655.out GE656.out)); have GE657 := GW657; have NB653_657 := Aside0.mk (Zn hg BK653.out); have NB657_653 := Aside0.mk NB653_657.out.symm; have NB654_657 := Aside0.mk (Zn hg BK654.out); have NB657_654 := Aside0.mk NB654_657.out.symm; have NB655_657 := Aside0.mk (Zn hg BK655.out); have NB657_655 := Aside0.mk NB655_657.out.symm; have NB656_657 := Aside0.mk (Zn hg BK656.out); have NB657_656 := Aside0.mk NB656_657.out.symm; replace BK653 := Aside0.mk (Zi BK653.out hb); replace BK654 := Aside0.mk (Zi BK654.out hb); replace BK655 := Aside0.mk (Zi BK655.out hb); replace BK656 := Aside0.mk (Zi BK656.out hb); replace HB := Aside0.mk (Qan (Zc4 GE653.out GE654.out GE655.out GE656.out) hb); clear hb hbox hg) | ((with_reducible refine QaL (N := 11) rfl ?_); (refine gate_n (n := 51) rfl ?_); refine Zbx (N := 11) (cs := #[.slice A5 l5.length c5]) (t := 32) ?_; intro gb658 hg w13 hbox hb; have BK658 := Aside0.mk (hbox); have GW658 := Aside0.mk (Zt w hg (Zc5 GE653.out GE654.out GE655.out GE656.out GE657.out)); have GE658 := GW658; have NB653_658 := Aside0.mk (Zn hg BK653.out); have NB658_653 := Aside0.mk NB653_658.out.symm; have NB654_658 := Aside0.mk (Zn hg BK654.out); have NB658_654 := Aside0.mk NB654_658.out.symm; have NB655_658 := Aside0.mk (Zn hg BK655.out); have NB658_655 := Aside0.mk NB655_658.out.symm; have NB656_658 := Aside0.mk (Zn hg BK656.out); have NB658_656 := Aside0.mk NB656_658.out.symm; have NB657_658 := Aside0.mk (Zn hg BK657.out); have NB658_657 := Aside0.mk NB657_658.out.symm; replace BK653 := Aside0.mk (Zi BK653.out hb); replace BK654 := Aside0.mk (Zi BK654.out hb); replace BK655 := Aside0.mk (Zi BK655.out hb); replace BK656 := Aside0.mk (Zi BK656.out hb); replace BK657 := Aside0.mk (Zi BK657.out hb); replace HB := Aside0.mk (Qan (Zc5 GE653.out GE654.out GE655.out GE656.out GE657.out) hb); clear hb hbox hg; have hnb14 := NB653_654.out; have hnc14 := NB654_653.out; have hnb15 := NB653_655.out; have hnc15 := NB655_653.out; have hnb16 := NB653_656.out; have hnc16 := NB656_653.out; have hnb17 := NB653_657.out; have hnc17 := NB657_653.out; have hnb18 := NB653_658.out; have hnc18 := NB658_653.out; obtain ⟨hcz19_0, hfz19_0⟩ := Zy (v := (.slice A0 l0.length c0)) BK653.out 0; have hnb20 := NB654_655.out; have hnc20 := NB655_654.out; have hnb21 := NB654_656.out; have hnc21 := NB656_654.out; have hnb22 := NB654_657.out; have hnc22 := NB657_654.out; have hnb23 := NB654_658.out; have hnc23 := NB658_654.out; obtain ⟨hcz24_0, hfz24_0⟩ := Zy (v := (.string a1_0)) BK654.out 0; obtain ⟨hcz24_1, hfz24_1⟩ := Zy (v := (.string a1_1)) BK654.out 1; have hnb25 := NB656_655.out; have hnc25 := NB655_656.out; have hnb26 := NB656_657.out; have hnc26 := NB657_656.out; have hnb27 := NB656_658.out; have hnc27 := NB658_656.out; obtain ⟨hcz28_0, hfz28_0⟩ := Zy (v := (.int .i64 a3)) BK656.out 0; have hnb29 := NB657_655.out; have hnc29 := NB655_657.out; have hnb30 := NB657_658.out; have hnc30 := NB658_657.out; obtain ⟨hcz31_0, hfz31_0⟩ := Zy (v := (.slice A4 l4.length c4)) BK657.out 0; have hnb32 := NB658_655.out; have hnc32 := NB655_658.out; obtain ⟨hcz33_0, hfz33_0⟩ := Zy (v := (.slice A5 l5.length c5)) BK658.out 0) | ((with_reducible refine Qaw (f := 30) rfl ?_); refine goesL_ (some 25) rfl rfl Try.func30 (by kernel_rfl) rfl #[.slice A0 l0.length c0, .agg #[.string a1_0, .string a1_1], .int .i64 a3, .slice A4 l4.length c4, .slice A5 l5.length c5] rfl (Zl) ?_; (with_reducible refine (Qbc.calls k _ _ l0 a1_0 a1_1 a3 _ _ l4 _ _ l5 t659 t660 _ ?side1 ?side2 ?side3 ?side4 ?side5 ?side6 A7.out).mono ?_); (case side1 => exact Zv (Kd.C_below HR0.out HB.out)); (case side2 => exact HC0.out); (case side3 => exact Zv (Kd.C_below HR4.out HB.out)); (case side4 => exact HC4.out); (case side5 => exact Zv (Kd.C_below HR5.out HB.out)); (case side6 => exact HC5.out); rintro e w34 ⟨rfl, hb⟩; refine ⟨_, rfl, ?_⟩; replace BK653 := Aside0.mk (Zi BK653.out hb); replace BK654 := Aside0.mk (Zi BK654.out hb); replace BK655 := Aside0.mk (Zi BK655.out hb); replace BK656 := Aside0.mk (Zi BK656.out hb); replace BK657 := Aside0.mk (Zi BK657.out hb); replace BK658 := Aside0.mk (Zi BK658.out hb); replace HB := Aside0.mk (Qan (Zc6 GE653.out GE654.out GE655.out GE656.out GE657.out GE658.out) hb); (try clear hb); (try clear hb2); (try clear hk); (try clear hi)))
 (try simp only [Act.put, Zj, Zk, Zm])
 by_cases c35 : t660 = 0
 ·rw [if_pos c35] at H
  have c35b0 : (t660 == 0) = T := beq_iff_eq.mpr c35
  have c35b1 : (t660 != 0) = F := bne_eq_false_iff_eq.mpr c35
  clear c35
  (try simp only [c35b0, c35b1])
  replace H := Option.bind_eq_some_iff.mp H
  obtain ⟨⟨t661, t662, t663, t664, t665, t666, t667⟩, A360, H⟩ := H
  replace H : (if t667 = T then ((Qbp.f k l0 a1_0 a1_1 a2).bind fun t670 => (QaZ.l0 k 0 (wrap64 (t670 + 1)) l0 a1_0 a1_1 a2 a3 l4 l5)) else (some (0, 11))) = some (r1, r2) := H
  have A36 := Aside0.mk A360
  clear A360
  have hnb37 := NB657_653.out
  have hnc37 := NB653_657.out
  have hnb38 := NB657_654.out
  have hnc38 := NB654_657.out
  have hnb39 := NB657_655.out
  have hnc39 := NB655_657.out
  have hnb40 := NB657_656.out
  have hnc40 := NB656_657.out
  have hnb41 := NB657_658.out
  have hnc41 := NB658_657.out
  obtain ⟨hcz42_0, hfz42_0⟩ := Zy (v := (.slice A4 l4.length c4)) BK657.out 0
  have hnb43 := NB655_653.out
  have hnc43 := NB653_655.out
  have hnb44 := NB655_654.out
  have hnc44 := NB654_655.out
  have hnb45 := NB655_656.out
  have hnc45 := NB656_655.out
  have hnb46 := NB655_658.out
  have hnc46 := NB658_655.out
  obtain ⟨hcz47_0, hfz47_0⟩ := Zy (v := (.string a2)) BK655.out 0
  go_upto_if 38 with (first | ((with_reducible refine Qaw (f := 48) rfl ?_); refine goesL_ (some 34) rfl rfl Try.func48 (by kernel_rfl) rfl #[.slice A4 l4.length c4, .string a2] rfl (Zl) ?_; (with_reducible refine (Qbf.calls k _ _ l4 a2 t661 t662 t663 t664 t665 t666 t667 _ ?side1 ?side2 A36.out).mono ?_); (case side1 => exact Zv (Kd.C_below HR4.out HB.out)); (case side2 => exact HC4.out); rintro e w48 ⟨rfl, hb⟩; refine ⟨_, rfl, ?_⟩; replace BK653 := Aside0.mk (Zi BK653.out hb); replace BK654 := Aside0.mk (Zi BK654.out hb); replace BK655 := Aside0.mk (Zi BK655.out hb); replace BK656 := Aside0.mk (Zi BK656.out hb); replace BK657 := Aside0.mk (Zi BK657.out hb); replace BK658 := Aside0.mk (Zi BK658.out hb); replace HB := Aside0.mk (Qan (Zc6 GE653.out GE654.out GE655.out GE656.out GE657.out GE658.out) hb); (try clear hb); (try clear hb2); (try clear hk); (try clear hi)) | ((with_reducible refine QaL (N := 14) rfl ?_); (refine gate_n (n := 51) rfl ?_); refine Zbx (N := 14) (cs := #[.string (⟨#[]⟩ : ByteArray), .int .i64 0, .int .i64 0, .int .i64 0, .int .i64 0, .int .i64 0]) (t := 84) ?_; intro gb668 hg w49 hbox hb; have BK668 := Aside0.mk (hbox); have GW668 := Aside0.mk (Zt w hg (Zc6 GE653.out GE654.out GE655.out GE656.out GE657.out GE658.out)); have GE668 := GW668; have NB653_668 := Aside0.mk (Zn hg BK653.out); have NB668_653 := Aside0.mk NB653_668.out.symm; have NB654_668 := Aside0.mk (Zn hg BK654.out); have NB668_654 := Aside0.mk NB654_668.out.symm; have NB655_668 := Aside0.mk (Zn hg BK655.out); have NB668_655 := Aside0.mk NB655_668.out.symm; have NB656_668 := Aside0.mk (Zn hg BK656.out); have NB668_656 := Aside0.mk NB656_668.out.symm; have NB657_668 := Aside0.mk (Zn hg BK657.out); have NB668_657 := Aside0.mk NB657_668.out.symm; have NB658_668 := Aside0.mk (Zn hg BK658.out); have NB668_658 := Aside0.mk NB658_668.out.symm; replace BK653 := Aside0.mk (Zi BK653.out hb); replace BK654 := Aside0.mk (Zi BK654.out hb); replace BK655 := Aside0.mk (Zi BK655.out hb); replace BK656 := Aside0.mk (Zi BK656.out hb); replace BK657 := Aside0.mk (Zi BK657.out hb); replace BK658 := Aside0.mk (Zi BK658.out hb); replace HB := Aside0.mk (Qan (Zc6 GE653.out GE654.out GE655.out GE656.out GE657.out GE658.out) hb); clear hb hbox hg; have hnb50 := NB668_653.out; have hnc50 := NB653_668.out; have hnb51 := NB668_654.out; have hnc51 := NB654_668.out; have hnb52 := NB668_655.out; have hnc52 := NB655_668.out; have hnb53 := NB668_656.out; have hnc53 := NB656_668.out; have hnb54 := NB668_657.out; have hnc54 := NB657_668.out; have hnb55 := NB668_658.out; have hnc55 := NB658_668.out; obtain ⟨hcz56_0, hfz56_0⟩ := Zy (v := (.string (⟨#[]⟩ : ByteArray))) BK668.out 0; obtain ⟨hcz56_1, hfz56_1⟩ := Zy (v := (.int .i64 0)) BK668.out 1; obtain ⟨hcz56_2, hfz56_2⟩ := Zy (v := (.int .i64 0)) BK668.out 2; obtain ⟨hcz56_3, hfz56_3⟩ := Zy (v := (.int .i64 0)) BK668.out 3; obtain ⟨hcz56_4, hfz56_4⟩ := Zy (v := (.int .i64 0)) BK668.out 4; obtain ⟨hcz56_5, hfz56_5⟩ := Zy (v := (.int .i64 0)) BK668.out 5) | ((with_reducible refine Qdq (t := 84) (p := 14) rfl ?_); (refine gate_n (n := 51) rfl ?_); refine Qdd (t := 84) (p := 14) (v := ?vo_w57) (w1 := ((((((w49.setCell ⟨gb668, 0, none⟩ (.string t661)).setCell ⟨gb668, 1, none⟩ (.int .i64 t662)).setCell ⟨gb668, 2, none⟩ (.int .i64 t663)).setCell ⟨gb668, 3, none⟩ (.int .i64 t664)).setCell ⟨gb668, 4, none⟩ (.int .i64 t665)).setCell ⟨gb668, 5, none⟩ (.int .i64 t666))) ?hg ?ho ?hn ?hr ?_; (case ho => rfl); (case hg => rfl); (case hn => rfl); (case hr => first | (exact QcT (cs := #[.string (⟨#[]⟩ : ByteArray), .int .i64 0, .int .i64 0, .int .i64 0, .int .i64 0, .int .i64 0]) (seg := [.string t661, .int .i64 t662, .int .i64 t663, .int .i64 t664, .int .i64 t665, .int .i64 t666]) BK668.out rfl (by first | rfl | (go_simp; done)) (by first | rfl | (go_simp; done)) (by rfl) (by first | rfl | kernel_rfl) (by simp) (by first | rfl | simp [Value.oneCell'])) | (go_simp; done) | (go_simp; rfl)); intro w57 hw; replace BK653 : Aside0 (w57.heap[gb653]? = some (.cells #[.slice A0 l0.length c0] 30 (0, 0))) := ⟨(by rw [hw]; exact (Zg6 BK653.out NB653_668.out NB653_668.out NB653_668.out NB653_668.out NB653_668.out NB653_668.out))⟩; replace BK654 : Aside0 (w57.heap[gb654]? = some (.cells #[.string a1_0, .string a1_1] 44 (0, 0))) := ⟨(by rw [hw]; exact (Zg6 BK654.out NB654_668.out NB654_668.out NB654_668.out NB654_668.out NB654_668.out NB654_668.out))⟩; replace BK655 : Aside0 (w57.heap[gb655]? = some (.cells #[.string a2] 9 (0, 0))) := ⟨(by rw [hw]; exact (Zg6 BK655.out NB655_668.out NB655_668.out NB655_668.out NB655_668.out NB655_668.out NB655_668.out))⟩; replace BK656 : Aside0 (w57.heap[gb656]? = some (.cells #[.int .i64 a3] 3 (0, 0))) := ⟨(by rw [hw]; exact (Zg6 BK656.out NB656_668.out NB656_668.out NB656_668.out NB656_668.out NB656_668.out NB656_668.out))⟩; replace BK657 : Aside0 (w57.heap[gb657]? = some (.cells #[.slice A4 l4.length c4] 31 (0, 0))) := ⟨(by rw [hw]; exact (Zg6 BK657.out NB657_668.out NB657_668.out NB657_668.out NB657_668.out NB657_668.out NB657_668.out))⟩; replace BK658 : Aside0 (w57.heap[gb658]? = some (.cells #[.slice A5 l5.length c5] 32 (0, 0))) := ⟨(by rw [hw]; exact (Zg6 BK658.out NB658_668.out NB658_668.out NB658_668.out NB658_668.out NB658_668.out NB658_668.out))⟩; replace BK668 : Aside0 (w57.heap[gb668]? = some (.cells #[.string t661, .int .i64 t662, .int .i64 t663, .int .i64 t664, .int .i64 t665, .int .i64 t666] 84 (0, 0))) := ⟨(by rw [hw]; exact (Zp2 BK668.out))⟩; replace HB : Aside0 (Below w.heap.size w w57) := ⟨(by rw [hw]; exact (Zc7 GE653.out GE654.out GE655.out GE656.out GE657.out GE658.out GE668.out))⟩; clear hw))
  (try simp only [Act.put, Zj, Zk, Zm])
  by_cases c58 : t667 = T
  ·subst c58
   have H1 : ((Qbp.f k l0 a1_0 a1_1 a2).bind fun t670 => (QaZ.l0 k 0 (wrap64 (t670 + 1)) l0 a1_0 a1_1 a2 a3 l4 l5)) = some (r1, r2) := by rw [if_pos rfl] at H; exact H
   clear H
   have H := H1
   clear H1
   replace H := Option.bind_eq_some_iff.mp H
   obtain ⟨t670, A590, H⟩ := H
   replace H : (QaZ.l0 k 0 (wrap64 (t670 + 1)) l0 a1_0 a1_1 a2 a3 l4 l5) = some (r1, r2) := H
   have A59 := Aside0.mk A590
   clear A590
   have H' := Aside0.mk H
   clear H
   go_wp2_with (first | ((with_reducible refine QaL (N := 16) rfl ?_); (refine gate_n (n := 51) rfl ?_); refine Zbx (N := 16) (cs := #[.nilFunc]) (t := 96) ?_; intro gb669 hg w60 hbox hb; have BK669 := Aside0.mk (hbox); have GW669 := Aside0.mk (Zt w hg (Zc7 GE653.out GE654.out GE655.out GE656.out GE657.out GE658.out GE668.out)); have GE669 := GW669; have NB653_669 := Aside0.mk (Zn hg BK653.out); have NB669_653 := Aside0.mk NB653_669.out.symm; have NB654_669 := Aside0.mk (Zn hg BK654.out); have NB669_654 := Aside0.mk NB654_669.out.symm; have NB655_669 := Aside0.mk (Zn hg BK655.out); have NB669_655 := Aside0.mk NB655_669.out.symm; have NB656_669 := Aside0.mk (Zn hg BK656.out); have NB669_656 := Aside0.mk NB656_669.out.symm; have NB657_669 := Aside0.mk (Zn hg BK657.out); have NB669_657 := Aside0.mk NB657_669.out.symm; have NB658_669 := Aside0.mk (Zn hg BK658.out); have NB669_658 := Aside0.mk NB658_669.out.symm; have NB668_669 := Aside0.mk (Zn hg BK668.out); have NB669_668 := Aside0.mk NB668_669.out.symm; replace BK653 := Aside0.mk (Zi BK653.out hb); replace BK654 := Aside0.mk (Zi BK654.out hb); replace BK655 := Aside0.mk (Zi BK655.out hb); replace BK656 := Aside0.mk (Zi BK656.out hb); replace BK657 := Aside0.mk (Zi BK657.out hb); replace BK658 := Aside0.mk (Zi BK658.out hb); replace BK668 := Aside0.mk (Zi BK668.out hb); replace HB := Aside0.mk (Qan (Zc7 GE653.out GE654.out GE655.out GE656.out GE657.out GE658.out GE668.out) hb); clear hb hbox hg; have hnb61 := NB669_653.out; have hnc61 := NB653_669.out; have hnb62 := NB669_654.out; have hnc62 := NB654_669.out; have hnb63 := NB669_655.out; have hnc63 := NB655_669.out; have hnb64 := NB669_656.out; have hnc64 := NB656_669.out; have hnb65 := NB669_657.out; have hnc65 := NB657_669.out; have hnb66 := NB669_658.out; have hnc66 := NB658_669.out; have hnb67 := NB669_668.out; have hnc67 := NB668_669.out; obtain ⟨hcz68_0, hfz68_0⟩ := Zy (v := (.nilFunc)) BK669.out 0) | ((with_reducible refine Qdq (t := 96) (p := 16) rfl ?_); (refine gate_n (n := 51) rfl ?_); refine Qdd (t := 96) (p := 16) (v := ?vo_w69) (w1 := (w60.setCell ⟨gb669, 0, none⟩ (.func (.func 61) #[] #[.pointer (some ⟨gb653, 0, none⟩), .pointer (some ⟨gb654, 0, none⟩), .pointer (some ⟨gb655, 0, none⟩), .pointer (some ⟨gb656, 0, none⟩), .pointer (some ⟨gb657, 0, none⟩), .pointer (some ⟨gb658, 0, none⟩)]))) ?hg ?ho ?hn ?hr ?_; (case ho => rfl); (case hg => rfl); (case hn => rfl); (case hr => first | (exact QcT (cs := #[.nilFunc]) (seg := [.func (.func 61) #[] #[.pointer (some ⟨gb653, 0, none⟩), .pointer (some ⟨gb654, 0, none⟩), .pointer (some ⟨gb655, 0, none⟩), .pointer (some ⟨gb656, 0, none⟩), .pointer (some ⟨gb657, 0, none⟩), .pointer (some ⟨gb658, 0, none⟩)]]) BK669.out rfl (by first | rfl | (go_simp; done)) (by first | rfl | (go_simp; done)) (by rfl) (by first | rfl | kernel_rfl) (by simp) (by first | rfl | simp [Value.oneCell'])) | (go_simp; done) | (go_simp; rfl)); intro w69 hw; replace BK653 : Aside0 (w69.heap[gb653]? = some (.cells #[.slice A0 l0.length c0] 30 (0, 0))) := ⟨(by rw [hw]; exact (Zg1 BK653.out NB653_669.out))⟩; replace BK654 : Aside0 (w69.heap[gb654]? = some (.cells #[.string a1_0, .string a1_1] 44 (0, 0))) := ⟨(by rw [hw]; exact (Zg1 BK654.out NB654_669.out))⟩; replace BK655 : Aside0 (w69.heap[gb655]? = some (.cells #[.string a2] 9 (0, 0))) := ⟨(by rw [hw]; exact (Zg1 BK655.out NB655_669.out))⟩; replace BK656 : Aside0 (w69.heap[gb656]? = some (.cells #[.int .i64 a3] 3 (0, 0))) := ⟨(by rw [hw]; exact (Zg1 BK656.out NB656_669.out))⟩; replace BK657 : Aside0 (w69.heap[gb657]? = some (.cells #[.slice A4 l4.length c4] 31 (0, 0))) := ⟨(by rw [hw]; exact (Zg1 BK657.out NB657_669.out))⟩; replace BK658 : Aside0 (w69.heap[gb658]? = some (.cells #[.slice A5 l5.length c5] 32 (0, 0))) := ⟨(by rw [hw]; exact (Zg1 BK658.out NB658_669.out))⟩; replace BK668 : Aside0 (w69.heap[gb668]? = some (.cells #[.string t661, .int .i64 t662, .int .i64 t663, .int .i64 t664, .int .i64 t665, .int .i64 t666] 84 (0, 0))) := ⟨(by rw [hw]; exact (Zg1 BK668.out NB668_669.out))⟩; replace BK669 : Aside0 (w69.heap[gb669]? = some (.cells #[.func (.func 61) #[] #[.pointer (some ⟨gb653, 0, none⟩), .pointer (some ⟨gb654, 0, none⟩), .pointer (some ⟨gb655, 0, none⟩), .pointer (some ⟨gb656, 0, none⟩), .pointer (some ⟨gb657, 0, none⟩), .pointer (some ⟨gb658, 0, none⟩)]] 96 (0, 0))) := ⟨(by rw [hw]; exact (Zp2 BK669.out))⟩; replace HB : Aside0 (Below w.heap.size w w69) := ⟨(by rw [hw]; exact (Zc8 GE653.out GE654.out GE655.out GE656.out GE657.out GE658.out GE668.out GE669.out))⟩; clear hw; have hnb70 := NB653_654.out; have hnc70 := NB654_653.out; have hnb71 := NB653_655.out; have hnc71 := NB655_653.out; have hnb72 := NB653_656.out; have hnc72 := NB656_653.out; have hnb73 := NB653_657.out; have hnc73 := NB657_653.out; have hnb74 := NB653_658.out; have hnc74 := NB658_653.out; have hnb75 := NB653_668.out; have hnc75 := NB668_653.out; obtain ⟨hcz76_0, hfz76_0⟩ := Zy (v := (.slice A0 l0.length c0)) BK653.out 0; have hnb77 := NB654_655.out; have hnc77 := NB655_654.out; have hnb78 := NB654_656.out; have hnc78 := NB656_654.out; have hnb79 := NB654_657.out; have hnc79 := NB657_654.out; have hnb80 := NB654_658.out; have hnc80 := NB658_654.out; have hnb81 := NB654_668.out; have hnc81 := NB668_654.out; obtain ⟨hcz82_0, hfz82_0⟩ := Zy (v := (.string a1_0)) BK654.out 0; obtain ⟨hcz82_1, hfz82_1⟩ := Zy (v := (.string a1_1)) BK654.out 1; have hnb83 := NB655_656.out; have hnc83 := NB656_655.out; have hnb84 := NB655_657.out; have hnc84 := NB657_655.out; have hnb85 := NB655_658.out; have hnc85 := NB658_655.out; have hnb86 := NB655_668.out; have hnc86 := NB668_655.out; obtain ⟨hcz87_0, hfz87_0⟩ := Zy (v := (.string a2)) BK655.out 0) | ((with_reducible refine Qaw (f := 46) rfl ?_); refine goesL_ (some 43) rfl rfl Try.func46 (by kernel_rfl) rfl #[.slice A0 l0.length c0, .agg #[.string a1_0, .string a1_1], .string a2] rfl (Zl) ?_; (with_reducible refine (Qbp.calls k _ _ l0 a1_0 a1_1 a2 t670 _ ?side1 ?side2 A59.out).mono ?_); (case side1 => exact Zv (Kd.C_below HR0.out HB.out)); (case side2 => exact HC0.out); rintro e w88 ⟨rfl, hb⟩; refine ⟨_, rfl, ?_⟩; replace BK653 := Aside0.mk (Zi BK653.out hb); replace BK654 := Aside0.mk (Zi BK654.out hb); replace BK655 := Aside0.mk (Zi BK655.out hb); replace BK656 := Aside0.mk (Zi BK656.out hb); replace BK657 := Aside0.mk (Zi BK657.out hb); replace BK658 := Aside0.mk (Zi BK658.out hb); replace BK668 := Aside0.mk (Zi BK668.out hb); replace BK669 := Aside0.mk (Zi BK669.out hb); replace HB := Aside0.mk (Qan (Zc8 GE653.out GE654.out GE655.out GE656.out GE657.out GE658.out GE668.out GE669.out) hb); (try clear hb); (try clear hb2); (try clear hk); (try clear hi)) | (go_at_call 62; go_in))
   go_loopg [5, 6] k (fun kq v305 v306 w' => ∃ (x305_1 : Int) (x306_1 : Int), v305 = .int .i64 x305_1 ∧ v306 = .int .i64 x306_1 ∧ Aside0 (QaZ.l0 kq x305_1 x306_1 l0 a1_0 a1_1 a2 a3 l4 l5 = some (r1, r2)) ∧ Aside0 (kq ≤ k) ∧ Aside0 (w'.heap[gb653]? = some (.cells #[(.slice A0 l0.length c0)] 30 (0, 0))) ∧ Aside0 (w'.heap[gb654]? = some (.cells #[.string a1_0, .string a1_1] 44 (0, 0))) ∧ Aside0 (w'.heap[gb655]? = some (.cells #[.string a2] 9 (0, 0))) ∧ Aside0 (w'.heap[gb656]? = some (.cells #[.int .i64 a3] 3 (0, 0))) ∧ Aside0 (w'.heap[gb657]? = some (.cells #[(.slice A4 l4.length c4)] 31 (0, 0))) ∧ Aside0 (w'.heap[gb658]? = some (.cells #[(.slice A5 l5.length c5)] 32 (0, 0))) ∧ Aside0 (w'.heap[gb668]? = some (.cells #[.string t661, .int .i64 t662, .int .i64 t663, .int .i64 t664, .int .i64 t665, .int .i64 t666] 84 (0, 0))) ∧ Aside0 (w'.heap[gb669]? = some (.cells #[(.func (.func 61) #[] #[.pointer (some ⟨gb653, 0, none⟩), .pointer (some ⟨gb654, 0, none⟩), .pointer (some ⟨gb655, 0, none⟩), .pointer (some ⟨gb656, 0, none⟩), .pointer (some ⟨gb657, 0, none⟩), .pointer (some ⟨gb658, 0, none⟩)])] 96 (0, 0))) ∧ Aside0 (Below w.heap.size w w'))
   case atStart => exact ⟨(0), (wrap64 (t670 + 1)), (Zs), (Zs), H', ⟨Nat.le_refl _⟩, ⟨Zu BK653.out⟩, ⟨Zu BK654.out⟩, ⟨Zu BK655.out⟩, ⟨Zu BK656.out⟩, ⟨Zu BK657.out⟩, ⟨Zu BK658.out⟩, ⟨Zu BK668.out⟩, ⟨Zu BK669.out⟩, ⟨Zc8 GE653.out GE654.out GE655.out GE656.out GE657.out GE658.out GE668.out GE669.out⟩⟩
   case round =>
    clear H'
    try clear c1
    try clear c2
    try clear p2
    try clear c3
    try clear c4
    try clear c5
    try clear c6
    try clear p6
    try clear c7
    try clear c8
    try clear c14
    try clear c15
    try clear c16
    try clear c17
    try clear c18
    try clear c20
    try clear c21
    try clear c22
    try clear c23
    try clear c25
    try clear c26
    try clear c27
    try clear c29
    try clear c30
    try clear c32
    try clear c33
    try clear c35
    try clear c35b0
    try clear c35b1
    try clear c37
    try clear c38
    try clear c39
    try clear c40
    try clear c41
    try clear c43
    try clear c44
    try clear c45
    try clear c46
    try clear c48
    try clear c50
    try clear c51
    try clear c52
    try clear c53
    try clear c54
    try clear c55
    try clear c58
    try clear c61
    try clear c62
    try clear c63
    try clear c64
    try clear p64
    try clear c65
    try clear c66
    try clear c67
    try clear c70
    try clear c71
    try clear c72
    try clear c73
    try clear c74
    try clear c75
    try clear c77
    try clear c78
    try clear c79
    try clear c80
    try clear c81
    try clear c83
    try clear c84
    try clear c85
    try clear c86
    try clear hcz19_0
    try clear hcz24_0
    try clear hcz24_1
    try clear hcz28_0
    try clear hcz31_0
    try clear hcz33_0
    try clear hcz42_0
    try clear hcz47_0
    try clear hcz56_0
    try clear hcz56_1
    try clear hcz56_2
    try clear hcz56_3
    try clear hcz56_4
    try clear hcz56_5
    try clear hcz68_0
    try clear hcz76_0
    try clear hcz82_0
    try clear hcz82_1
    try clear hcz87_0
    try clear hfz19_0
    try clear hfz24_0
    try clear hfz24_1
    try clear hfz28_0
    try clear hfz31_0
    try clear hfz33_0
    try clear hfz42_0
    try clear hfz47_0
    try clear hfz56_0
    try clear hfz56_1
    try clear hfz56_2
    try clear hfz56_3
    try clear hfz56_4
    try clear hfz56_5
    try clear hfz68_0
    try clear hfz76_0
    try clear hfz82_0
    try clear hfz82_1
    try clear hfz87_0
    obtain ⟨x305_1, x306_1, rfl, rfl, HA, HK1, BK653, BK654, BK655, BK656, BK657, BK658, BK668, BK669, HB⟩ := hrel
    cases gk with
    | zero => exact absurd HA.out (by simp [QaZ.l0])
    | succ k1 =>
     have H := HA.out
     clear HA
     simp only [QaZ.l0] at H
     by_cases c89 : x305_1 < x306_1
     ·rw [if_pos c89] at H
      have c89b0 : decide (x305_1 < x306_1) = T := decide_eq_true c89
      clear c89
      (try simp only [c89b0])
      have hnb90 := NB669_653.out
      have hnc90 := NB653_669.out
      have hnb91 := NB669_654.out
      have hnc91 := NB654_669.out
      have hnb92 := NB669_655.out
      have hnc92 := NB655_669.out
      have hnb93 := NB669_656.out
      have hnc93 := NB656_669.out
      have hnb94 := NB669_657.out
      have hnc94 := NB657_669.out
      have hnb95 := NB669_658.out
      have hnc95 := NB658_669.out
      have hnb96 := NB669_668.out
      have hnc96 := NB668_669.out
      obtain ⟨hcz97_0, hfz97_0⟩ := Zy (v := (.func (.func 61) #[] #[.pointer (some ⟨gb653, 0, none⟩), .pointer (some ⟨gb654, 0, none⟩), .pointer (some ⟨gb655, 0, none⟩), .pointer (some ⟨gb656, 0, none⟩), .pointer (some ⟨gb657, 0, none⟩), .pointer (some ⟨gb658, 0, none⟩)])) BK669.out 0
      have hnb98 := NB653_654.out
      have hnc98 := NB654_653.out
      have hnb99 := NB653_655.out
      have hnc99 := NB655_653.out
      have hnb100 := NB653_656.out
      have hnc100 := NB656_653.out
      have hnb101 := NB653_657.out
      have hnc101 := NB657_653.out
      have hnb102 := NB653_658.out
      have hnc102 := NB658_653.out
      have hnb103 := NB653_668.out
      have hnc103 := NB668_653.out
      obtain ⟨hcz104_0, hfz104_0⟩ := Zy (v := (.slice A0 l0.length c0)) BK653.out 0
      go_upto_if 16 with (first | (go_at_call 63; go_in) | (go_at_call 61; go_in))
      (try simp only [Act.put, Zj, Zk, Zm])
      by_cases c105 : (wrap64 ((IntKind.u64.wrap (wrap64 (x305_1 + x306_1))) / 2)) > 0
      ·rw [if_pos c105] at H
       have c105b0 : decide (0 < (wrap64 ((IntKind.u64.wrap (wrap64 (x305_1 + x306_1))) / 2))) = T := decide_eq_true c105
       clear c105
       (try simp only [c105b0])
       replace H := Option.bind_eq_some_iff.mp H
       obtain ⟨⟨t671, t674⟩, A1060, H⟩ := H
       replace H : (if t674 = 0 then ((Qbc.f k1 t671 a1_0 a1_1 a3 l4 l5).bind fun bt675 => (if bt675.2 = 0 then (if bt675.1 ≥ a3 then (QaZ.l0 k1 (wrap64 ((wrap64 ((IntKind.u64.wrap (wrap64 (x305_1 + x306_1))) / 2)) + 1)) x306_1 l0 a1_0 a1_1 a2 a3 l4 l5) else (QaZ.l0 k1 x305_1 (wrap64 ((IntKind.u64.wrap (wrap64 (x305_1 + x306_1))) / 2)) l0 a1_0 a1_1 a2 a3 l4 l5)) else (QaZ.l0 k1 x305_1 (wrap64 ((IntKind.u64.wrap (wrap64 (x305_1 + x306_1))) / 2)) l0 a1_0 a1_1 a2 a3 l4 l5))) else (QaZ.l0 k1 x305_1 (wrap64 ((IntKind.u64.wrap (wrap64 (x305_1 + x306_1))) / 2)) l0 a1_0 a1_1 a2 a3 l4 l5)) = some (r1, r2) := H
       have A106 := Aside0.mk A1060
       clear A1060
       have hnb107 := NB653_654.out
       have hnc107 := NB654_653.out
       have hnb108 := NB653_655.out
       have hnc108 := NB655_653.out
       have hnb109 := NB653_656.out
       have hnc109 := NB656_653.out
       have hnb110 := NB653_657.out
       have hnc110 := NB657_653.out
       have hnb111 := NB653_658.out
       have hnc111 := NB658_653.out
       have hnb112 := NB653_668.out
       have hnc112 := NB668_653.out
       have hnb113 := NB653_669.out
       have hnc113 := NB669_653.out
       obtain ⟨hcz114_0, hfz114_0⟩ := Zy (v := (.slice A0 l0.length c0)) BK653.out 0
       have hnb115 := NB654_655.out
       have hnc115 := NB655_654.out
       have hnb116 := NB654_656.out
       have hnc116 := NB656_654.out
       have hnb117 := NB654_657.out
       have hnc117 := NB657_654.out
       have hnb118 := NB654_658.out
       have hnc118 := NB658_654.out
       have hnb119 := NB654_668.out
       have hnc119 := NB668_654.out
       have hnb120 := NB654_669.out
       have hnc120 := NB669_654.out
       obtain ⟨hcz121_0, hfz121_0⟩ := Zy (v := (.string a1_0)) BK654.out 0
       obtain ⟨hcz121_1, hfz121_1⟩ := Zy (v := (.string a1_1)) BK654.out 1
       have hnb122 := NB655_656.out
       have hnc122 := NB656_655.out
       have hnb123 := NB655_657.out
       have hnc123 := NB657_655.out
       have hnb124 := NB655_658.out
       have hnc124 := NB658_655.out
       have hnb125 := NB655_668.out
       have hnc125 := NB668_655.out
       have hnb126 := NB655_669.out
       have hnc126 := NB669_655.out
       obtain ⟨hcz127_0, hfz127_0⟩ := Zy (v := (.string a2)) BK655.out 0
       go_upto_if 26 with (first | ((with_reducible refine Qaw (f := 47) rfl ?_); refine goesL_ (some 22) rfl rfl Try.func47 (by kernel_rfl) rfl #[.slice A0 l0.length c0, .agg #[.string a1_0, .string a1_1], .string a2, .int .i64 (wrap64 ((IntKind.u64.wrap (wrap64 (x305_1 + x306_1))) / 2))] rfl (Zl) ?_; (with_reducible refine (Qbe.calls k1 _ _ l0 a1_0 a1_1 a2 (wrap64 ((IntKind.u64.wrap (wrap64 (x305_1 + x306_1))) / 2)) t671 t674 _ ?side1 ?side2 A106.out).mono ?_); (case side1 => exact Zv (Kd.C_below HR0.out HB.out)); (case side2 => exact HC0.out); rintro e w128 ⟨v672, rfl, ho0, hb⟩; refine ⟨_, rfl, ?_⟩; have HO673 := Aside0.mk (Kd.R_lower ho0 (Qam (Zc8 GE653.out GE654.out GE655.out GE656.out GE657.out GE658.out GE668.out GE669.out))); replace BK653 := Aside0.mk (Zi BK653.out hb); replace BK654 := Aside0.mk (Zi BK654.out hb); replace BK655 := Aside0.mk (Zi BK655.out hb); replace BK656 := Aside0.mk (Zi BK656.out hb); replace BK657 := Aside0.mk (Zi BK657.out hb); replace BK658 := Aside0.mk (Zi BK658.out hb); replace BK668 := Aside0.mk (Zi BK668.out hb); replace BK669 := Aside0.mk (Zi BK669.out hb); replace HB := Aside0.mk (Qan (Zc8 GE653.out GE654.out GE655.out GE656.out GE657.out GE658.out GE668.out GE669.out) hb); (try clear hb); (try clear hb2); (try clear hk); (try clear hi); (try clear ho0)))
       (try simp only [Act.put, Zj, Zk, Zm])
       by_cases c129 : t674 = 0
       ·rw [if_pos c129] at H
        have c129b0 : (t674 == 0) = T := beq_iff_eq.mpr c129
        have c129b1 : (t674 != 0) = F := bne_eq_false_iff_eq.mpr c129
        clear c129
        (try simp only [c129b0, c129b1])
        replace H := Option.bind_eq_some_iff.mp H
        obtain ⟨⟨t675, t676⟩, A1300, H⟩ := H
        replace H : (if t676 = 0 then (if t675 ≥ a3 then (QaZ.l0 k1 (wrap64 ((wrap64 ((IntKind.u64.wrap (wrap64 (x305_1 + x306_1))) / 2)) + 1)) x306_1 l0 a1_0 a1_1 a2 a3 l4 l5) else (QaZ.l0 k1 x305_1 (wrap64 ((IntKind.u64.wrap (wrap64 (x305_1 + x306_1))) / 2)) l0 a1_0 a1_1 a2 a3 l4 l5)) else (QaZ.l0 k1 x305_1 (wrap64 ((IntKind.u64.wrap (wrap64 (x305_1 + x306_1))) / 2)) l0 a1_0 a1_1 a2 a3 l4 l5)) = some (r1, r2) := H
        have A130 := Aside0.mk A1300
        clear A1300
        have hnb131 := NB654_653.out
        have hnc131 := NB653_654.out
        have hnb132 := NB654_655.out
        have hnc132 := NB655_654.out
        have hnb133 := NB654_656.out
        have hnc133 := NB656_654.out
        have hnb134 := NB654_657.out
        have hnc134 := NB657_654.out
        have hnb135 := NB654_658.out
        have hnc135 := NB658_654.out
        have hnb136 := NB654_668.out
        have hnc136 := NB668_654.out
        have hnb137 := NB654_669.out
        have hnc137 := NB669_654.out
        obtain ⟨hcz138_0, hfz138_0⟩ := Zy (v := (.string a1_0)) BK654.out 0
        obtain ⟨hcz138_1, hfz138_1⟩ := Zy (v := (.string a1_1)) BK654.out 1
        have hnb139 := NB656_653.out
        have hnc139 := NB653_656.out
        have hnb140 := NB656_655.out
        have hnc140 := NB655_656.out
        have hnb141 := NB656_657.out
        have hnc141 := NB657_656.out
        have hnb142 := NB656_658.out
        have hnc142 := NB658_656.out
        have hnb143 := NB656_668.out
        have hnc143 := NB668_656.out
        have hnb144 := NB656_669.out
        have hnc144 := NB669_656.out
        obtain ⟨hcz145_0, hfz145_0⟩ := Zy (v := (.int .i64 a3)) BK656.out 0
        have hnb146 := NB657_653.out
        have hnc146 := NB653_657.out
        have hnb147 := NB657_655.out
        have hnc147 := NB655_657.out
        have hnb148 := NB657_658.out
        have hnc148 := NB658_657.out
        have hnb149 := NB657_668.out
        have hnc149 := NB668_657.out
        have hnb150 := NB657_669.out
        have hnc150 := NB669_657.out
        obtain ⟨hcz151_0, hfz151_0⟩ := Zy (v := (.slice A4 l4.length c4)) BK657.out 0
        have hnb152 := NB658_653.out
        have hnc152 := NB653_658.out
        have hnb153 := NB658_655.out
        have hnc153 := NB655_658.out
        have hnb154 := NB658_668.out
        have hnc154 := NB668_658.out
        have hnb155 := NB658_669.out
        have hnc155 := NB669_658.out
        obtain ⟨hcz156_0, hfz156_0⟩ := Zy (v := (.slice A5 l5.length c5)) BK658.out 0
        obtain ⟨Ao157, co157, eo157⟩ := Kd.R_slice HO673.out
        subst eo157
        go_upto_region 8 with (first | ((with_reducible refine Qaw (f := 30) rfl ?_); refine goesL_ (some 34) rfl rfl Try.func30 (by kernel_rfl) rfl #[.slice Ao157 t671.length co157, .agg #[.string a1_0, .string a1_1], .int .i64 a3, .slice A4 l4.length c4, .slice A5 l5.length c5] rfl (Zl) ?_; (with_reducible refine (Qbc.calls k1 _ _ t671 a1_0 a1_1 a3 _ _ l4 _ _ l5 t675 t676 _ ?side1 ?side2 ?side3 ?side4 ?side5 ?side6 A130.out).mono ?_); (case side1 => exact Zv (Kd.R_reads' HO673.out).2.2); (case side2 => exact (Kd.R_reads' HO673.out).2.1); (case side3 => exact Zv (Kd.C_below HR4.out HB.out)); (case side4 => exact HC4.out); (case side5 => exact Zv (Kd.C_below HR5.out HB.out)); (case side6 => exact HC5.out); rintro e w158 ⟨rfl, hb⟩; refine ⟨_, rfl, ?_⟩; replace HO673 := Aside0.mk (Kd.R_below (Zr HO673.out) hb); replace BK653 := Aside0.mk (Zi BK653.out hb); replace BK654 := Aside0.mk (Zi BK654.out hb); replace BK655 := Aside0.mk (Zi BK655.out hb); replace BK656 := Aside0.mk (Zi BK656.out hb); replace BK657 := Aside0.mk (Zi BK657.out hb); replace BK658 := Aside0.mk (Zi BK658.out hb); replace BK668 := Aside0.mk (Zi BK668.out hb); replace BK669 := Aside0.mk (Zi BK669.out hb); replace HB := Aside0.mk (Qan (Zc8 GE653.out GE654.out GE655.out GE656.out GE657.out GE658.out GE668.out GE669.out) hb); (try clear hb); (try clear hb2); (try clear hk); (try clear hi)))
        (try simp only [Act.put, Zj, Zk, Zm])
        by_cases c159 : t676 = 0
        ·rw [if_pos c159] at H
         have c159b0 : (t676 == 0) = T := beq_iff_eq.mpr c159
         have c159b1 : (t676 != 0) = F := bne_eq_false_iff_eq.mpr c159
         clear c159
         (try simp only [c159b0, c159b1])
         have hnb160 := NB656_653.out
         have hnc160 := NB653_656.out
         have hnb161 := NB656_654.out
         have hnc161 := NB654_656.out
         have hnb162 := NB656_655.out
         have hnc162 := NB655_656.out
         have hnb163 := NB656_657.out
         have hnc163 := NB657_656.out
         have hnb164 := NB656_658.out
         have hnc164 := NB658_656.out
         have hnb165 := NB656_668.out
         have hnc165 := NB668_656.out
         have hnb166 := NB656_669.out
         have hnc166 := NB669_656.out
         obtain ⟨hcz167_0, hfz167_0⟩ := Zy (v := (.int .i64 a3)) BK656.out 0
         go_upto_if 21 with (fail)
         by_cases c168 : t675 ≥ a3
         ·rw [if_pos c168] at H
          have c168b0 : decide (a3 ≤ t675) = T := decide_eq_true c168
          clear c168
          (try simp only [c168b0])
          have H' := Aside0.mk H
          clear H
          go_wp2
          go_roundg k1
          case measure => have := HK1.out; omega
          case rel => exact ⟨(wrap64 ((wrap64 ((IntKind.u64.wrap (wrap64 (x305_1 + x306_1))) / 2)) + 1)), (x306_1), (Zs), (Zs), H', ⟨by have := HK1.out; omega⟩, ⟨Zu BK653.out⟩, ⟨Zu BK654.out⟩, ⟨Zu BK655.out⟩, ⟨Zu BK656.out⟩, ⟨Zu BK657.out⟩, ⟨Zu BK658.out⟩, ⟨Zu BK668.out⟩, ⟨Zu BK669.out⟩, ⟨Zc8 GE653.out GE654.out GE655.out GE656.out GE657.out GE658.out GE668.out GE669.out⟩⟩
         rw [if_neg c168] at H
         have c168b0 : decide (a3 ≤ t675) = F := decide_eq_false c168
         clear c168
         (try simp only [c168b0])
         have H' := Aside0.mk H
         clear H
         go_wp2
         go_roundg k1
         case measure => have := HK1.out; omega
         case rel => exact ⟨(x305_1), (wrap64 ((IntKind.u64.wrap (wrap64 (x305_1 + x306_1))) / 2)), (Zs), (Zs), H', ⟨by have := HK1.out; omega⟩, ⟨Zu BK653.out⟩, ⟨Zu BK654.out⟩, ⟨Zu BK655.out⟩, ⟨Zu BK656.out⟩, ⟨Zu BK657.out⟩, ⟨Zu BK658.out⟩, ⟨Zu BK668.out⟩, ⟨Zu BK669.out⟩, ⟨Zc8 GE653.out GE654.out GE655.out GE656.out GE657.out GE658.out GE668.out GE669.out⟩⟩
        rw [if_neg c159] at H
        have c159b0 : (t676 == 0) = F := beq_eq_false_iff_ne.mpr c159
        have c159b1 : (t676 != 0) = T := bne_iff_ne.mpr c159
        (try simp only [c159b0, c159b1])
        have H' := Aside0.mk H
        clear H
        go_wp2
        go_roundg k1
        case measure => have := HK1.out; omega
        case rel => exact ⟨(x305_1), (wrap64 ((IntKind.u64.wrap (wrap64 (x305_1 + x306_1))) / 2)), (Zs), (Zs), H', ⟨by have := HK1.out; omega⟩, ⟨Zu BK653.out⟩, ⟨Zu BK654.out⟩, ⟨Zu BK655.out⟩, ⟨Zu BK656.out⟩, ⟨Zu BK657.out⟩, ⟨Zu BK658.out⟩, ⟨Zu BK668.out⟩, ⟨Zu BK669.out⟩, ⟨Zc8 GE653.out GE654.out GE655.out GE656.out GE657.out GE658.out GE668.out GE669.out⟩⟩
       rw [if_neg c129] at H
       have c129b0 : (t674 == 0) = F := beq_eq_false_iff_ne.mpr c129
       have c129b1 : (t674 != 0) = T := bne_iff_ne.mpr c129
       (try simp only [c129b0, c129b1])
       go_upto_region 6 with (fail)
       have H' := Aside0.mk H
       clear H
       go_wp2
       go_roundg k1
       case measure => have := HK1.out; omega
       case rel => exact ⟨(x305_1), (wrap64 ((IntKind.u64.wrap (wrap64 (x305_1 + x306_1))) / 2)), (Zs), (Zs), H', ⟨by have := HK1.out; omega⟩, ⟨Zu BK653.out⟩, ⟨Zu BK654.out⟩, ⟨Zu BK655.out⟩, ⟨Zu BK656.out⟩, ⟨Zu BK657.out⟩, ⟨Zu BK658.out⟩, ⟨Zu BK668.out⟩, ⟨Zu BK669.out⟩, ⟨Zc8 GE653.out GE654.out GE655.out GE656.out GE657.out GE658.out GE668.out GE669.out⟩⟩
      rw [if_neg c105] at H
      have c105b0 : decide (0 < (wrap64 ((IntKind.u64.wrap (wrap64 (x305_1 + x306_1))) / 2))) = F := decide_eq_false c105
      clear c105
      (try simp only [c105b0])
      replace H := Option.bind_eq_some_iff.mp H
      obtain ⟨⟨t677, t678⟩, A1690, H⟩ := H
      replace H : (if t678 = 0 then (if t677 ≥ a3 then (QaZ.l0 k1 (wrap64 ((wrap64 ((IntKind.u64.wrap (wrap64 (x305_1 + x306_1))) / 2)) + 1)) x306_1 l0 a1_0 a1_1 a2 a3 l4 l5) else (QaZ.l0 k1 x305_1 (wrap64 ((IntKind.u64.wrap (wrap64 (x305_1 + x306_1))) / 2)) l0 a1_0 a1_1 a2 a3 l4 l5)) else (QaZ.l0 k1 x305_1 (wrap64 ((IntKind.u64.wrap (wrap64 (x305_1 + x306_1))) / 2)) l0 a1_0 a1_1 a2 a3 l4 l5)) = some (r1, r2) := H
      have A169 := Aside0.mk A1690
      clear A1690
      have hnb170 := NB654_653.out
      have hnc170 := NB653_654.out
      have hnb171 := NB654_655.out
      have hnc171 := NB655_654.out
      have hnb172 := NB654_656.out
      have hnc172 := NB656_654.out
      have hnb173 := NB654_657.out
      have hnc173 := NB657_654.out
      have hnb174 := NB654_658.out
      have hnc174 := NB658_654.out
      have hnb175 := NB654_668.out
      have hnc175 := NB668_654.out
      have hnb176 := NB654_669.out
      have hnc176 := NB669_654.out
      obtain ⟨hcz177_0, hfz177_0⟩ := Zy (v := (.string a1_0)) BK654.out 0
      obtain ⟨hcz177_1, hfz177_1⟩ := Zy (v := (.string a1_1)) BK654.out 1
      have hnb178 := NB656_653.out
      have hnc178 := NB653_656.out
      have hnb179 := NB656_655.out
      have hnc179 := NB655_656.out
      have hnb180 := NB656_657.out
      have hnc180 := NB657_656.out
      have hnb181 := NB656_658.out
      have hnc181 := NB658_656.out
      have hnb182 := NB656_668.out
      have hnc182 := NB668_656.out
      have hnb183 := NB656_669.out
      have hnc183 := NB669_656.out
      obtain ⟨hcz184_0, hfz184_0⟩ := Zy (v := (.int .i64 a3)) BK656.out 0
      have hnb185 := NB657_653.out
      have hnc185 := NB653_657.out
      have hnb186 := NB657_655.out
      have hnc186 := NB655_657.out
      have hnb187 := NB657_658.out
      have hnc187 := NB658_657.out
      have hnb188 := NB657_668.out
      have hnc188 := NB668_657.out
      have hnb189 := NB657_669.out
      have hnc189 := NB669_657.out
      obtain ⟨hcz190_0, hfz190_0⟩ := Zy (v := (.slice A4 l4.length c4)) BK657.out 0
      have hnb191 := NB658_653.out
      have hnc191 := NB653_658.out
      have hnb192 := NB658_655.out
      have hnc192 := NB655_658.out
      have hnb193 := NB658_668.out
      have hnc193 := NB668_658.out
      have hnb194 := NB658_669.out
      have hnc194 := NB669_658.out
      obtain ⟨hcz195_0, hfz195_0⟩ := Zy (v := (.slice A5 l5.length c5)) BK658.out 0
      go_upto_region 8 with (first | ((with_reducible refine Qaw (f := 30) rfl ?_); refine goesL_ (some 34) rfl rfl Try.func30 (by kernel_rfl) rfl #[.slice A0 l0.length c0, .agg #[.string a1_0, .string a1_1], .int .i64 a3, .slice A4 l4.length c4, .slice A5 l5.length c5] rfl (Zl) ?_; (with_reducible refine (Qbc.calls k1 _ _ l0 a1_0 a1_1 a3 _ _ l4 _ _ l5 t677 t678 _ ?side1 ?side2 ?side3 ?side4 ?side5 ?side6 A169.out).mono ?_); (case side1 => exact Zv (Kd.C_below HR0.out HB.out)); (case side2 => exact HC0.out); (case side3 => exact Zv (Kd.C_below HR4.out HB.out)); (case side4 => exact HC4.out); (case side5 => exact Zv (Kd.C_below HR5.out HB.out)); (case side6 => exact HC5.out); rintro e w196 ⟨rfl, hb⟩; refine ⟨_, rfl, ?_⟩; replace BK653 := Aside0.mk (Zi BK653.out hb); replace BK654 := Aside0.mk (Zi BK654.out hb); replace BK655 := Aside0.mk (Zi BK655.out hb); replace BK656 := Aside0.mk (Zi BK656.out hb); replace BK657 := Aside0.mk (Zi BK657.out hb); replace BK658 := Aside0.mk (Zi BK658.out hb); replace BK668 := Aside0.mk (Zi BK668.out hb); replace BK669 := Aside0.mk (Zi BK669.out hb); replace HB := Aside0.mk (Qan (Zc8 GE653.out GE654.out GE655.out GE656.out GE657.out GE658.out GE668.out GE669.out) hb); (try clear hb); (try clear hb2); (try clear hk); (try clear hi)))
      (try simp only [Act.put, Zj, Zk, Zm])
      by_cases c197 : t678 = 0
      ·rw [if_pos c197] at H
       have c197b0 : (t678 == 0) = T := beq_iff_eq.mpr c197
       have c197b1 : (t678 != 0) = F := bne_eq_false_iff_eq.mpr c197
       clear c197
       (try simp only [c197b0, c197b1])
       have hnb198 := NB656_653.out
       have hnc198 := NB653_656.out
       have hnb199 := NB656_654.out
       have hnc199 := NB654_656.out
       have hnb200 := NB656_655.out
       have hnc200 := NB655_656.out
       have hnb201 := NB656_657.out
       have hnc201 := NB657_656.out
       have hnb202 := NB656_658.out
       have hnc202 := NB658_656.out
       have hnb203 := NB656_668.out
       have hnc203 := NB668_656.out
       have hnb204 := NB656_669.out
       have hnc204 := NB669_656.out
       obtain ⟨hcz205_0, hfz205_0⟩ := Zy (v := (.int .i64 a3)) BK656.out 0
       go_upto_if 21 with (fail)
       by_cases c206 : t677 ≥ a3
       ·rw [if_pos c206] at H
        have c206b0 : decide (a3 ≤ t677) = T := decide_eq_true c206
        clear c206
        (try simp only [c206b0])
        have H' := Aside0.mk H
        clear H
        go_wp2
        go_roundg k1
        case measure => have := HK1.out; omega
        case rel => exact ⟨(wrap64 ((wrap64 ((IntKind.u64.wrap (wrap64 (x305_1 + x306_1))) / 2)) + 1)), (x306_1), (Zs), (Zs), H', ⟨by have := HK1.out; omega⟩, ⟨Zu BK653.out⟩, ⟨Zu BK654.out⟩, ⟨Zu BK655.out⟩, ⟨Zu BK656.out⟩, ⟨Zu BK657.out⟩, ⟨Zu BK658.out⟩, ⟨Zu BK668.out⟩, ⟨Zu BK669.out⟩, ⟨Zc8 GE653.out GE654.out GE655.out GE656.out GE657.out GE658.out GE668.out GE669.out⟩⟩
       rw [if_neg c206] at H
       have c206b0 : decide (a3 ≤ t677) = F := decide_eq_false c206
       clear c206
       (try simp only [c206b0])
       have H' := Aside0.mk H
       clear H
       go_wp2
       go_roundg k1
       case measure => have := HK1.out; omega
       case rel => exact ⟨(x305_1), (wrap64 ((IntKind.u64.wrap (wrap64 (x305_1 + x306_1))) / 2)), (Zs), (Zs), H', ⟨by have := HK1.out; omega⟩, ⟨Zu BK653.out⟩, ⟨Zu BK654.out⟩, ⟨Zu BK655.out⟩, ⟨Zu BK656.out⟩, ⟨Zu BK657.out⟩, ⟨Zu BK658.out⟩, ⟨Zu BK668.out⟩, ⟨Zu BK669.out⟩, ⟨Zc8 GE653.out GE654.out GE655.out GE656.out GE657.out GE658.out GE668.out GE669.out⟩⟩
      rw [if_neg c197] at H
      have c197b0 : (t678 == 0) = F := beq_eq_false_iff_ne.mpr c197
      have c197b1 : (t678 != 0) = T := bne_iff_ne.mpr c197
      (try simp only [c197b0, c197b1])
      go_upto_region 6 with (fail)
      have H' := Aside0.mk H
      clear H
      go_wp2
      go_roundg k1
      case measure => have := HK1.out; omega
      case rel => exact ⟨(x305_1), (wrap64 ((IntKind.u64.wrap (wrap64 (x305_1 + x306_1))) / 2)), (Zs), (Zs), H', ⟨by have := HK1.out; omega⟩, ⟨Zu BK653.out⟩, ⟨Zu BK654.out⟩, ⟨Zu BK655.out⟩, ⟨Zu BK656.out⟩, ⟨Zu BK657.out⟩, ⟨Zu BK658.out⟩, ⟨Zu BK668.out⟩, ⟨Zu BK669.out⟩, ⟨Zc8 GE653.out GE654.out GE655.out GE656.out GE657.out GE658.out GE668.out GE669.out⟩⟩
     rw [if_neg c89] at H
     have c89b0 : decide (x305_1 < x306_1) = F := decide_eq_false c89
     clear c89
     (try simp only [c89b0])
     go_upto_region 10 with (fail)
     obtain ⟨ji207, hji207⟩ : ∃ j_ : Int, (mx (wrap64 (x305_1 - 1)) 0) = j_ := ⟨_, rfl⟩
     replace H : (some (ji207, 0)) = some (r1, r2) := by first | (rw [hji207] at H; exact H) | (simp only [hji207] at H ⊢; exact H)
     have hji207_ : (if (wrap64 (x305_1 - 1)) < 0 then 0 else (wrap64 (x305_1 - 1))) = ji207 := hji207
     simp only [Option.some.injEq, Prod.mk.injEq] at H
     obtain ⟨rfl, rfl⟩ := H
     go_wp2
     go_ret2
     exact ⟨by first | rfl | (simp [Qaj, Qak] <;> rfl) | (simp only [← hji207]; first | rfl | (simp [Qaj, Qak] <;> rfl)) | (simp [*, Qaj, Qak] <;> rfl), Zc8 GE653.out GE654.out GE655.out GE656.out GE657.out GE658.out GE668.out GE669.out⟩
  replace c58 := Bool.eq_false_iff.mpr c58
  subst c58
  have H1 : (some (0, 11)) = some (r1, r2) := by rw [if_neg (show ¬ (F = T) by decide)] at H; exact H
  clear H
  have H := H1
  clear H1
  simp only [Option.some.injEq, Prod.mk.injEq] at H
  obtain ⟨rfl, rfl⟩ := H
  go_wp2
  go_ret2
  exact ⟨Zq, Zc7 GE653.out GE654.out GE655.out GE656.out GE657.out GE658.out GE668.out⟩
 rw [if_neg c35] at H
 have c35b0 : (t660 == 0) = F := beq_eq_false_iff_ne.mpr c35
 have c35b1 : (t660 != 0) = T := bne_iff_ne.mpr c35
 (try simp only [c35b0, c35b1])
 simp only [Option.some.injEq, Prod.mk.injEq] at H
 obtain ⟨rfl, rfl⟩ := H
 go_wp2
 go_ret2
 exact ⟨Zq, Zc6 GE653.out GE654.out GE655.out GE656.out GE657.out GE658.out⟩
def Qa5.l0 : Nat → List (S84) → List (S98) → List (S46) → Int → Int → Int → Int → Int → Int → Option (Int × Int × Int × Int × Int)
 | 0, _, _, _, _, _, _, _, _, _ => none
 | k + 1, x302, x303, x332, x333, x334, x682000, x682001, x682002, x682003 => if x334 < x333 then (if 0 ≤ x334 then (if x334 < (x332.length : Int) then ((Qbf.f k x302 ((rd_T46 x332 x334).f1)).bind fun bt690 => ((Qbh.f k bt690.1 bt690.2.1 bt690.2.2.1 bt690.2.2.2.1 bt690.2.2.2.2.1 bt690.2.2.2.2.2.1 ((rd_T46 x332 x334).f2) x303).bind fun bt698 => (if bt698.2 = 0 then (if bt690.2.1 = 0 then (Qa5.l0 k x302 x303 x332 x333 (wrap64 (x334 + 1)) (wrap64 (x682000 + bt698.1)) x682001 x682002 x682003) else (if bt690.2.1 = 1 then (Qa5.l0 k x302 x303 x332 x333 (wrap64 (x334 + 1)) x682000 (wrap64 (x682001 + bt698.1)) x682002 x682003) else (if bt690.2.1 = 2 then (Qa5.l0 k x302 x303 x332 x333 (wrap64 (x334 + 1)) x682000 x682001 (wrap64 (x682002 + bt698.1)) x682003) else (if bt690.2.1 = 3 then (Qa5.l0 k x302 x303 x332 x333 (wrap64 (x334 + 1)) x682000 x682001 x682002 (wrap64 (x682003 + bt698.1))) else (none))))) else (some (0, 0, 0, 0, bt698.2))))) else (none)) else (none)) else (some (x682000, x682001, x682002, x682003, 0))
def Qa5.f (k : Nat) (l0 : List (S46)) (a1_0 : ByteArray) (a1_1 : ByteArray) (l2 : List (S84)) (l3 : List (S98)) : Option (Int × Int × Int × Int × Int) := (QaW.f k l0 a1_0 a1_1 l2 l3).bind fun bt683 => (if bt683.2 = 0 then ((Qa4.f k l0 a1_0 a1_1).bind fun t685 => (Qa5.l0 k l2 l3 t685 (t685.length : Int) 0 0 0 0 0)) else (some (0, 0, 0, 0, bt683.2)))
theorem Qa5.mono_l : ∀ k, (∀ y0 y1 y2 y3 y4 y5 y6 y7 y8, LeO (Qa5.l0 k y0 y1 y2 y3 y4 y5 y6 y7 y8) (Qa5.l0 (k + 1) y0 y1 y2 y3 y4 y5 y6 y7 y8))
 | 0 => fun _ _ _ _ _ _ _ _ _ r h => by simp [Qa5.l0] at h
 | k + 1 => by
  have ih0 := Qa5.mono_l k
  intro y0 y1 y2 y3 y4 y5 y6 y7 y8
  unfold Qa5.l0
  exact ZM5 ih0 Qbf.mono Qbh.mono Qa4.mono QaW.mono
theorem Qa5.mono : ∀ a0 a1 a2 a3 a4 k, LeO (Qa5.f k a0 a1 a2 a3 a4) (Qa5.f (k + 1) a0 a1 a2 a3 a4) := by
 intro a0 a1 a2 a3 a4 k
 have ih0 := Qa5.mono_l k
 unfold Qa5.f
 exact ZM5 ih0 Qbf.mono Qbh.mono Qa4.mono QaW.mono
theorem Qa5.calls (k : Nat) (A0 : Option Addr) (c0 : Nat) (l0 : List (S46)) (a1_0 : ByteArray) (a1_1 : ByteArray) (A2 : Option Addr) (c2 : Nat) (l2 : List (S84)) (A3 : Option Addr) (c3 : Nat) (l3 : List (S98)) (r1 : Int) (r2 : Int) (r3 : Int) (r4 : Int) (r5 : Int) (w : World) (hr0 : Kd.C k46 w A0 l0.length l0) (hc0 : l0.length ≤ c0) (hr2 : Kd.C k84 w A2 l2.length l2) (hc2 : l2.length ≤ c2) (hr3 : Kd.C k98 w A3 l3.length l3) (hc3 : l3.length ≤ c3) (h : Qa5.f k l0 a1_0 a1_1 l2 l3 = some (r1, r2, r3, r4, r5)) :
  Calls Try.prog 35 #[.slice A0 l0.length c0, .agg #[.string a1_0, .string a1_1], .slice A2 l2.length c2, .slice A3 l3.length c3] w fun e w' => e = .returned (.tuple #[.agg #[.int .i64 r1, .int .i64 r2, .int .i64 r3, .int .i64 r4], .int .i64 r5]) ∧ Below w.heap.size w w' := by
 have hu44 := Try.underlying44
 have hu74 := Try.underlying74
 have HR0 := Aside0.mk hr0
 have HC0 := Aside0.mk hc0
 clear hr0 hc0
 have HR2 := Aside0.mk hr2
 have HC2 := Aside0.mk hc2
 clear hr2 hc2
 have HR3 := Aside0.mk hr3
 have HC3 := Aside0.mk hc3
 clear hr3 hc3
 have HB := Aside0.mk (Below.refl w.heap.size w)
 have H : ((QaW.f k l0 a1_0 a1_1 l2 l3).bind fun bt683 => (if bt683.2 = 0 then ((Qa4.f k l0 a1_0 a1_1).bind fun t685 => (Qa5.l0 k l2 l3 t685 (t685.length : Int) 0 0 0 0 0)) else (some (0, 0, 0, 0, bt683.2)))) = some (r1, r2, r3, r4, r5) := h
 clear h
 replace H := Option.bind_eq_some_iff.mp H
 obtain ⟨⟨t683, t684⟩, A50, H⟩ := H
 replace H : (if t684 = 0 then ((Qa4.f k l0 a1_0 a1_1).bind fun t685 => (Qa5.l0 k l2 l3 t685 (t685.length : Int) 0 0 0 0 0)) else (some (0, 0, 0, 0, t684))) = some (r1, r2, r3, r4, r5) := H
 have A5 := Aside0.mk A50
 clear A50
 go_enter Try.func35, Try.ntmps35
 go_upto_if 28 with (first | ((with_reducible refine QaL (N := 5) rfl ?_); (refine gate_n (n := 21) rfl ?_); refine Zbx (N := 5) (cs := #[.string a1_0, .string a1_1]) (t := 44) ?_; intro gb680 hg w6 hbox hb; have BK680 := Aside0.mk (hbox); have GW680 := Aside0.mk (Zt w hg (Zb)); have GE680 := GW680; replace HB := Aside0.mk (Qan (Zb) hb); clear hb hbox hg) | ((with_reducible refine QaL (N := 8) rfl ?_); (refine gate_n (n := 21) rfl ?_); refine Zbx (N := 8) (cs := #[.int .i64 0, .int .i64 0, .int .i64 0, .int .i64 0]) (t := 74) ?_; intro gb681 hg w7 hbox hb; have BK681 := Aside0.mk (hbox); have GW681 := Aside0.mk (Zt w hg (Zc1 GE680.out)); have GE681 := GW681; have NB680_681 := Aside0.mk (Zn hg BK680.out); have NB681_680 := Aside0.mk NB680_681.out.symm; replace BK680 := Aside0.mk (Zi BK680.out hb); replace HB := Aside0.mk (Qan (Zc1 GE680.out) hb); clear hb hbox hg; have hnb8 := NB680_681.out; have hnc8 := NB681_680.out; obtain ⟨hcz9_0, hfz9_0⟩ := Zy (v := (.string a1_0)) BK680.out 0; obtain ⟨hcz9_1, hfz9_1⟩ := Zy (v := (.string a1_1)) BK680.out 1) | (go_at_call 55; go_in) | ((with_reducible refine QaL (N := 6) rfl ?_); (refine gate_n (n := 61) rfl ?_); refine Zbx (N := 6) (cs := #[.string a1_0, .string a1_1]) (t := 44) ?_; intro gb682 hg w10 hbox hb; have BK682 := Aside0.mk (hbox); have GW682 := Aside0.mk (Zt w hg (Zc2 GE680.out GE681.out)); have GE682 := GW682; have NB680_682 := Aside0.mk (Zn hg BK680.out); have NB682_680 := Aside0.mk NB680_682.out.symm; have NB681_682 := Aside0.mk (Zn hg BK681.out); have NB682_681 := Aside0.mk NB681_682.out.symm; replace BK680 := Aside0.mk (Zi BK680.out hb); replace BK681 := Aside0.mk (Zi BK681.out hb); replace HB := Aside0.mk (Qan (Zc2 GE680.out GE681.out) hb); clear hb hbox hg; have hnb11 := NB682_680.out; have hnc11 := NB680_682.out; have hnb12 := NB682_681.out; have hnc12 := NB681_682.out; obtain ⟨hcz13_0, hfz13_0⟩ := Zy (v := (.string a1_0)) BK682.out 0; obtain ⟨hcz13_1, hfz13_1⟩ := Zy (v := (.string a1_1)) BK682.out 1) | ((with_reducible refine Qaw (f := 85) rfl ?_); refine goesL_ (some 24) rfl rfl Try.func85 (by kernel_rfl) rfl #[.slice A0 l0.length c0, .agg #[.string a1_0, .string a1_1], .slice A2 l2.length c2, .slice A3 l3.length c3] rfl (Zl) ?_; (with_reducible refine (QaW.calls k _ _ l0 a1_0 a1_1 _ _ l2 _ _ l3 t683 t684 _ ?side1 ?side2 ?side3 ?side4 ?side5 ?side6 A5.out).mono ?_); (case side1 => exact Zv (Kd.C_below HR0.out HB.out)); (case side2 => exact HC0.out); (case side3 => exact Zv (Kd.C_below HR2.out HB.out)); (case side4 => exact HC2.out); (case side5 => exact Zv (Kd.C_below HR3.out HB.out)); (case side6 => exact HC3.out); rintro e w14 ⟨rfl, hb⟩; refine ⟨_, rfl, ?_⟩; replace BK680 := Aside0.mk (Zi BK680.out hb); replace BK681 := Aside0.mk (Zi BK681.out hb); replace BK682 := Aside0.mk (Zi BK682.out hb); replace HB := Aside0.mk (Qan (Zc3 GE680.out GE681.out GE682.out) hb); (try clear hb); (try clear hb2); (try clear hk); (try clear hi)))
 (try simp only [Act.put, Zj, Zk, Zm])
 by_cases c15 : t684 = 0
 ·rw [if_pos c15] at H
  have c15b0 : (t684 == 0) = T := beq_iff_eq.mpr c15
  have c15b1 : (t684 != 0) = F := bne_eq_false_iff_eq.mpr c15
  clear c15
  (try simp only [c15b0, c15b1])
  replace H := Option.bind_eq_some_iff.mp H
  obtain ⟨t685, A160, H⟩ := H
  replace H : (Qa5.l0 k l2 l3 t685 (t685.length : Int) 0 0 0 0 0) = some (r1, r2, r3, r4, r5) := H
  have A16 := Aside0.mk A160
  clear A160
  have H' := Aside0.mk H
  clear H
  have hnb17 := NB682_680.out
  have hnc17 := NB680_682.out
  have hnb18 := NB682_681.out
  have hnc18 := NB681_682.out
  obtain ⟨hcz19_0, hfz19_0⟩ := Zy (v := (.string a1_0)) BK682.out 0
  obtain ⟨hcz19_1, hfz19_1⟩ := Zy (v := (.string a1_1)) BK682.out 1
  go_wp2_with (first | ((with_reducible refine Qaw (f := 86) rfl ?_); refine goesL_ (some 32) rfl rfl Try.func86 (by kernel_rfl) rfl #[.slice A0 l0.length c0, .agg #[.string a1_0, .string a1_1]] rfl (Zl) ?_; (with_reducible refine (Qa4.calls k _ _ l0 a1_0 a1_1 t685 _ ?side1 ?side2 A16.out).mono ?_); (case side1 => exact Zv (Kd.C_below HR0.out HB.out)); (case side2 => exact HC0.out); rintro e w20 ⟨v686, rfl, ho0, hb⟩; refine ⟨_, rfl, ?_⟩; have HO687 := Aside0.mk (Kd.R_lower ho0 (Qam (Zc3 GE680.out GE681.out GE682.out))); replace BK680 := Aside0.mk (Zi BK680.out hb); replace BK681 := Aside0.mk (Zi BK681.out hb); replace BK682 := Aside0.mk (Zi BK682.out hb); replace HB := Aside0.mk (Qan (Zc3 GE680.out GE681.out GE682.out) hb); (try clear hb); (try clear hb2); (try clear hk); (try clear hi); (try clear ho0); obtain ⟨Ao21, co21, eo21⟩ := Kd.R_slice HO687.out; subst eo21))
  go_loopg [34] k (fun kq v334 w' => ∃ (x334_1 : Int) (x682000_1 : Int) (x682001_1 : Int) (x682002_1 : Int) (x682003_1 : Int), v334 = .int .i64 x334_1 ∧ Aside0 (Qa5.l0 kq l2 l3 t685 (t685.length : Int) x334_1 x682000_1 x682001_1 x682002_1 x682003_1 = some (r1, r2, r3, r4, r5)) ∧ Aside0 (kq ≤ k) ∧ Aside0 (Kd.R k46 46 w' w.heap.size (fun _ => True) (.slice Ao21 t685.length co21) t685) ∧ Aside0 (w'.heap[gb680]? = some (.cells #[.string a1_0, .string a1_1] 44 (0, 0))) ∧ Aside0 (w'.heap[gb681]? = some (.cells #[.int .i64 x682000_1, .int .i64 x682001_1, .int .i64 x682002_1, .int .i64 x682003_1] 74 (0, 0))) ∧ Aside0 (w'.heap[gb682]? = some (.cells #[.string a1_0, .string a1_1] 44 (0, 0))) ∧ Aside0 (Below w.heap.size w w'))
  case atStart => exact ⟨(0), (0), (0), (0), (0), (Zs), H', ⟨Nat.le_refl _⟩, ⟨Zr HO687.out⟩, ⟨Zu BK680.out⟩, ⟨Zu BK681.out⟩, ⟨Zu BK682.out⟩, ⟨Zc3 GE680.out GE681.out GE682.out⟩⟩
  case round =>
   clear H'
   try clear c1
   try clear c2
   try clear p2
   try clear c3
   try clear c8
   try clear c11
   try clear c12
   try clear c15
   try clear c15b0
   try clear c15b1
   try clear c17
   try clear c18
   try clear hcz13_0
   try clear hcz13_1
   try clear hcz19_0
   try clear hcz19_1
   try clear hcz9_0
   try clear hcz9_1
   try clear hfz13_0
   try clear hfz13_1
   try clear hfz19_0
   try clear hfz19_1
   try clear hfz9_0
   try clear hfz9_1
   obtain ⟨x334_1, x682000_1, x682001_1, x682002_1, x682003_1, rfl, HA, HK1, HO_332, BK680, BK681, BK682, HB⟩ := hrel
   cases gk with
   | zero => exact absurd HA.out (by simp [Qa5.l0])
   | succ k1 =>
    have H := HA.out
    clear HA
    simp only [Qa5.l0] at H
    by_cases c22 : x334_1 < (t685.length : Int)
    ·rw [if_pos c22] at H
     have c22b0 : decide (x334_1 < (t685.length : Int)) = T := decide_eq_true c22
     clear c22
     (try simp only [c22b0])
     by_cases c23 : 0 ≤ x334_1
     ·rw [if_pos c23] at H
      have c23b0 : decide (0 ≤ x334_1) = T := decide_eq_true c23
      clear c23
      by_cases c24 : x334_1 < (t685.length : Int)
      ·rw [if_pos c24] at H
       have c24b0 : decide (x334_1 < (t685.length : Int)) = T := decide_eq_true c24
       clear c24
       replace H := Option.bind_eq_some_iff.mp H
       obtain ⟨⟨t690, t691, t692, t693, t694, t695, t696⟩, A250, H⟩ := H
       replace H : ((Qbh.f k1 t690 t691 t692 t693 t694 t695 ((rd_T46 t685 x334_1).f2) l3).bind fun bt698 => (if bt698.2 = 0 then (if t691 = 0 then (Qa5.l0 k1 l2 l3 t685 (t685.length : Int) (wrap64 (x334_1 + 1)) (wrap64 (x682000_1 + bt698.1)) x682001_1 x682002_1 x682003_1) else (if t691 = 1 then (Qa5.l0 k1 l2 l3 t685 (t685.length : Int) (wrap64 (x334_1 + 1)) x682000_1 (wrap64 (x682001_1 + bt698.1)) x682002_1 x682003_1) else (if t691 = 2 then (Qa5.l0 k1 l2 l3 t685 (t685.length : Int) (wrap64 (x334_1 + 1)) x682000_1 x682001_1 (wrap64 (x682002_1 + bt698.1)) x682003_1) else (if t691 = 3 then (Qa5.l0 k1 l2 l3 t685 (t685.length : Int) (wrap64 (x334_1 + 1)) x682000_1 x682001_1 x682002_1 (wrap64 (x682003_1 + bt698.1))) else (none))))) else (some (0, 0, 0, 0, bt698.2)))) = some (r1, r2, r3, r4, r5) := H
       have A25 := Aside0.mk A250
       clear A250
       replace H := Option.bind_eq_some_iff.mp H
       obtain ⟨⟨t698, t699⟩, A260, H⟩ := H
       replace H : (if t699 = 0 then (if t691 = 0 then (Qa5.l0 k1 l2 l3 t685 (t685.length : Int) (wrap64 (x334_1 + 1)) (wrap64 (x682000_1 + t698)) x682001_1 x682002_1 x682003_1) else (if t691 = 1 then (Qa5.l0 k1 l2 l3 t685 (t685.length : Int) (wrap64 (x334_1 + 1)) x682000_1 (wrap64 (x682001_1 + t698)) x682002_1 x682003_1) else (if t691 = 2 then (Qa5.l0 k1 l2 l3 t685 (t685.length : Int) (wrap64 (x334_1 + 1)) x682000_1 x682001_1 (wrap64 (x682002_1 + t698)) x682003_1) else (if t691 = 3 then (Qa5.l0 k1 l2 l3 t685 (t685.length : Int) (wrap64 (x334_1 + 1)) x682000_1 x682001_1 x682002_1 (wrap64 (x682003_1 + t698))) else (none))))) else (some (0, 0, 0, 0, t699))) = some (r1, r2, r3, r4, r5) := H
       have A26 := Aside0.mk A260
       clear A260
       have p688 : 0 ≤ (x334_1 : Int) := Ze
       have q688 : x334_1 < (t685.length : Int) := Ze
       obtain ⟨ad688, e688, hx688_0, hx688_1, hx688_2, hx688_3⟩ := at_T46 (Kd.R_reads' HO_332.out).2.2 x334_1 p688 q688
       cases e688
       replace p688 := eq_true p688
       replace q688 := eq_true q688
       go_upto_if 54 with (first | ((with_reducible refine QaL (N := 14) rfl ?_); (refine gate_n (n := 61) rfl ?_); refine Zbx (N := 14) (cs := #[.string (⟨#[]⟩ : ByteArray), .string (⟨#[]⟩ : ByteArray), .string (⟨#[]⟩ : ByteArray), .int .i64 0]) (t := 46) ?_; intro gb689 hg w27 hbox hb; have BK689 := Aside0.mk (hbox); have GW689 := Aside0.mk (Zt w hg (Zc3 GE680.out GE681.out GE682.out)); have GE689 := GW689; have NB680_689 := Aside0.mk (Zn hg BK680.out); have NB689_680 := Aside0.mk NB680_689.out.symm; have NB681_689 := Aside0.mk (Zn hg BK681.out); have NB689_681 := Aside0.mk NB681_689.out.symm; have NB682_689 := Aside0.mk (Zn hg BK682.out); have NB689_682 := Aside0.mk NB682_689.out.symm; replace HO_332 := Aside0.mk (Kd.R_below (Kd.R_elderB (Zr HO_332.out) gb689 (Nat.le_of_eq hg.symm)) hb); replace BK680 := Aside0.mk (Zi BK680.out hb); replace BK681 := Aside0.mk (Zi BK681.out hb); replace BK682 := Aside0.mk (Zi BK682.out hb); replace HB := Aside0.mk (Qan (Zc3 GE680.out GE681.out GE682.out) hb); clear hb hbox hg; have hnb28 := NB689_680.out; have hnc28 := NB680_689.out; have hnb29 := NB689_681.out; have hnc29 := NB681_689.out; have hnb30 := NB689_682.out; have hnc30 := NB682_689.out; obtain ⟨hcz31_0, hfz31_0⟩ := Zy (v := (.string (⟨#[]⟩ : ByteArray))) BK689.out 0; obtain ⟨hcz31_1, hfz31_1⟩ := Zy (v := (.string (⟨#[]⟩ : ByteArray))) BK689.out 1; obtain ⟨hcz31_2, hfz31_2⟩ := Zy (v := (.string (⟨#[]⟩ : ByteArray))) BK689.out 2; obtain ⟨hcz31_3, hfz31_3⟩ := Zy (v := (.int .i64 0)) BK689.out 3) | ((with_reducible refine Qaw (f := 48) rfl ?_); refine goesL_ (some 42) rfl rfl Try.func48 (by kernel_rfl) rfl #[.slice A2 l2.length c2, .string ((rd_T46 t685 x334_1).f1)] rfl (Zl) ?_; (with_reducible refine (Qbf.calls k1 _ _ l2 ((rd_T46 t685 x334_1).f1) t690 t691 t692 t693 t694 t695 t696 _ ?side1 ?side2 A25.out).mono ?_); (case side1 => exact Kd.C_below HR2.out (Zc4 GE680.out GE681.out GE682.out GE689.out)); (case side2 => exact HC2.out); rintro e w32 ⟨rfl, hb⟩; refine ⟨_, rfl, ?_⟩; replace HO_332 := Aside0.mk (Kd.R_below (by (with_reducible repeat (first | apply Kd.R_alloc | apply Kd.R_drewN | apply Kd.R_drew)); exact (Kd.R_mono (Zf gb689 3 (Zf gb689 2 (Zf gb689 1 (Zf gb689 0 (Kd.R_mono HO_332.out (fun k_ hk => (⟨hk, hk.2⟩ : _ ∧ k_ ≠ gb689))) (.string ((rd_T46 t685 x334_1).f0.f0))) (.string ((rd_T46 t685 x334_1).f0.f1))) (.string ((rd_T46 t685 x334_1).f1))) (.int .i64 ((rd_T46 t685 x334_1).f2))) (fun _ h_ => h_.1))) hb); replace BK680 := Aside0.mk (Qal (g := gb680) (o := .cells #[.string a1_0, .string a1_1] 44 (0, 0)) (Zg4 BK680.out NB680_689.out NB680_689.out NB680_689.out NB680_689.out) hb); replace BK681 := Aside0.mk (Qal (g := gb681) (o := .cells #[.int .i64 x682000_1, .int .i64 x682001_1, .int .i64 x682002_1, .int .i64 x682003_1] 74 (0, 0)) (Zg4 BK681.out NB681_689.out NB681_689.out NB681_689.out NB681_689.out) hb); replace BK682 := Aside0.mk (Qal (g := gb682) (o := .cells #[.string a1_0, .string a1_1] 44 (0, 0)) (Zg4 BK682.out NB682_689.out NB682_689.out NB682_689.out NB682_689.out) hb); replace BK689 := Aside0.mk (Zpi #[.string ((rd_T46 t685 x334_1).f0.f0), .string ((rd_T46 t685 x334_1).f0.f1), .string ((rd_T46 t685 x334_1).f1), .int .i64 ((rd_T46 t685 x334_1).f2)] BK689.out hb); replace HB := Aside0.mk (Qan (Zc4 GE680.out GE681.out GE682.out GE689.out) hb); (try clear hb); (try clear hb2); (try clear hk); (try clear hi)) | ((with_reducible refine QaL (N := 15) rfl ?_); (refine gate_n (n := 61) rfl ?_); refine Zbx (N := 15) (cs := #[.string (⟨#[]⟩ : ByteArray), .int .i64 0, .int .i64 0, .int .i64 0, .int .i64 0, .int .i64 0]) (t := 84) ?_; intro gb697 hg w33 hbox hb; have BK697 := Aside0.mk (hbox); have GW697 := Aside0.mk (Zt w hg (Zc4 GE680.out GE681.out GE682.out GE689.out)); have GE697 := GW697; have NB680_697 := Aside0.mk (Zn hg BK680.out); have NB697_680 := Aside0.mk NB680_697.out.symm; have NB681_697 := Aside0.mk (Zn hg BK681.out); have NB697_681 := Aside0.mk NB681_697.out.symm; have NB682_697 := Aside0.mk (Zn hg BK682.out); have NB697_682 := Aside0.mk NB682_697.out.symm; have NB689_697 := Aside0.mk (Zn hg BK689.out); have NB697_689 := Aside0.mk NB689_697.out.symm; replace HO_332 := Aside0.mk (Kd.R_below (Zr HO_332.out) hb); replace BK680 := Aside0.mk (Zi BK680.out hb); replace BK681 := Aside0.mk (Zi BK681.out hb); replace BK682 := Aside0.mk (Zi BK682.out hb); replace BK689 := Aside0.mk (Zi BK689.out hb); replace HB := Aside0.mk (Qan (Zc4 GE680.out GE681.out GE682.out GE689.out) hb); clear hb hbox hg; have hnb34 := NB697_680.out; have hnc34 := NB680_697.out; have hnb35 := NB697_681.out; have hnc35 := NB681_697.out; have hnb36 := NB697_682.out; have hnc36 := NB682_697.out; have hnb37 := NB697_689.out; have hnc37 := NB689_697.out; obtain ⟨hcz38_0, hfz38_0⟩ := Zy (v := (.string (⟨#[]⟩ : ByteArray))) BK697.out 0; obtain ⟨hcz38_1, hfz38_1⟩ := Zy (v := (.int .i64 0)) BK697.out 1; obtain ⟨hcz38_2, hfz38_2⟩ := Zy (v := (.int .i64 0)) BK697.out 2; obtain ⟨hcz38_3, hfz38_3⟩ := Zy (v := (.int .i64 0)) BK697.out 3; obtain ⟨hcz38_4, hfz38_4⟩ := Zy (v := (.int .i64 0)) BK697.out 4; obtain ⟨hcz38_5, hfz38_5⟩ := Zy (v := (.int .i64 0)) BK697.out 5; obtain ⟨hcz39_0, hfz39_0⟩ := Zy (v := (.string ((rd_T46 t685 x334_1).f0.f0))) BK689.out 0; obtain ⟨hcz39_1, hfz39_1⟩ := Zy (v := (.string ((rd_T46 t685 x334_1).f0.f1))) BK689.out 1; obtain ⟨hcz39_2, hfz39_2⟩ := Zy (v := (.string ((rd_T46 t685 x334_1).f1))) BK689.out 2; obtain ⟨hcz39_3, hfz39_3⟩ := Zy (v := (.int .i64 ((rd_T46 t685 x334_1).f2))) BK689.out 3) | ((with_reducible refine Qaw (f := 82) rfl ?_); refine goesL_ (some 50) rfl rfl Try.func82 (by kernel_rfl) rfl #[.agg #[.string t690, .int .i64 t691, .int .i64 t692, .int .i64 t693, .int .i64 t694, .int .i64 t695], .int .i64 ((rd_T46 t685 x334_1).f2), .slice A3 l3.length c3] rfl (Zl) ?_; (with_reducible refine (Qbh.calls k1 t690 t691 t692 t693 t694 t695 ((rd_T46 t685 x334_1).f2) _ _ l3 t698 t699 _ ?side1 ?side2 A26.out).mono ?_); (case side1 => exact Kd.C_below HR3.out (Zc5 GE680.out GE681.out GE682.out GE689.out GE697.out)); (case side2 => exact HC3.out); rintro e w40 ⟨rfl, hb⟩; refine ⟨_, rfl, ?_⟩; replace HO_332 := Aside0.mk (Kd.R_below (by (with_reducible repeat (first | apply Kd.R_alloc | apply Kd.R_drewN | apply Kd.R_drew)); exact (Kd.R_mono (Zf gb697 5 (Zf gb697 4 (Zf gb697 3 (Zf gb697 2 (Zf gb697 1 (Zf gb697 0 (Kd.R_types HO_332.out BK697.out (by decide)) (.string t690)) (.int .i64 t691)) (.int .i64 t692)) (.int .i64 t693)) (.int .i64 t694)) (.int .i64 t695)) (fun _ h_ => h_.1))) hb); replace BK680 := Aside0.mk (Qal (g := gb680) (o := .cells #[.string a1_0, .string a1_1] 44 (0, 0)) (Zg6 BK680.out NB680_697.out NB680_697.out NB680_697.out NB680_697.out NB680_697.out NB680_697.out) hb); replace BK681 := Aside0.mk (Qal (g := gb681) (o := .cells #[.int .i64 x682000_1, .int .i64 x682001_1, .int .i64 x682002_1, .int .i64 x682003_1] 74 (0, 0)) (Zg6 BK681.out NB681_697.out NB681_697.out NB681_697.out NB681_697.out NB681_697.out NB681_697.out) hb); replace BK682 := Aside0.mk (Qal (g := gb682) (o := .cells #[.string a1_0, .string a1_1] 44 (0, 0)) (Zg6 BK682.out NB682_697.out NB682_697.out NB682_697.out NB682_697.out NB682_697.out NB682_697.out) hb); replace BK689 := Aside0.mk (Qal (g := gb689) (o := .cells #[.string ((rd_T46 t685 x334_1).f0.f0), .string ((rd_T46 t685 x334_1).f0.f1), .string ((rd_T46 t685 x334_1).f1), .int .i64 ((rd_T46 t685 x334_1).f2)] 46 (0, 0)) (Zg6 BK689.out NB689_697.out NB689_697.out NB689_697.out NB689_697.out NB689_697.out NB689_697.out) hb); replace BK697 := Aside0.mk (Zpi #[.string t690, .int .i64 t691, .int .i64 t692, .int .i64 t693, .int .i64 t694, .int .i64 t695] BK697.out hb); replace HB := Aside0.mk (Qan (Zc5 GE680.out GE681.out GE682.out GE689.out GE697.out) hb); (try clear hb); (try clear hb2); (try clear hk); (try clear hi)))
       (try simp only [Act.put, Zj, Zk, Zm])
       by_cases c41 : t699 = 0
       ·rw [if_pos c41] at H
        have c41b0 : (t699 == 0) = T := beq_iff_eq.mpr c41
        have c41b1 : (t699 != 0) = F := bne_eq_false_iff_eq.mpr c41
        clear c41
        (try simp only [c41b0, c41b1])
        by_cases c42 : t691 = 0
        ·rw [if_pos c42] at H
         have c42x := c42
         have c42b0 : (t691 == 0) = T := beq_iff_eq.mpr c42
         have c42b1 : (t691 != 0) = F := bne_eq_false_iff_eq.mpr c42
         clear c42
         have hnb43 := NB697_680.out
         have hnc43 := NB680_697.out
         have hnb44 := NB697_681.out
         have hnc44 := NB681_697.out
         have hnb45 := NB697_682.out
         have hnc45 := NB682_697.out
         have hnb46 := NB697_689.out
         have hnc46 := NB689_697.out
         obtain ⟨hcz47_0, hfz47_0⟩ := Zy (v := (.string t690)) BK697.out 0
         obtain ⟨hcz47_1, hfz47_1⟩ := Zy (v := (.int .i64 t691)) BK697.out 1
         obtain ⟨hcz47_2, hfz47_2⟩ := Zy (v := (.int .i64 t692)) BK697.out 2
         obtain ⟨hcz47_3, hfz47_3⟩ := Zy (v := (.int .i64 t693)) BK697.out 3
         obtain ⟨hcz47_4, hfz47_4⟩ := Zy (v := (.int .i64 t694)) BK697.out 4
         obtain ⟨hcz47_5, hfz47_5⟩ := Zy (v := (.int .i64 t695)) BK697.out 5
         go_upto_region 12 with (first | (go_at_call 65; go_in) | ((with_reducible refine QaL (N := 3) rfl ?_); (refine gate_n (n := 12) rfl ?_); refine Zbx (N := 3) (cs := #[.string t690, .int .i64 t691, .int .i64 t692, .int .i64 t693, .int .i64 t694, .int .i64 t695]) (t := 84) ?_; intro gb700 hg w48 hbox hb; have BK700 := Aside0.mk (hbox); have GW700 := Aside0.mk (Zt w hg (Zc5 GE680.out GE681.out GE682.out GE689.out GE697.out)); have GE700 := GW700; have NB680_700 := Aside0.mk (Zn hg BK680.out); have NB700_680 := Aside0.mk NB680_700.out.symm; have NB681_700 := Aside0.mk (Zn hg BK681.out); have NB700_681 := Aside0.mk NB681_700.out.symm; have NB682_700 := Aside0.mk (Zn hg BK682.out); have NB700_682 := Aside0.mk NB682_700.out.symm; have NB689_700 := Aside0.mk (Zn hg BK689.out); have NB700_689 := Aside0.mk NB689_700.out.symm; have NB697_700 := Aside0.mk (Zn hg BK697.out); have NB700_697 := Aside0.mk NB697_700.out.symm; replace HO_332 := Aside0.mk (Kd.R_below (Zr HO_332.out) hb); replace BK680 := Aside0.mk (Zi BK680.out hb); replace BK681 := Aside0.mk (Zi BK681.out hb); replace BK682 := Aside0.mk (Zi BK682.out hb); replace BK689 := Aside0.mk (Zi BK689.out hb); replace BK697 := Aside0.mk (Zi BK697.out hb); replace HB := Aside0.mk (Qan (Zc5 GE680.out GE681.out GE682.out GE689.out GE697.out) hb); clear hb hbox hg; have hnb49 := NB700_680.out; have hnc49 := NB680_700.out; have hnb50 := NB700_681.out; have hnc50 := NB681_700.out; have hnb51 := NB700_682.out; have hnc51 := NB682_700.out; have hnb52 := NB700_689.out; have hnc52 := NB689_700.out; have hnb53 := NB700_697.out; have hnc53 := NB697_700.out; obtain ⟨hcz54_0, hfz54_0⟩ := Zy (v := (.string t690)) BK700.out 0; obtain ⟨hcz54_1, hfz54_1⟩ := Zy (v := (.int .i64 t691)) BK700.out 1; obtain ⟨hcz54_2, hfz54_2⟩ := Zy (v := (.int .i64 t692)) BK700.out 2; obtain ⟨hcz54_3, hfz54_3⟩ := Zy (v := (.int .i64 t693)) BK700.out 3; obtain ⟨hcz54_4, hfz54_4⟩ := Zy (v := (.int .i64 t694)) BK700.out 4; obtain ⟨hcz54_5, hfz54_5⟩ := Zy (v := (.int .i64 t695)) BK700.out 5; have hnb55 := NB681_680.out; have hnc55 := NB680_681.out; have hnb56 := NB681_682.out; have hnc56 := NB682_681.out; have hnb57 := NB681_689.out; have hnc57 := NB689_681.out; obtain ⟨hcz58_0, hfz58_0⟩ := Zy (v := (.int .i64 x682000_1)) BK681.out 0; obtain ⟨hcz58_1, hfz58_1⟩ := Zy (v := (.int .i64 x682001_1)) BK681.out 1; obtain ⟨hcz58_2, hfz58_2⟩ := Zy (v := (.int .i64 x682002_1)) BK681.out 2; obtain ⟨hcz58_3, hfz58_3⟩ := Zy (v := (.int .i64 x682003_1)) BK681.out 3) | ((first | go_end0 | (refine bodyPost_ret (results_none rfl _ _ _) rfl ?_))))
         (try simp only [Act.put, Zj, Zk, Zm])
         have H' := Aside0.mk H
         clear H
         go_wp2
         go_roundg k1
         case measure => have := HK1.out; omega
         case rel => exact ⟨(wrap64 (x334_1 + 1)), (wrap64 (x682000_1 + t698)), (x682001_1), (x682002_1), (x682003_1), (Zs), H', ⟨by have := HK1.out; omega⟩, ⟨by (with_reducible repeat (first | apply Kd.R_alloc | apply Kd.R_drewN | apply Kd.R_drew)); exact Kd.R_mono (Zf gb681 0 (Kd.R_types HO_332.out BK681.out (by decide)) (.int .i64 (wrap64 (x682000_1 + t698)))) (fun _ hk => trivial)⟩, ⟨Zg1 BK680.out NB680_681.out⟩, ⟨Zp2 BK681.out⟩, ⟨Zg1 BK682.out NB682_681.out⟩, ⟨Zc6 GE680.out GE681.out GE682.out GE689.out GE697.out GE700.out⟩⟩
        rw [if_neg c42] at H
        have c42b0 : (t691 == 0) = F := beq_eq_false_iff_ne.mpr c42
        have c42b1 : (t691 != 0) = T := bne_iff_ne.mpr c42
        by_cases c59 : t691 = 1
        ·rw [if_pos c59] at H
         have c59x := c59
         have c59b0 : (t691 == 1) = T := beq_iff_eq.mpr c59
         have c59b1 : (t691 != 1) = F := bne_eq_false_iff_eq.mpr c59
         clear c59
         have hnb60 := NB697_680.out
         have hnc60 := NB680_697.out
         have hnb61 := NB697_681.out
         have hnc61 := NB681_697.out
         have hnb62 := NB697_682.out
         have hnc62 := NB682_697.out
         have hnb63 := NB697_689.out
         have hnc63 := NB689_697.out
         obtain ⟨hcz64_0, hfz64_0⟩ := Zy (v := (.string t690)) BK697.out 0
         obtain ⟨hcz64_1, hfz64_1⟩ := Zy (v := (.int .i64 t691)) BK697.out 1
         obtain ⟨hcz64_2, hfz64_2⟩ := Zy (v := (.int .i64 t692)) BK697.out 2
         obtain ⟨hcz64_3, hfz64_3⟩ := Zy (v := (.int .i64 t693)) BK697.out 3
         obtain ⟨hcz64_4, hfz64_4⟩ := Zy (v := (.int .i64 t694)) BK697.out 4
         obtain ⟨hcz64_5, hfz64_5⟩ := Zy (v := (.int .i64 t695)) BK697.out 5
         go_upto_region 12 with (first | (go_at_call 65; go_in) | ((with_reducible refine QaL (N := 3) rfl ?_); (refine gate_n (n := 12) rfl ?_); refine Zbx (N := 3) (cs := #[.string t690, .int .i64 t691, .int .i64 t692, .int .i64 t693, .int .i64 t694, .int .i64 t695]) (t := 84) ?_; intro gb700 hg w65 hbox hb; have BK700 := Aside0.mk (hbox); have GW700 := Aside0.mk (Zt w hg (Zc5 GE680.out GE681.out GE682.out GE689.out GE697.out)); have GE700 := GW700; have NB680_700 := Aside0.mk (Zn hg BK680.out); have NB700_680 := Aside0.mk NB680_700.out.symm; have NB681_700 := Aside0.mk (Zn hg BK681.out); have NB700_681 := Aside0.mk NB681_700.out.symm; have NB682_700 := Aside0.mk (Zn hg BK682.out); have NB700_682 := Aside0.mk NB682_700.out.symm; have NB689_700 := Aside0.mk (Zn hg BK689.out); have NB700_689 := Aside0.mk NB689_700.out.symm; have NB697_700 := Aside0.mk (Zn hg BK697.out); have NB700_697 := Aside0.mk NB697_700.out.symm; replace HO_332 := Aside0.mk (Kd.R_below (Zr HO_332.out) hb); replace BK680 := Aside0.mk (Zi BK680.out hb); replace BK681 := Aside0.mk (Zi BK681.out hb); replace BK682 := Aside0.mk (Zi BK682.out hb); replace BK689 := Aside0.mk (Zi BK689.out hb); replace BK697 := Aside0.mk (Zi BK697.out hb); replace HB := Aside0.mk (Qan (Zc5 GE680.out GE681.out GE682.out GE689.out GE697.out) hb); clear hb hbox hg; have hnb66 := NB700_680.out; have hnc66 := NB680_700.out; have hnb67 := NB700_681.out; have hnc67 := NB681_700.out; have hnb68 := NB700_682.out; have hnc68 := NB682_700.out; have hnb69 := NB700_689.out; have hnc69 := NB689_700.out; have hnb70 := NB700_697.out; have hnc70 := NB697_700.out; obtain ⟨hcz71_0, hfz71_0⟩ := Zy (v := (.string t690)) BK700.out 0; obtain ⟨hcz71_1, hfz71_1⟩ := Zy (v := (.int .i64 t691)) BK700.out 1; obtain ⟨hcz71_2, hfz71_2⟩ := Zy (v := (.int .i64 t692)) BK700.out 2; obtain ⟨hcz71_3, hfz71_3⟩ := Zy (v := (.int .i64 t693)) BK700.out 3; obtain ⟨hcz71_4, hfz71_4⟩ := Zy (v := (.int .i64 t694)) BK700.out 4; obtain ⟨hcz71_5, hfz71_5⟩ := Zy (v := (.int .i64 t695)) BK700.out 5; have hnb72 := NB681_680.out; have hnc72 := NB680_681.out; have hnb73 := NB681_682.out; have hnc73 := NB682_681.out; have hnb74 := NB681_689.out; have hnc74 := NB689_681.out; obtain ⟨hcz75_0, hfz75_0⟩ := Zy (v := (.int .i64 x682000_1)) BK681.out 0; obtain ⟨hcz75_1, hfz75_1⟩ := Zy (v := (.int .i64 x682001_1)) BK681.out 1; obtain ⟨hcz75_2, hfz75_2⟩ := Zy (v := (.int .i64 x682002_1)) BK681.out 2; obtain ⟨hcz75_3, hfz75_3⟩ := Zy (v := (.int .i64 x682003_1)) BK681.out 3) | ((first | go_end0 | (refine bodyPost_ret (results_none rfl _ _ _) rfl ?_))))
         (try simp only [Act.put, Zj, Zk, Zm])
         have H' := Aside0.mk H
         clear H
         go_wp2
         go_roundg k1
         case measure => have := HK1.out; omega
         case rel => exact ⟨(wrap64 (x334_1 + 1)), (x682000_1), (wrap64 (x682001_1 + t698)), (x682002_1), (x682003_1), (Zs), H', ⟨by have := HK1.out; omega⟩, ⟨by (with_reducible repeat (first | apply Kd.R_alloc | apply Kd.R_drewN | apply Kd.R_drew)); exact Kd.R_mono (Zf gb681 1 (Kd.R_types HO_332.out BK681.out (by decide)) (.int .i64 (wrap64 (x682001_1 + t698)))) (fun _ hk => trivial)⟩, ⟨Zg1 BK680.out NB680_681.out⟩, ⟨Zp2 BK681.out⟩, ⟨Zg1 BK682.out NB682_681.out⟩, ⟨Zc6 GE680.out GE681.out GE682.out GE689.out GE697.out GE700.out⟩⟩
        rw [if_neg c59] at H
        have c59b0 : (t691 == 1) = F := beq_eq_false_iff_ne.mpr c59
        have c59b1 : (t691 != 1) = T := bne_iff_ne.mpr c59
        by_cases c76 : t691 = 2
        ·rw [if_pos c76] at H
         have c76x := c76
         have c76b0 : (t691 == 2) = T := beq_iff_eq.mpr c76
         have c76b1 : (t691 != 2) = F := bne_eq_false_iff_eq.mpr c76
         clear c76
         have hnb77 := NB697_680.out
         have hnc77 := NB680_697.out
         have hnb78 := NB697_681.out
         have hnc78 := NB681_697.out
         have hnb79 := NB697_682.out
         have hnc79 := NB682_697.out
         have hnb80 := NB697_689.out
         have hnc80 := NB689_697.out
         obtain ⟨hcz81_0, hfz81_0⟩ := Zy (v := (.string t690)) BK697.out 0
         obtain ⟨hcz81_1, hfz81_1⟩ := Zy (v := (.int .i64 t691)) BK697.out 1
         obtain ⟨hcz81_2, hfz81_2⟩ := Zy (v := (.int .i64 t692)) BK697.out 2
         obtain ⟨hcz81_3, hfz81_3⟩ := Zy (v := (.int .i64 t693)) BK697.out 3
         obtain ⟨hcz81_4, hfz81_4⟩ := Zy (v := (.int .i64 t694)) BK697.out 4
         obtain ⟨hcz81_5, hfz81_5⟩ := Zy (v := (.int .i64 t695)) BK697.out 5
         go_upto_region 12 with (first | (go_at_call 65; go_in) | ((with_reducible refine QaL (N := 3) rfl ?_); (refine gate_n (n := 12) rfl ?_); refine Zbx (N := 3) (cs := #[.string t690, .int .i64 t691, .int .i64 t692, .int .i64 t693, .int .i64 t694, .int .i64 t695]) (t := 84) ?_; intro gb700 hg w82 hbox hb; have BK700 := Aside0.mk (hbox); have GW700 := Aside0.mk (Zt w hg (Zc5 GE680.out GE681.out GE682.out GE689.out GE697.out)); have GE700 := GW700; have NB680_700 := Aside0.mk (Zn hg BK680.out); have NB700_680 := Aside0.mk NB680_700.out.symm; have NB681_700 := Aside0.mk (Zn hg BK681.out); have NB700_681 := Aside0.mk NB681_700.out.symm; have NB682_700 := Aside0.mk (Zn hg BK682.out); have NB700_682 := Aside0.mk NB682_700.out.symm; have NB689_700 := Aside0.mk (Zn hg BK689.out); have NB700_689 := Aside0.mk NB689_700.out.symm; have NB697_700 := Aside0.mk (Zn hg BK697.out); have NB700_697 := Aside0.mk NB697_700.out.symm; replace HO_332 := Aside0.mk (Kd.R_below (Zr HO_332.out) hb); replace BK680 := Aside0.mk (Zi BK680.out hb); replace BK681 := Aside0.mk (Zi BK681.out hb); replace BK682 := Aside0.mk (Zi BK682.out hb); replace BK689 := Aside0.mk (Zi BK689.out hb); replace BK697 := Aside0.mk (Zi BK697.out hb); replace HB := Aside0.mk (Qan (Zc5 GE680.out GE681.out GE682.out GE689.out GE697.out) hb); clear hb hbox hg; have hnb83 := NB700_680.out; have hnc83 := NB680_700.out; have hnb84 := NB700_681.out; have hnc84 := NB681_700.out; have hnb85 := NB700_682.out; have hnc85 := NB682_700.out; have hnb86 := NB700_689.out; have hnc86 := NB689_700.out; have hnb87 := NB700_697.out; have hnc87 := NB697_700.out; obtain ⟨hcz88_0, hfz88_0⟩ := Zy (v := (.string t690)) BK700.out 0; obtain ⟨hcz88_1, hfz88_1⟩ := Zy (v := (.int .i64 t691)) BK700.out 1; obtain ⟨hcz88_2, hfz88_2⟩ := Zy (v := (.int .i64 t692)) BK700.out 2; obtain ⟨hcz88_3, hfz88_3⟩ := Zy (v := (.int .i64 t693)) BK700.out 3; obtain ⟨hcz88_4, hfz88_4⟩ := Zy (v := (.int .i64 t694)) BK700.out 4; obtain ⟨hcz88_5, hfz88_5⟩ := Zy (v := (.int .i64 t695)) BK700.out 5; have hnb89 := NB681_680.out; have hnc89 := NB680_681.out; have hnb90 := NB681_682.out; have hnc90 := NB682_681.out; have hnb91 := NB681_689.out; have hnc91 := NB689_681.out; obtain ⟨hcz92_0, hfz92_0⟩ := Zy (v := (.int .i64 x682000_1)) BK681.out 0; obtain ⟨hcz92_1, hfz92_1⟩ := Zy (v := (.int .i64 x682001_1)) BK681.out 1; obtain ⟨hcz92_2, hfz92_2⟩ := Zy (v := (.int .i64 x682002_1)) BK681.out 2; obtain ⟨hcz92_3, hfz92_3⟩ := Zy (v := (.int .i64 x682003_1)) BK681.out 3) | ((first | go_end0 | (refine bodyPost_ret (results_none rfl _ _ _) rfl ?_))))
         (try simp only [Act.put, Zj, Zk, Zm])
         have H' := Aside0.mk H
         clear H
         go_wp2
         go_roundg k1
         case measure => have := HK1.out; omega
         case rel => exact ⟨(wrap64 (x334_1 + 1)), (x682000_1), (x682001_1), (wrap64 (x682002_1 + t698)), (x682003_1), (Zs), H', ⟨by have := HK1.out; omega⟩, ⟨by (with_reducible repeat (first | apply Kd.R_alloc | apply Kd.R_drewN | apply Kd.R_drew)); exact Kd.R_mono (Zf gb681 2 (Kd.R_types HO_332.out BK681.out (by decide)) (.int .i64 (wrap64 (x682002_1 + t698)))) (fun _ hk => trivial)⟩, ⟨Zg1 BK680.out NB680_681.out⟩, ⟨Zp2 BK681.out⟩, ⟨Zg1 BK682.out NB682_681.out⟩, ⟨Zc6 GE680.out GE681.out GE682.out GE689.out GE697.out GE700.out⟩⟩
        rw [if_neg c76] at H
        have c76b0 : (t691 == 2) = F := beq_eq_false_iff_ne.mpr c76
        have c76b1 : (t691 != 2) = T := bne_iff_ne.mpr c76
        by_cases c93 : t691 = 3
        ·rw [if_pos c93] at H
         have c93x := c93
         have c93b0 : (t691 == 3) = T := beq_iff_eq.mpr c93
         have c93b1 : (t691 != 3) = F := bne_eq_false_iff_eq.mpr c93
         clear c93
         have hnb94 := NB697_680.out
         have hnc94 := NB680_697.out
         have hnb95 := NB697_681.out
         have hnc95 := NB681_697.out
         have hnb96 := NB697_682.out
         have hnc96 := NB682_697.out
         have hnb97 := NB697_689.out
         have hnc97 := NB689_697.out
         obtain ⟨hcz98_0, hfz98_0⟩ := Zy (v := (.string t690)) BK697.out 0
         obtain ⟨hcz98_1, hfz98_1⟩ := Zy (v := (.int .i64 t691)) BK697.out 1
         obtain ⟨hcz98_2, hfz98_2⟩ := Zy (v := (.int .i64 t692)) BK697.out 2
         obtain ⟨hcz98_3, hfz98_3⟩ := Zy (v := (.int .i64 t693)) BK697.out 3
         obtain ⟨hcz98_4, hfz98_4⟩ := Zy (v := (.int .i64 t694)) BK697.out 4
         obtain ⟨hcz98_5, hfz98_5⟩ := Zy (v := (.int .i64 t695)) BK697.out 5
         go_upto_region 12 with (first | (go_at_call 65; go_in) | ((with_reducible refine QaL (N := 3) rfl ?_); (refine gate_n (n := 12) rfl ?_); refine Zbx (N := 3) (cs := #[.string t690, .int .i64 t691, .int .i64 t692, .int .i64 t693, .int .i64 t694, .int .i64 t695]) (t := 84) ?_; intro gb700 hg w99 hbox hb; have BK700 := Aside0.mk (hbox); have GW700 := Aside0.mk (Zt w hg (Zc5 GE680.out GE681.out GE682.out GE689.out GE697.out)); have GE700 := GW700; have NB680_700 := Aside0.mk (Zn hg BK680.out); have NB700_680 := Aside0.mk NB680_700.out.symm; have NB681_700 := Aside0.mk (Zn hg BK681.out); have NB700_681 := Aside0.mk NB681_700.out.symm; have NB682_700 := Aside0.mk (Zn hg BK682.out); have NB700_682 := Aside0.mk NB682_700.out.symm; have NB689_700 := Aside0.mk (Zn hg BK689.out); have NB700_689 := Aside0.mk NB689_700.out.symm; have NB697_700 := Aside0.mk (Zn hg BK697.out); have NB700_697 := Aside0.mk NB697_700.out.symm; replace HO_332 := Aside0.mk (Kd.R_below (Zr HO_332.out) hb); replace BK680 := Aside0.mk (Zi BK680.out hb); replace BK681 := Aside0.mk (Zi BK681.out hb); replace BK682 := Aside0.mk (Zi BK682.out hb); replace BK689 := Aside0.mk (Zi BK689.out hb); replace BK697 := Aside0.mk (Zi BK697.out hb); replace HB := Aside0.mk (Qan (Zc5 GE680.out GE681.out GE682.out GE689.out GE697.out) hb); clear hb hbox hg; have hnb100 := NB700_680.out; have hnc100 := NB680_700.out; have hnb101 := NB700_681.out; have hnc101 := NB681_700.out; have hnb102 := NB700_682.out; have hnc102 := NB682_700.out; have hnb103 := NB700_689.out; have hnc103 := NB689_700.out; have hnb104 := NB700_697.out; have hnc104 := NB697_700.out; obtain ⟨hcz105_0, hfz105_0⟩ := Zy (v := (.string t690)) BK700.out 0; obtain ⟨hcz105_1, hfz105_1⟩ := Zy (v := (.int .i64 t691)) BK700.out 1; obtain ⟨hcz105_2, hfz105_2⟩ := Zy (v := (.int .i64 t692)) BK700.out 2; obtain ⟨hcz105_3, hfz105_3⟩ := Zy (v := (.int .i64 t693)) BK700.out 3; obtain ⟨hcz105_4, hfz105_4⟩ := Zy (v := (.int .i64 t694)) BK700.out 4; obtain ⟨hcz105_5, hfz105_5⟩ := Zy (v := (.int .i64 t695)) BK700.out 5; have hnb106 := NB681_680.out; have hnc106 := NB680_681.out; have hnb107 := NB681_682.out; have hnc107 := NB682_681.out; have hnb108 := NB681_689.out; have hnc108 := NB689_681.out; obtain ⟨hcz109_0, hfz109_0⟩ := Zy (v := (.int .i64 x682000_1)) BK681.out 0; obtain ⟨hcz109_1, hfz109_1⟩ := Zy (v := (.int .i64 x682001_1)) BK681.out 1; obtain ⟨hcz109_2, hfz109_2⟩ := Zy (v := (.int .i64 x682002_1)) BK681.out 2; obtain ⟨hcz109_3, hfz109_3⟩ := Zy (v := (.int .i64 x682003_1)) BK681.out 3) | ((first | go_end0 | (refine bodyPost_ret (results_none rfl _ _ _) rfl ?_))))
         (try simp only [Act.put, Zj, Zk, Zm])
         have H' := Aside0.mk H
         clear H
         go_wp2
         go_roundg k1
         case measure => have := HK1.out; omega
         case rel => exact ⟨(wrap64 (x334_1 + 1)), (x682000_1), (x682001_1), (x682002_1), (wrap64 (x682003_1 + t698)), (Zs), H', ⟨by have := HK1.out; omega⟩, ⟨by (with_reducible repeat (first | apply Kd.R_alloc | apply Kd.R_drewN | apply Kd.R_drew)); exact Kd.R_mono (Zf gb681 3 (Kd.R_types HO_332.out BK681.out (by decide)) (.int .i64 (wrap64 (x682003_1 + t698)))) (fun _ hk => trivial)⟩, ⟨Zg1 BK680.out NB680_681.out⟩, ⟨Zp2 BK681.out⟩, ⟨Zg1 BK682.out NB682_681.out⟩, ⟨Zc6 GE680.out GE681.out GE682.out GE689.out GE697.out GE700.out⟩⟩
        rw [if_neg c93] at H
        exact absurd H (by simp)
       rw [if_neg c41] at H
       have c41b0 : (t699 == 0) = F := beq_eq_false_iff_ne.mpr c41
       have c41b1 : (t699 != 0) = T := bne_iff_ne.mpr c41
       (try simp only [c41b0, c41b1])
       go_upto_region 2 with (fail)
       simp only [Option.some.injEq, Prod.mk.injEq] at H
       obtain ⟨rfl, rfl, rfl, rfl, rfl⟩ := H
       have hnb110 := NB681_680.out
       have hnc110 := NB680_681.out
       have hnb111 := NB681_682.out
       have hnc111 := NB682_681.out
       have hnb112 := NB681_689.out
       have hnc112 := NB689_681.out
       have hnb113 := NB681_697.out
       have hnc113 := NB697_681.out
       obtain ⟨hcz114_0, hfz114_0⟩ := Zy (v := (.int .i64 x682000_1)) BK681.out 0
       obtain ⟨hcz114_1, hfz114_1⟩ := Zy (v := (.int .i64 x682001_1)) BK681.out 1
       obtain ⟨hcz114_2, hfz114_2⟩ := Zy (v := (.int .i64 x682002_1)) BK681.out 2
       obtain ⟨hcz114_3, hfz114_3⟩ := Zy (v := (.int .i64 x682003_1)) BK681.out 3
       go_wp2
       refine bodyPost_ret (Qb7 rfl _ _ gb681 74 #[.int .i64 0, .int .i64 0, .int .i64 0, .int .i64 0] (0, 0) _ rfl (Zp2 BK681.out) Try.underlying74 rfl (by kernel_rfl)) rfl ?_
       exact ⟨Zq, Zc5 GE680.out GE681.out GE682.out GE689.out GE697.out⟩
      rw [if_neg c24] at H
      exact absurd H (by simp)
     rw [if_neg c23] at H
     exact absurd H (by simp)
    rw [if_neg c22] at H
    have c22b0 : decide (x334_1 < (t685.length : Int)) = F := decide_eq_false c22
    clear c22
    (try simp only [c22b0])
    go_upto_region 2 with (fail)
    simp only [Option.some.injEq, Prod.mk.injEq] at H
    obtain ⟨rfl, rfl, rfl, rfl, rfl⟩ := H
    have hnb115 := NB681_680.out
    have hnc115 := NB680_681.out
    have hnb116 := NB681_682.out
    have hnc116 := NB682_681.out
    obtain ⟨hcz117_0, hfz117_0⟩ := Zy (v := (.int .i64 x682000_1)) BK681.out 0
    obtain ⟨hcz117_1, hfz117_1⟩ := Zy (v := (.int .i64 x682001_1)) BK681.out 1
    obtain ⟨hcz117_2, hfz117_2⟩ := Zy (v := (.int .i64 x682002_1)) BK681.out 2
    obtain ⟨hcz117_3, hfz117_3⟩ := Zy (v := (.int .i64 x682003_1)) BK681.out 3
    go_wp2
    refine bodyPost_ret (Qb7 rfl _ _ gb681 74 #[.int .i64 x682000_1, .int .i64 x682001_1, .int .i64 x682002_1, .int .i64 x682003_1] (0, 0) _ rfl (Zp2 BK681.out) Try.underlying74 rfl (by kernel_rfl)) rfl ?_
    exact ⟨Zq, Zc3 GE680.out GE681.out GE682.out⟩
 rw [if_neg c15] at H
 have c15b0 : (t684 == 0) = F := beq_eq_false_iff_ne.mpr c15
 have c15b1 : (t684 != 0) = T := bne_iff_ne.mpr c15
 (try simp only [c15b0, c15b1])
 simp only [Option.some.injEq, Prod.mk.injEq] at H
 obtain ⟨rfl, rfl, rfl, rfl, rfl⟩ := H
 have hnb118 := NB681_680.out
 have hnc118 := NB680_681.out
 have hnb119 := NB681_682.out
 have hnc119 := NB682_681.out
 obtain ⟨hcz120_0, hfz120_0⟩ := Zy (v := (.int .i64 0)) BK681.out 0
 obtain ⟨hcz120_1, hfz120_1⟩ := Zy (v := (.int .i64 0)) BK681.out 1
 obtain ⟨hcz120_2, hfz120_2⟩ := Zy (v := (.int .i64 0)) BK681.out 2
 obtain ⟨hcz120_3, hfz120_3⟩ := Zy (v := (.int .i64 0)) BK681.out 3
 go_wp2
 refine bodyPost_ret (Qb7 rfl _ _ gb681 74 #[.int .i64 0, .int .i64 0, .int .i64 0, .int .i64 0] (0, 0) _ rfl (Zp2 BK681.out) Try.underlying74 rfl (by kernel_rfl)) rfl ?_
 exact ⟨Zq, Zc3 GE680.out GE681.out GE682.out⟩
end Go.Proofs.Ytfcaaefdmabkhaa.Pr
