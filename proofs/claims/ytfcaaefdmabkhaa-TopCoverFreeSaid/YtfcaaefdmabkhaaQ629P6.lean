/- Functions' values and contracts, as the print wrote them. -/
import Derived.Test.YtfcaaefdmabkhaaQ629P0
import Derived.Test.YtfcaaefdmabkhaaQ629P2
import Derived.Test.YtfcaaefdmabkhaaQ629P5
import Derived.Test.YtfcaaefdmabkhaaQ629P1
import Derived.Test.YtfcaaefdmabkhaaQ629P3
import Derived.Test.YtfcaaefdmabkhaaQ629P4
namespace Go.Proofs.Ytfcaaefdmabkhaa.Pr
open Go.RowKit Go.Proofs.YtfcaaefdmabkhaaW.PrintWords Go.Proofs.YtfcaaefdmabkhaaW.PrintLast Go.Proofs.YtfcaaefdmabkhaaW.PrintMore
attribute [local go_sem] QaN QaP QaW QaX QaI QaJ QaO QaQ   -- for this text's walks alone
set_option linter.unusedVariables false
set_option linter.unusedSimpArgs false
def Qa5.f (k : Nat) (l0 : List (S46)) (a1_0 : ByteArray) (a1_1 : ByteArray) (a2 : Int) (l3 : List (S84)) (l4 : List (S98)) : Option (Int × Int) := (Qat.f k l0 a1_0 a1_1 a2 l3 l4).bind fun bt271 => (if bt271.2 = 0 then ((QaZ.f k bt271.1).bind fun bt275 => (some (bt275.1, bt275.2))) else (some (0, bt271.2)))
theorem Qa5.mono : ∀ a0 a1 a2 a3 a4 a5 k, LeO (Qa5.f k a0 a1 a2 a3 a4 a5) (Qa5.f (k + 1) a0 a1 a2 a3 a4 a5) := by
 intro a0 a1 a2 a3 a4 a5 k
 unfold Qa5.f
 repeat' first
   | (with_reducible exact QaZ.mono _ _)
   | (with_reducible exact Qat.mono _ _ _ _ _ _ _)
   | (with_reducible exact LeO.refl _)
   | (with_reducible exact LeO.none _)
   | (with_reducible refine LeO.ite ?_ ?_)
   | (with_reducible refine LeO.bind ?_ (fun _ => ?_))
   | exact QaZ.mono _ _
   | exact Qat.mono _ _ _ _ _ _ _
   | exact LeO.none _
   | refine LeO.ite ?_ ?_
   | refine LeO.bind ?_ (fun _ => ?_)
set_option maxHeartbeats 8000000 in
set_option maxRecDepth 100000 in
theorem Qa5.calls (k : Nat) (A0 : Option Addr) (c0 : Nat) (l0 : List (S46)) (a1_0 : ByteArray) (a1_1 : ByteArray) (a2 : Int) (A3 : Option Addr) (c3 : Nat) (l3 : List (S84)) (A4 : Option Addr) (c4 : Nat) (l4 : List (S98)) (r1 : Int) (r2 : Int) (w : World) (hr0 : Kd.C k46 w A0 l0.length l0) (hc0 : l0.length ≤ c0) (hr3 : Kd.C k84 w A3 l3.length l3) (hc3 : l3.length ≤ c3) (hr4 : Kd.C k98 w A4 l4.length l4) (hc4 : l4.length ≤ c4) (h : Qa5.f k l0 a1_0 a1_1 a2 l3 l4 = some (r1, r2)) :
  Calls Try.prog 30 #[.slice A0 l0.length c0, .agg #[.string a1_0, .string a1_1], .int .i64 a2, .slice A3 l3.length c3, .slice A4 l4.length c4] w fun e w' => e = .returned (.tuple #[.int .i64 r1, .int .i64 r2]) ∧ Below w.heap.size w w' := by
 have hu44 := Try.underlying44
 have HR0 := Aside0.mk hr0
 have HC0 := Aside0.mk hc0
 clear hr0 hc0
 have HR3 := Aside0.mk hr3
 have HC3 := Aside0.mk hc3
 clear hr3 hc3
 have HR4 := Aside0.mk hr4
 have HC4 := Aside0.mk hc4
 clear hr4 hc4
 have HB := Aside0.mk (Below.refl w.heap.size w)
 have H : ((Qat.f k l0 a1_0 a1_1 a2 l3 l4).bind fun bt271 => (if bt271.2 = 0 then ((QaZ.f k bt271.1).bind fun bt275 => (some (bt275.1, bt275.2))) else (some (0, bt271.2)))) = some (r1, r2) := h
 clear h
 replace H := Option.bind_eq_some_iff.mp H
 obtain ⟨⟨t271, t274⟩, A60, H⟩ := H
 replace H : (if t274 = 0 then ((QaZ.f k t271).bind fun bt275 => (some (bt275.1, bt275.2))) else (some (0, t274))) = some (r1, r2) := H
 have A6 := Aside0.mk A60
 clear A60
 go_enter Try.func30, Try.ntmps30
 go_upto_if 23 with (first | ((with_reducible refine QaD (N := 6) rfl ?_); refine QaL ?hg (N := 6) ?hd (cs := #[.string a1_0, .string a1_1]) (t := 44) ?hr ?_; (case hd => rfl); (case hg => rfl); (case hr => first | (go_simp; done) | (go_simp; rfl)); intro gb270 hg w7 hbox hb; have n0_ := Aside0.mk (Qaq (Zb) hb); have n1_ := Aside0.mk (hbox); have n2_ := Aside0.mk ((by rw [hg]; exact (Qan (Zb)) : w.heap.size ≤ gb270)); have n3_ := Aside0.mk ((by rw [hg]; exact (Qan (Zb)) : w.heap.size ≤ gb270)); clear HB; have HB := n0_; have BK270 := n1_; have GW270 := n2_; have GE270 := n3_; clear n0_ n1_ n2_ n3_; clear hb hbox hg; have hcz8_0 : w7.cell? ⟨gb270, 0, none⟩ = some (.string a1_0) := (Qah BK270.out 0).trans rfl; have hcz8_1 : w7.cell? ⟨gb270, 1, none⟩ = some (.string a1_1) := (Qah BK270.out 1).trans rfl; have hfz8_0 := Qaf BK270.out 0; have hfz8_1 := Qaf BK270.out 1) | ((with_reducible refine Qay (f := 28) rfl ?_); refine goesL_ (some 19) rfl rfl Try.func28 (by kernel_rfl) rfl #[.slice A0 l0.length c0, .agg #[.string a1_0, .string a1_1], .int .i64 a2, .slice A3 l3.length c3, .slice A4 l4.length c4] rfl (Zl) ?_; (with_reducible refine (Qat.calls k _ _ l0 a1_0 a1_1 a2 _ _ l3 _ _ l4 t271 t274 _ ?side1 ?side2 ?side3 ?side4 ?side5 ?side6 A6.out).mono ?_); (case side1 => exact Zv (Kd.C_below HR0.out HB.out)); (case side2 => exact HC0.out); (case side3 => exact Zv (Kd.C_below HR3.out HB.out)); (case side4 => exact HC3.out); (case side5 => exact Zv (Kd.C_below HR4.out HB.out)); (case side6 => exact HC4.out); rintro e w9 ⟨v272, rfl, ho0, hb⟩; refine ⟨_, rfl, ?_⟩; have n0_ := Aside0.mk (Kd.R_lower ho0 (Qan (Zc1 GE270.out))); have n1_ := Aside0.mk (Qaj (g := gb270) (o := .cells #[.string a1_0, .string a1_1] 44 (0, 0)) (Zu BK270.out) hb); have n2_ := Aside0.mk (Qaq (Zc1 GE270.out) hb); clear BK270; clear HB; have HO273 := n0_; have BK270 := n1_; have HB := n2_; clear n0_ n1_ n2_; (try clear hb); (try clear hb2); (try clear hk); (try clear hi); (try clear ho0)))
 (try simp only [Act.put, List.setIfInBounds_toArray, List.set_cons_zero, List.set_cons_succ])
 by_cases c10 : t274 = 0
 ·rw [if_pos c10] at H
  have c10b0 : (t274 == 0) = true := beq_iff_eq.mpr c10
  have c10b1 : (t274 != 0) = false := bne_eq_false_iff_eq.mpr c10
  clear c10
  (try simp only [c10b0, c10b1])
  replace H := Option.bind_eq_some_iff.mp H
  obtain ⟨⟨t275, t276⟩, A110, H⟩ := H
  replace H : (some (t275, t276)) = some (r1, r2) := H
  have A11 := Aside0.mk A110
  clear A110
  simp only [Option.some.injEq, Prod.mk.injEq] at H
  obtain ⟨rfl, rfl⟩ := H
  obtain ⟨Ao12, co12, eo12⟩ := Kd.R_slice HO273.out
  subst eo12
  go_wp2_with (first | ((with_reducible refine Qay (f := 59) rfl ?_); refine goesL_ (some 26) rfl rfl Try.func59 (by kernel_rfl) rfl #[.slice Ao12 t271.length co12] rfl (Zl) ?_; (with_reducible refine (QaZ.calls k _ _ t271 t275 t276 _ ?side1 ?side2 A11.out).mono ?_); (case side1 => repeat (first | exact (Kd.R_reads' HO273.out).2.2 | (with_reducible refine Kd.C_alloc ?_ _) | (with_reducible refine Kd.C_drewN ?_ _) | (with_reducible refine Kd.C_drew ?_))); (case side2 => exact (Kd.R_reads' HO273.out).2.1); rintro e w' ⟨rfl, ⟨nd, rfl⟩⟩; refine ⟨_, rfl, ?_⟩))
  go_ret2
  exact ⟨Zq, Zc1 GE270.out⟩
 ·rw [if_neg c10] at H
  have c10b0 : (t274 == 0) = false := beq_eq_false_iff_ne.mpr c10
  have c10b1 : (t274 != 0) = true := bne_iff_ne.mpr c10
  (try simp only [c10b0, c10b1])
  simp only [Option.some.injEq, Prod.mk.injEq] at H
  obtain ⟨rfl, rfl⟩ := H
  go_wp2
  go_ret2
  exact ⟨Zq, Zc1 GE270.out⟩
def Qaz.l0 : Nat → Int → Int → List (S46) → ByteArray → ByteArray → ByteArray → Int → List (S84) → List (S98) → Option (Int × Int)
 | 0, _, _, _, _, _, _, _, _, _ => none
 | k + 1, x305, x306, x654000, x655000, x655001, x656000, x657000, x658000, x659000 => if x305 < x306 then (if (wrap64 ((IntKind.u64.wrap (wrap64 (x305 + x306))) / 2)) > 0 then ((QaF.f k x654000 x655000 x655001 x656000 (wrap64 ((IntKind.u64.wrap (wrap64 (x305 + x306))) / 2))).bind fun bt671 => (if bt671.2 = 0 then ((Qa5.f k bt671.1 x655000 x655001 x657000 x658000 x659000).bind fun bt675 => (if bt675.2 = 0 then (if bt675.1 ≥ x657000 then (Qaz.l0 k (wrap64 ((wrap64 ((IntKind.u64.wrap (wrap64 (x305 + x306))) / 2)) + 1)) x306 x654000 x655000 x655001 x656000 x657000 x658000 x659000) else (Qaz.l0 k x305 (wrap64 ((IntKind.u64.wrap (wrap64 (x305 + x306))) / 2)) x654000 x655000 x655001 x656000 x657000 x658000 x659000)) else (Qaz.l0 k x305 (wrap64 ((IntKind.u64.wrap (wrap64 (x305 + x306))) / 2)) x654000 x655000 x655001 x656000 x657000 x658000 x659000))) else (Qaz.l0 k x305 (wrap64 ((IntKind.u64.wrap (wrap64 (x305 + x306))) / 2)) x654000 x655000 x655001 x656000 x657000 x658000 x659000))) else ((Qa5.f k x654000 x655000 x655001 x657000 x658000 x659000).bind fun bt677 => (if bt677.2 = 0 then (if bt677.1 ≥ x657000 then (Qaz.l0 k (wrap64 ((wrap64 ((IntKind.u64.wrap (wrap64 (x305 + x306))) / 2)) + 1)) x306 x654000 x655000 x655001 x656000 x657000 x658000 x659000) else (Qaz.l0 k x305 (wrap64 ((IntKind.u64.wrap (wrap64 (x305 + x306))) / 2)) x654000 x655000 x655001 x656000 x657000 x658000 x659000)) else (Qaz.l0 k x305 (wrap64 ((IntKind.u64.wrap (wrap64 (x305 + x306))) / 2)) x654000 x655000 x655001 x656000 x657000 x658000 x659000)))) else (some (mx (wrap64 (x305 - 1)) 0, 0))
def Qaz.f (k : Nat) (l0 : List (S46)) (a1_0 : ByteArray) (a1_1 : ByteArray) (a2 : ByteArray) (a3 : Int) (l4 : List (S84)) (l5 : List (S98)) : Option (Int × Int) := (Qa5.f k l0 a1_0 a1_1 a3 l4 l5).bind fun bt659 => (if bt659.2 = 0 then ((Qa3.f k l4 a2).bind fun bt661 => (if bt661.2.2.2.2.2.2 = true then ((QaR.f k l0 a1_0 a1_1 a2).bind fun t670 => (Qaz.l0 k 0 (wrap64 (t670 + 1)) l0 a1_0 a1_1 a2 a3 l4 l5)) else (some (0, 11)))) else (some (0, bt659.2)))
theorem Qaz.mono_l : ∀ k, (∀ y0 y1 y2 y3 y4 y5 y6 y7 y8, LeO (Qaz.l0 k y0 y1 y2 y3 y4 y5 y6 y7 y8) (Qaz.l0 (k + 1) y0 y1 y2 y3 y4 y5 y6 y7 y8))
 | 0 => fun _ _ _ _ _ _ _ _ _ r h => by simp [Qaz.l0] at h
 | k + 1 => by
  have ih0 := Qaz.mono_l k
  ·intro y0 y1 y2 y3 y4 y5 y6 y7 y8
   unfold Qaz.l0
   repeat' first
   | (with_reducible exact ih0 _ _ _ _ _ _ _ _ _)
   | (with_reducible exact Qa3.mono _ _ _)
   | (with_reducible exact Qa5.mono _ _ _ _ _ _ _)
   | (with_reducible exact QaR.mono _ _ _ _ _)
   | (with_reducible exact QaF.mono _ _ _ _ _ _)
   | (with_reducible exact LeO.refl _)
   | (with_reducible exact LeO.none _)
   | (with_reducible refine LeO.ite ?_ ?_)
   | (with_reducible refine LeO.bind ?_ (fun _ => ?_))
   | exact ih0 _ _ _ _ _ _ _ _ _
   | exact Qa3.mono _ _ _
   | exact Qa5.mono _ _ _ _ _ _ _
   | exact QaR.mono _ _ _ _ _
   | exact QaF.mono _ _ _ _ _ _
   | exact LeO.none _
   | refine LeO.ite ?_ ?_
   | refine LeO.bind ?_ (fun _ => ?_)
theorem Qaz.mono : ∀ a0 a1 a2 a3 a4 a5 a6 k, LeO (Qaz.f k a0 a1 a2 a3 a4 a5 a6) (Qaz.f (k + 1) a0 a1 a2 a3 a4 a5 a6) := by
 intro a0 a1 a2 a3 a4 a5 a6 k
 have ih0 := Qaz.mono_l k
 unfold Qaz.f
 repeat' first
   | (with_reducible exact ih0 _ _ _ _ _ _ _ _ _)
   | (with_reducible exact Qa3.mono _ _ _)
   | (with_reducible exact Qa5.mono _ _ _ _ _ _ _)
   | (with_reducible exact QaR.mono _ _ _ _ _)
   | (with_reducible exact QaF.mono _ _ _ _ _ _)
   | (with_reducible exact LeO.refl _)
   | (with_reducible exact LeO.none _)
   | (with_reducible refine LeO.ite ?_ ?_)
   | (with_reducible refine LeO.bind ?_ (fun _ => ?_))
   | exact ih0 _ _ _ _ _ _ _ _ _
   | exact Qa3.mono _ _ _
   | exact Qa5.mono _ _ _ _ _ _ _
   | exact QaR.mono _ _ _ _ _
   | exact QaF.mono _ _ _ _ _ _
   | exact LeO.none _
   | refine LeO.ite ?_ ?_
   | refine LeO.bind ?_ (fun _ => ?_)
set_option maxHeartbeats 8000000 in
set_option maxRecDepth 100000 in
theorem Qaz.calls (k : Nat) (A0 : Option Addr) (c0 : Nat) (l0 : List (S46)) (a1_0 : ByteArray) (a1_1 : ByteArray) (a2 : ByteArray) (a3 : Int) (A4 : Option Addr) (c4 : Nat) (l4 : List (S84)) (A5 : Option Addr) (c5 : Nat) (l5 : List (S98)) (r1 : Int) (r2 : Int) (w : World) (hr0 : Kd.C k46 w A0 l0.length l0) (hc0 : l0.length ≤ c0) (hr4 : Kd.C k84 w A4 l4.length l4) (hc4 : l4.length ≤ c4) (hr5 : Kd.C k98 w A5 l5.length l5) (hc5 : l5.length ≤ c5) (h : Qaz.f k l0 a1_0 a1_1 a2 a3 l4 l5 = some (r1, r2)) :
  Calls Try.prog 33 #[.slice A0 l0.length c0, .agg #[.string a1_0, .string a1_1], .string a2, .int .i64 a3, .slice A4 l4.length c4, .slice A5 l5.length c5] w fun e w' => e = .returned (.tuple #[.int .i64 r1, .int .i64 r2]) ∧ Below w.heap.size w w' := by
 have hu44 := Try.underlying44
 have hu84 := Try.underlying84
 have HR0 := Aside0.mk hr0
 have HC0 := Aside0.mk hc0
 clear hr0 hc0
 have HR4 := Aside0.mk hr4
 have HC4 := Aside0.mk hc4
 clear hr4 hc4
 have HR5 := Aside0.mk hr5
 have HC5 := Aside0.mk hc5
 clear hr5 hc5
 have HB := Aside0.mk (Below.refl w.heap.size w)
 have H : ((Qa5.f k l0 a1_0 a1_1 a3 l4 l5).bind fun bt659 => (if bt659.2 = 0 then ((Qa3.f k l4 a2).bind fun bt661 => (if bt661.2.2.2.2.2.2 = true then ((QaR.f k l0 a1_0 a1_1 a2).bind fun t670 => (Qaz.l0 k 0 (wrap64 (t670 + 1)) l0 a1_0 a1_1 a2 a3 l4 l5)) else (some (0, 11)))) else (some (0, bt659.2)))) = some (r1, r2) := h
 clear h
 replace H := Option.bind_eq_some_iff.mp H
 obtain ⟨⟨t659, t660⟩, A70, H⟩ := H
 replace H : (if t660 = 0 then ((Qa3.f k l4 a2).bind fun bt661 => (if bt661.2.2.2.2.2.2 = true then ((QaR.f k l0 a1_0 a1_1 a2).bind fun t670 => (Qaz.l0 k 0 (wrap64 (t670 + 1)) l0 a1_0 a1_1 a2 a3 l4 l5)) else (some (0, 11)))) else (some (0, t660))) = some (r1, r2) := H
 have A7 := Aside0.mk A70
 clear A70
 go_enter Try.func33, Try.ntmps33
 go_upto_if 29 with (first | ((with_reducible refine QaD (N := 6) rfl ?_); (refine gate_n (n := 51) rfl ?_); refine QaL ?hg (N := 6) ?hd (cs := #[.slice A0 l0.length c0]) (t := 30) ?hr ?_; (case hd => rfl); (case hg => rfl); (case hr => first | (go_simp; done) | (go_simp; rfl)); intro gb653 hg w8 hbox hb; have n0_ := Aside0.mk (Qaq (Zb) hb); have n1_ := Aside0.mk (hbox); have n2_ := Aside0.mk ((by rw [hg]; exact (Qan (Zb)) : w.heap.size ≤ gb653)); have n3_ := Aside0.mk ((by rw [hg]; exact (Qan (Zb)) : w.heap.size ≤ gb653)); clear HB; have HB := n0_; have BK653 := n1_; have GW653 := n2_; have GE653 := n3_; clear n0_ n1_ n2_ n3_; clear hb hbox hg) | ((with_reducible refine QaD (N := 7) rfl ?_); (refine gate_n (n := 51) rfl ?_); refine QaL ?hg (N := 7) ?hd (cs := #[.string a1_0, .string a1_1]) (t := 44) ?hr ?_; (case hd => rfl); (case hg => rfl); (case hr => first | (go_simp; done) | (go_simp; rfl)); intro gb654 hg w9 hbox hb; have n0_ := Aside0.mk (Qaj (g := gb653) (o := .cells #[.slice A0 l0.length c0] 30 (0, 0)) (Zu BK653.out) hb); have n1_ := Aside0.mk (Qaq (Zc1 GE653.out) hb); have n2_ := Aside0.mk (hbox); have n3_ := Aside0.mk ((by rw [hg]; exact (Qan (Zc1 GE653.out)) : w.heap.size ≤ gb654)); have n4_ := Aside0.mk ((by rw [hg]; exact (Qan (Zc1 GE653.out)) : w.heap.size ≤ gb654)); have n5_ := Aside0.mk ((by rw [hg]; exact Nat.ne_of_lt (blk_lt (g := gb653) (o := .cells #[.slice A0 l0.length c0] 30 (0, 0)) (Zu BK653.out)) : gb653 ≠ gb654)); have n6_ := Aside0.mk ((by rw [hg]; exact Nat.ne_of_gt (blk_lt (g := gb653) (o := .cells #[.slice A0 l0.length c0] 30 (0, 0)) (Zu BK653.out)) : gb654 ≠ gb653)); clear BK653; clear HB; have BK653 := n0_; have HB := n1_; have BK654 := n2_; have GW654 := n3_; have GE654 := n4_; have NB653_654 := n5_; have NB654_653 := n6_; clear n0_ n1_ n2_ n3_ n4_ n5_ n6_; clear hb hbox hg) | ((with_reducible refine QaD (N := 8) rfl ?_); (refine gate_n (n := 51) rfl ?_); refine QaL ?hg (N := 8) ?hd (cs := #[.string a2]) (t := 9) ?hr ?_; (case hd => rfl); (case hg => rfl); (case hr => first | (go_simp; done) | (go_simp; rfl)); intro gb655 hg w10 hbox hb; have n0_ := Aside0.mk (Qaj (g := gb653) (o := .cells #[.slice A0 l0.length c0] 30 (0, 0)) (Zu BK653.out) hb); have n1_ := Aside0.mk (Qaj (g := gb654) (o := .cells #[.string a1_0, .string a1_1] 44 (0, 0)) (Zu BK654.out) hb); have n2_ := Aside0.mk (Qaq (Zc2 GE653.out GE654.out) hb); have n3_ := Aside0.mk (hbox); have n4_ := Aside0.mk ((by rw [hg]; exact (Qan (Zc2 GE653.out GE654.out)) : w.heap.size ≤ gb655)); have n5_ := Aside0.mk ((by rw [hg]; exact (Qan (Zc2 GE653.out GE654.out)) : w.heap.size ≤ gb655)); have n6_ := Aside0.mk ((by rw [hg]; exact Nat.ne_of_lt (blk_lt (g := gb653) (o := .cells #[.slice A0 l0.length c0] 30 (0, 0)) (Zu BK653.out)) : gb653 ≠ gb655)); have n7_ := Aside0.mk ((by rw [hg]; exact Nat.ne_of_gt (blk_lt (g := gb653) (o := .cells #[.slice A0 l0.length c0] 30 (0, 0)) (Zu BK653.out)) : gb655 ≠ gb653)); have n8_ := Aside0.mk ((by rw [hg]; exact Nat.ne_of_lt (blk_lt (g := gb654) (o := .cells #[.string a1_0, .string a1_1] 44 (0, 0)) (Zu BK654.out)) : gb654 ≠ gb655)); have n9_ := Aside0.mk ((by rw [hg]; exact Nat.ne_of_gt (blk_lt (g := gb654) (o := .cells #[.string a1_0, .string a1_1] 44 (0, 0)) (Zu BK654.out)) : gb655 ≠ gb654)); clear BK653; clear BK654; clear HB; have BK653 := n0_; have BK654 := n1_; have HB := n2_; have BK655 := n3_; have GW655 := n4_; have GE655 := n5_; have NB653_655 := n6_; have NB655_653 := n7_; have NB654_655 := n8_; have NB655_654 := n9_; clear n0_ n1_ n2_ n3_ n4_ n5_ n6_ n7_ n8_ n9_; clear hb hbox hg) | ((with_reducible refine QaD (N := 9) rfl ?_); (refine gate_n (n := 51) rfl ?_); refine QaL ?hg (N := 9) ?hd (cs := #[.int .i64 a3]) (t := 3) ?hr ?_; (case hd => rfl); (case hg => rfl); (case hr => first | (go_simp; done) | (go_simp; rfl)); intro gb656 hg w11 hbox hb; have n0_ := Aside0.mk (Qaj (g := gb653) (o := .cells #[.slice A0 l0.length c0] 30 (0, 0)) (Zu BK653.out) hb); have n1_ := Aside0.mk (Qaj (g := gb654) (o := .cells #[.string a1_0, .string a1_1] 44 (0, 0)) (Zu BK654.out) hb); have n2_ := Aside0.mk (Qaj (g := gb655) (o := .cells #[.string a2] 9 (0, 0)) (Zu BK655.out) hb); have n3_ := Aside0.mk (Qaq (Zc3 GE653.out GE654.out GE655.out) hb); have n4_ := Aside0.mk (hbox); have n5_ := Aside0.mk ((by rw [hg]; exact (Qan (Zc3 GE653.out GE654.out GE655.out)) : w.heap.size ≤ gb656)); have n6_ := Aside0.mk ((by rw [hg]; exact (Qan (Zc3 GE653.out GE654.out GE655.out)) : w.heap.size ≤ gb656)); have n7_ := Aside0.mk ((by rw [hg]; exact Nat.ne_of_lt (blk_lt (g := gb653) (o := .cells #[.slice A0 l0.length c0] 30 (0, 0)) (Zu BK653.out)) : gb653 ≠ gb656)); have n8_ := Aside0.mk ((by rw [hg]; exact Nat.ne_of_gt (blk_lt (g := gb653) (o := .cells #[.slice A0 l0.length c0] 30 (0, 0)) (Zu BK653.out)) : gb656 ≠ gb653)); have n9_ := Aside0.mk ((by rw [hg]; exact Nat.ne_of_lt (blk_lt (g := gb654) (o := .cells #[.string a1_0, .string a1_1] 44 (0, 0)) (Zu BK654.out)) : gb654 ≠ gb656)); have n10_ := Aside0.mk ((by rw [hg]; exact Nat.ne_of_gt (blk_lt (g := gb654) (o := .cells #[.string a1_0, .string a1_1] 44 (0, 0)) (Zu BK654.out)) : gb656 ≠ gb654)); have n11_ := Aside0.mk ((by rw [hg]; exact Nat.ne_of_lt (blk_lt (g := gb655) (o := .cells #[.string a2] 9 (0, 0)) (Zu BK655.out)) : gb655 ≠ gb656)); have n12_ := Aside0.mk ((by rw [hg]; exact Nat.ne_of_gt (blk_lt (g := gb655) (o := .cells #[.string a2] 9 (0, 0)) (Zu BK655.out)) : gb656 ≠ gb655)); clear BK653; clear BK654; clear BK655; clear HB; have BK653 := n0_; have BK654 := n1_; have BK655 := n2_; have HB := n3_; have BK656 := n4_; have GW656 := n5_; have GE656 := n6_; have NB653_656 := n7_; have NB656_653 := n8_; have NB654_656 := n9_; have NB656_654 := n10_; have NB655_656 := n11_; have NB656_655 := n12_; clear n0_ n1_ n2_ n3_ n4_ n5_ n6_ n7_ n8_ n9_ n10_ n11_ n12_; clear hb hbox hg) | ((with_reducible refine QaD (N := 10) rfl ?_); (refine gate_n (n := 51) rfl ?_); refine QaL ?hg (N := 10) ?hd (cs := #[.slice A4 l4.length c4]) (t := 31) ?hr ?_; (case hd => rfl); (case hg => rfl); (case hr => first | (go_simp; done) | (go_simp; rfl)); intro gb657 hg w12 hbox hb; have n0_ := Aside0.mk (Qaj (g := gb653) (o := .cells #[.slice A0 l0.length c0] 30 (0, 0)) (Zu BK653.out) hb); have n1_ := Aside0.mk (Qaj (g := gb654) (o := .cells #[.string a1_0, .string a1_1] 44 (0, 0)) (Zu BK654.out) hb); have n2_ := Aside0.mk (Qaj (g := gb655) (o := .cells #[.string a2] 9 (0, 0)) (Zu BK655.out) hb); have n3_ := Aside0.mk (Qaj (g := gb656) (o := .cells #[.int .i64 a3] 3 (0, 0)) (Zu BK656.out) hb); have n4_ := Aside0.mk (Qaq (Zc4 GE653.out GE654.out GE655.out GE656.out) hb); have n5_ := Aside0.mk (hbox); have n6_ := Aside0.mk ((by rw [hg]; exact (Qan (Zc4 GE653.out GE654.out GE655.out GE656.out)) : w.heap.size ≤ gb657)); have n7_ := Aside0.mk ((by rw [hg]; exact (Qan (Zc4 GE653.out GE654.out GE655.out GE656.out)) : w.heap.size ≤ gb657)); have n8_ := Aside0.mk ((by rw [hg]; exact Nat.ne_of_lt (blk_lt (g := gb653) (o := .cells #[.slice A0 l0.length c0] 30 (0, 0)) (Zu BK653.out)) : gb653 ≠ gb657)); have n9_ := Aside0.mk ((by rw [hg]; exact Nat.ne_of_gt (blk_lt (g := gb653) (o := .cells #[.slice A0 l0.length c0] 30 (0, 0)) (Zu BK653.out)) : gb657 ≠ gb653)); have n10_ := Aside0.mk ((by rw [hg]; exact Nat.ne_of_lt (blk_lt (g := gb654) (o := .cells #[.string a1_0, .string a1_1] 44 (0, 0)) (Zu BK654.out)) : gb654 ≠ gb657)); have n11_ := Aside0.mk ((by rw [hg]; exact Nat.ne_of_gt (blk_lt (g := gb654) (o := .cells #[.string a1_0, .string a1_1] 44 (0, 0)) (Zu BK654.out)) : gb657 ≠ gb654)); have n12_ := Aside0.mk ((by rw [hg]; exact Nat.ne_of_lt (blk_lt (g := gb655) (o := .cells #[.string a2] 9 (0, 0)) (Zu BK655.out)) : gb655 ≠ gb657)); have n13_ := Aside0.mk ((by rw [hg]; exact Nat.ne_of_gt (blk_lt (g := gb655) (o := .cells #[.string a2] 9 (0, 0)) (Zu BK655.out)) : gb657 ≠ gb655)); have n14_ := Aside0.mk ((by rw [hg]; exact Nat.ne_of_lt (blk_lt (g := gb656) (o := .cells #[.int .i64 a3] 3 (0, 0)) (Zu BK656.out)) : gb656 ≠ gb657)); have n15_ := Aside0.mk ((by rw [hg]; exact Nat.ne_of_gt (blk_lt (g := gb656) (o := .cells #[.int .i64 a3] 3 (0, 0)) (Zu BK656.out)) : gb657 ≠ gb656)); clear BK653; clear BK654; clear BK655; clear BK656; clear HB; have BK653 := n0_; have BK654 := n1_; have BK655 := n2_; have BK656 := n3_; have HB := n4_; have BK657 := n5_; have GW657 := n6_; have GE657 := n7_; have NB653_657 := n8_; have NB657_653 := n9_; have NB654_657 := n10_; have NB657_654 := n11_; have NB655_657 := n12_; have NB657_655 := n13_; have NB656_657 := n14_; have NB657_656 := n15_; clear n0_ n1_ n2_ n3_ n4_ n5_ n6_ n7_ n8_ n9_ n10_ n11_ n12_ n13_ n14_ n15_; clear hb hbox hg) | ((with_reducible refine QaD (N := 11) rfl ?_); (refine gate_n (n := 51) rfl ?_); refine QaL ?hg (N := 11) ?hd (cs := #[.slice A5 l5.length c5]) (t := 32) ?hr ?_; (case hd => rfl); (case hg => rfl); (case hr => first | (go_simp; done) | (go_simp; rfl)); intro gb658 hg w13 hbox hb; have n0_ := Aside0.mk (Qaj (g := gb653) (o := .cells #[.slice A0 l0.length c0] 30 (0, 0)) (Zu BK653.out) hb); have n1_ := Aside0.mk (Qaj (g := gb654) (o := .cells #[.string a1_0, .string a1_1] 44 (0, 0)) (Zu BK654.out) hb); have n2_ := Aside0.mk (Qaj (g := gb655) (o := .cells #[.string a2] 9 (0, 0)) (Zu BK655.out) hb); have n3_ := Aside0.mk (Qaj (g := gb656) (o := .cells #[.int .i64 a3] 3 (0, 0)) (Zu BK656.out) hb); have n4_ := Aside0.mk (Qaj (g := gb657) (o := .cells #[.slice A4 l4.length c4] 31 (0, 0)) (Zu BK657.out) hb); have n5_ := Aside0.mk (Qaq (Zc5 GE653.out GE654.out GE655.out GE656.out GE657.out) hb); have n6_ := Aside0.mk (hbox); have n7_ := Aside0.mk ((by rw [hg]; exact (Qan (Zc5 GE653.out GE654.out GE655.out GE656.out GE657.out)) : w.heap.size ≤ gb658)); have n8_ := Aside0.mk ((by rw [hg]; exact (Qan (Zc5 GE653.out GE654.out GE655.out GE656.out GE657.out)) : w.heap.size ≤ gb658)); have n9_ := Aside0.mk ((by rw [hg]; exact Nat.ne_of_lt (blk_lt (g := gb653) (o := .cells #[.slice A0 l0.length c0] 30 (0, 0)) (Zu BK653.out)) : gb653 ≠ gb658)); have n10_ := Aside0.mk ((by rw [hg]; exact Nat.ne_of_gt (blk_lt (g := gb653) (o := .cells #[.slice A0 l0.length c0] 30 (0, 0)) (Zu BK653.out)) : gb658 ≠ gb653)); have n11_ := Aside0.mk ((by rw [hg]; exact Nat.ne_of_lt (blk_lt (g := gb654) (o := .cells #[.string a1_0, .string a1_1] 44 (0, 0)) (Zu BK654.out)) : gb654 ≠ gb658)); have n12_ := Aside0.mk ((by rw [hg]; exact Nat.ne_of_gt (blk_lt (g := gb654) (o := .cells #[.string a1_0, .string a1_1] 44 (0, 0)) (Zu BK654.out)) : gb658 ≠ gb654)); have n13_ := Aside0.mk ((by rw [hg]; exact Nat.ne_of_lt (blk_lt (g := gb655) (o := .cells #[.string a2] 9 (0, 0)) (Zu BK655.out)) : gb655 ≠ gb658)); have n14_ := Aside0.mk ((by rw [hg]; exact Nat.ne_of_gt (blk_lt (g := gb655) (o := .cells #[.string a2] 9 (0, 0)) (Zu BK655.out)) : gb658 ≠ gb655)); have n15_ := Aside0.mk ((by rw [hg]; exact Nat.ne_of_lt (blk_lt (g := gb656) (o := .cells #[.int .i64 a3] 3 (0, 0)) (Zu BK656.out)) : gb656 ≠ gb658)); have n16_ := Aside0.mk ((by rw [hg]; exact Nat.ne_of_gt (blk_lt (g := gb656) (o := .cells #[.int .i64 a3] 3 (0, 0)) (Zu BK656.out)) : gb658 ≠ gb656)); have n17_ := Aside0.mk ((by rw [hg]; exact Nat.ne_of_lt (blk_lt (g := gb657) (o := .cells #[.slice A4 l4.length c4] 31 (0, 0)) (Zu BK657.out)) : gb657 ≠ gb658)); have n18_ := Aside0.mk ((by rw [hg]; exact Nat.ne_of_gt (blk_lt (g := gb657) (o := .cells #[.slice A4 l4.length c4] 31 (0, 0)) (Zu BK657.out)) : gb658 ≠ gb657)); clear BK653; clear BK654; clear BK655; clear BK656; clear BK657; clear HB; have BK653 := n0_; have BK654 := n1_; have BK655 := n2_; have BK656 := n3_; have BK657 := n4_; have HB := n5_; have BK658 := n6_; have GW658 := n7_; have GE658 := n8_; have NB653_658 := n9_; have NB658_653 := n10_; have NB654_658 := n11_; have NB658_654 := n12_; have NB655_658 := n13_; have NB658_655 := n14_; have NB656_658 := n15_; have NB658_656 := n16_; have NB657_658 := n17_; have NB658_657 := n18_; clear n0_ n1_ n2_ n3_ n4_ n5_ n6_ n7_ n8_ n9_ n10_ n11_ n12_ n13_ n14_ n15_ n16_ n17_ n18_; clear hb hbox hg; have hnb14 := NB653_654.out; have hnc14 := NB654_653.out; have hnb15 := NB653_655.out; have hnc15 := NB655_653.out; have hnb16 := NB653_656.out; have hnc16 := NB656_653.out; have hnb17 := NB653_657.out; have hnc17 := NB657_653.out; have hnb18 := NB653_658.out; have hnc18 := NB658_653.out; have hcz19_0 : w13.cell? ⟨gb653, 0, none⟩ = some (.slice A0 l0.length c0) := (Qah BK653.out 0).trans rfl; have hfz19_0 := Qaf BK653.out 0; have hnb20 := NB654_655.out; have hnc20 := NB655_654.out; have hnb21 := NB654_656.out; have hnc21 := NB656_654.out; have hnb22 := NB654_657.out; have hnc22 := NB657_654.out; have hnb23 := NB654_658.out; have hnc23 := NB658_654.out; have hcz24_0 : w13.cell? ⟨gb654, 0, none⟩ = some (.string a1_0) := (Qah BK654.out 0).trans rfl; have hcz24_1 : w13.cell? ⟨gb654, 1, none⟩ = some (.string a1_1) := (Qah BK654.out 1).trans rfl; have hfz24_0 := Qaf BK654.out 0; have hfz24_1 := Qaf BK654.out 1; have hnb25 := NB656_655.out; have hnc25 := NB655_656.out; have hnb26 := NB656_657.out; have hnc26 := NB657_656.out; have hnb27 := NB656_658.out; have hnc27 := NB658_656.out; have hcz28_0 : w13.cell? ⟨gb656, 0, none⟩ = some (.int .i64 a3) := (Qah BK656.out 0).trans rfl; have hfz28_0 := Qaf BK656.out 0; have hnb29 := NB657_655.out; have hnc29 := NB655_657.out; have hnb30 := NB657_658.out; have hnc30 := NB658_657.out; have hcz31_0 : w13.cell? ⟨gb657, 0, none⟩ = some (.slice A4 l4.length c4) := (Qah BK657.out 0).trans rfl; have hfz31_0 := Qaf BK657.out 0; have hnb32 := NB658_655.out; have hnc32 := NB655_658.out; have hcz33_0 : w13.cell? ⟨gb658, 0, none⟩ = some (.slice A5 l5.length c5) := (Qah BK658.out 0).trans rfl; have hfz33_0 := Qaf BK658.out 0) | ((with_reducible refine Qay (f := 30) rfl ?_); refine goesL_ (some 25) rfl rfl Try.func30 (by kernel_rfl) rfl #[.slice A0 l0.length c0, .agg #[.string a1_0, .string a1_1], .int .i64 a3, .slice A4 l4.length c4, .slice A5 l5.length c5] rfl (Zl) ?_; (with_reducible refine (Qa5.calls k _ _ l0 a1_0 a1_1 a3 _ _ l4 _ _ l5 t659 t660 _ ?side1 ?side2 ?side3 ?side4 ?side5 ?side6 A7.out).mono ?_); (case side1 => exact Zv (Kd.C_below HR0.out HB.out)); (case side2 => exact HC0.out); (case side3 => exact Zv (Kd.C_below HR4.out HB.out)); (case side4 => exact HC4.out); (case side5 => exact Zv (Kd.C_below HR5.out HB.out)); (case side6 => exact HC5.out); rintro e w34 ⟨rfl, hb⟩; refine ⟨_, rfl, ?_⟩; have n0_ := Aside0.mk (Qaj (g := gb653) (o := .cells #[.slice A0 l0.length c0] 30 (0, 0)) (Zu BK653.out) hb); have n1_ := Aside0.mk (Qaj (g := gb654) (o := .cells #[.string a1_0, .string a1_1] 44 (0, 0)) (Zu BK654.out) hb); have n2_ := Aside0.mk (Qaj (g := gb655) (o := .cells #[.string a2] 9 (0, 0)) (Zu BK655.out) hb); have n3_ := Aside0.mk (Qaj (g := gb656) (o := .cells #[.int .i64 a3] 3 (0, 0)) (Zu BK656.out) hb); have n4_ := Aside0.mk (Qaj (g := gb657) (o := .cells #[.slice A4 l4.length c4] 31 (0, 0)) (Zu BK657.out) hb); have n5_ := Aside0.mk (Qaj (g := gb658) (o := .cells #[.slice A5 l5.length c5] 32 (0, 0)) (Zu BK658.out) hb); have n6_ := Aside0.mk (Qaq (Zc6 GE653.out GE654.out GE655.out GE656.out GE657.out GE658.out) hb); clear BK653; clear BK654; clear BK655; clear BK656; clear BK657; clear BK658; clear HB; have BK653 := n0_; have BK654 := n1_; have BK655 := n2_; have BK656 := n3_; have BK657 := n4_; have BK658 := n5_; have HB := n6_; clear n0_ n1_ n2_ n3_ n4_ n5_ n6_; (try clear hb); (try clear hb2); (try clear hk); (try clear hi)))
 (try simp only [Act.put, List.setIfInBounds_toArray, List.set_cons_zero, List.set_cons_succ])
 by_cases c35 : t660 = 0
 ·rw [if_pos c35] at H
  have c35b0 : (t660 == 0) = true := beq_iff_eq.mpr c35
  have c35b1 : (t660 != 0) = false := bne_eq_false_iff_eq.mpr c35
  clear c35
  (try simp only [c35b0, c35b1])
  replace H := Option.bind_eq_some_iff.mp H
  obtain ⟨⟨t661, t662, t663, t664, t665, t666, t667⟩, A360, H⟩ := H
  replace H : (if t667 = true then ((QaR.f k l0 a1_0 a1_1 a2).bind fun t670 => (Qaz.l0 k 0 (wrap64 (t670 + 1)) l0 a1_0 a1_1 a2 a3 l4 l5)) else (some (0, 11))) = some (r1, r2) := H
  have A36 := Aside0.mk A360
  clear A360
  have hnb37 := NB657_653.out
  have hnc37 := NB653_657.out
  have hnb38 := NB657_654.out
  have hnc38 := NB654_657.out
  have hnb39 := NB657_655.out
  have hnc39 := NB655_657.out
  have hnb40 := NB657_656.out
  have hnc40 := NB656_657.out
  have hnb41 := NB657_658.out
  have hnc41 := NB658_657.out
  have hcz42_0 : w34.cell? ⟨gb657, 0, none⟩ = some (.slice A4 l4.length c4) := (Qah BK657.out 0).trans rfl
  have hfz42_0 := Qaf BK657.out 0
  have hnb43 := NB655_653.out
  have hnc43 := NB653_655.out
  have hnb44 := NB655_654.out
  have hnc44 := NB654_655.out
  have hnb45 := NB655_656.out
  have hnc45 := NB656_655.out
  have hnb46 := NB655_658.out
  have hnc46 := NB658_655.out
  have hcz47_0 : w34.cell? ⟨gb655, 0, none⟩ = some (.string a2) := (Qah BK655.out 0).trans rfl
  have hfz47_0 := Qaf BK655.out 0
  go_upto_if 38 with (first | ((with_reducible refine Qay (f := 48) rfl ?_); refine goesL_ (some 34) rfl rfl Try.func48 (by kernel_rfl) rfl #[.slice A4 l4.length c4, .string a2] rfl (Zl) ?_; (with_reducible refine (Qa3.calls k _ _ l4 a2 t661 t662 t663 t664 t665 t666 t667 _ ?side1 ?side2 A36.out).mono ?_); (case side1 => exact Zv (Kd.C_below HR4.out HB.out)); (case side2 => exact HC4.out); rintro e w48 ⟨rfl, hb⟩; refine ⟨_, rfl, ?_⟩; have n0_ := Aside0.mk (Qaj (g := gb653) (o := .cells #[.slice A0 l0.length c0] 30 (0, 0)) (Zu BK653.out) hb); have n1_ := Aside0.mk (Qaj (g := gb654) (o := .cells #[.string a1_0, .string a1_1] 44 (0, 0)) (Zu BK654.out) hb); have n2_ := Aside0.mk (Qaj (g := gb655) (o := .cells #[.string a2] 9 (0, 0)) (Zu BK655.out) hb); have n3_ := Aside0.mk (Qaj (g := gb656) (o := .cells #[.int .i64 a3] 3 (0, 0)) (Zu BK656.out) hb); have n4_ := Aside0.mk (Qaj (g := gb657) (o := .cells #[.slice A4 l4.length c4] 31 (0, 0)) (Zu BK657.out) hb); have n5_ := Aside0.mk (Qaj (g := gb658) (o := .cells #[.slice A5 l5.length c5] 32 (0, 0)) (Zu BK658.out) hb); have n6_ := Aside0.mk (Qaq (Zc6 GE653.out GE654.out GE655.out GE656.out GE657.out GE658.out) hb); clear BK653; clear BK654; clear BK655; clear BK656; clear BK657; clear BK658; clear HB; have BK653 := n0_; have BK654 := n1_; have BK655 := n2_; have BK656 := n3_; have BK657 := n4_; have BK658 := n5_; have HB := n6_; clear n0_ n1_ n2_ n3_ n4_ n5_ n6_; (try clear hb); (try clear hb2); (try clear hk); (try clear hi)) | ((with_reducible refine QaD (N := 14) rfl ?_); (refine gate_n (n := 51) rfl ?_); refine QaL ?hg (N := 14) ?hd (cs := #[.string (⟨#[]⟩ : ByteArray), .int .i64 0, .int .i64 0, .int .i64 0, .int .i64 0, .int .i64 0]) (t := 84) ?hr ?_; (case hd => rfl); (case hg => rfl); (case hr => first | (go_simp; done) | (go_simp; rfl)); intro gb668 hg w49 hbox hb; have n0_ := Aside0.mk (Qaj (g := gb653) (o := .cells #[.slice A0 l0.length c0] 30 (0, 0)) (Zu BK653.out) hb); have n1_ := Aside0.mk (Qaj (g := gb654) (o := .cells #[.string a1_0, .string a1_1] 44 (0, 0)) (Zu BK654.out) hb); have n2_ := Aside0.mk (Qaj (g := gb655) (o := .cells #[.string a2] 9 (0, 0)) (Zu BK655.out) hb); have n3_ := Aside0.mk (Qaj (g := gb656) (o := .cells #[.int .i64 a3] 3 (0, 0)) (Zu BK656.out) hb); have n4_ := Aside0.mk (Qaj (g := gb657) (o := .cells #[.slice A4 l4.length c4] 31 (0, 0)) (Zu BK657.out) hb); have n5_ := Aside0.mk (Qaj (g := gb658) (o := .cells #[.slice A5 l5.length c5] 32 (0, 0)) (Zu BK658.out) hb); have n6_ := Aside0.mk (Qaq (Zc6 GE653.out GE654.out GE655.out GE656.out GE657.out GE658.out) hb); have n7_ := Aside0.mk (hbox); have n8_ := Aside0.mk ((by rw [hg]; exact (Qan (Zc6 GE653.out GE654.out GE655.out GE656.out GE657.out GE658.out)) : w.heap.size ≤ gb668)); have n9_ := Aside0.mk ((by rw [hg]; exact (Qan (Zc6 GE653.out GE654.out GE655.out GE656.out GE657.out GE658.out)) : w.heap.size ≤ gb668)); have n10_ := Aside0.mk ((by rw [hg]; exact Nat.ne_of_lt (blk_lt (g := gb653) (o := .cells #[.slice A0 l0.length c0] 30 (0, 0)) (Zu BK653.out)) : gb653 ≠ gb668)); have n11_ := Aside0.mk ((by rw [hg]; exact Nat.ne_of_gt (blk_lt (g := gb653) (o := .cells #[.slice A0 l0.length c0] 30 (0, 0)) (Zu BK653.out)) : gb668 ≠ gb653)); have n12_ := Aside0.mk ((by rw [hg]; exact Nat.ne_of_lt (blk_lt (g := gb654) (o := .cells #[.string a1_0, .string a1_1] 44 (0, 0)) (Zu BK654.out)) : gb654 ≠ gb668)); have n13_ := Aside0.mk ((by rw [hg]; exact Nat.ne_of_gt (blk_lt (g := gb654) (o := .cells #[.string a1_0, .string a1_1] 44 (0, 0)) (Zu BK654.out)) : gb668 ≠ gb654)); have n14_ := Aside0.mk ((by rw [hg]; exact Nat.ne_of_lt (blk_lt (g := gb655) (o := .cells #[.string a2] 9 (0, 0)) (Zu BK655.out)) : gb655 ≠ gb668)); have n15_ := Aside0.mk ((by rw [hg]; exact Nat.ne_of_gt (blk_lt (g := gb655) (o := .cells #[.string a2] 9 (0, 0)) (Zu BK655.out)) : gb668 ≠ gb655)); have n16_ := Aside0.mk ((by rw [hg]; exact Nat.ne_of_lt (blk_lt (g := gb656) (o := .cells #[.int .i64 a3] 3 (0, 0)) (Zu BK656.out)) : gb656 ≠ gb668)); have n17_ := Aside0.mk ((by rw [hg]; exact Nat.ne_of_gt (blk_lt (g := gb656) (o := .cells #[.int .i64 a3] 3 (0, 0)) (Zu BK656.out)) : gb668 ≠ gb656)); have n18_ := Aside0.mk ((by rw [hg]; exact Nat.ne_of_lt (blk_lt (g := gb657) (o := .cells #[.slice A4 l4.length c4] 31 (0, 0)) (Zu BK657.out)) : gb657 ≠ gb668)); have n19_ := Aside0.mk ((by rw [hg]; exact Nat.ne_of_gt (blk_lt (g := gb657) (o := .cells #[.slice A4 l4.length c4] 31 (0, 0)) (Zu BK657.out)) : gb668 ≠ gb657)); have n20_ := Aside0.mk ((by rw [hg]; exact Nat.ne_of_lt (blk_lt (g := gb658) (o := .cells #[.slice A5 l5.length c5] 32 (0, 0)) (Zu BK658.out)) : gb658 ≠ gb668)); have n21_ := Aside0.mk ((by rw [hg]; exact Nat.ne_of_gt (blk_lt (g := gb658) (o := .cells #[.slice A5 l5.length c5] 32 (0, 0)) (Zu BK658.out)) : gb668 ≠ gb658)); clear BK653; clear BK654; clear BK655; clear BK656; clear BK657; clear BK658; clear HB; have BK653 := n0_; have BK654 := n1_; have BK655 := n2_; have BK656 := n3_; have BK657 := n4_; have BK658 := n5_; have HB := n6_; have BK668 := n7_; have GW668 := n8_; have GE668 := n9_; have NB653_668 := n10_; have NB668_653 := n11_; have NB654_668 := n12_; have NB668_654 := n13_; have NB655_668 := n14_; have NB668_655 := n15_; have NB656_668 := n16_; have NB668_656 := n17_; have NB657_668 := n18_; have NB668_657 := n19_; have NB658_668 := n20_; have NB668_658 := n21_; clear n0_ n1_ n2_ n3_ n4_ n5_ n6_ n7_ n8_ n9_ n10_ n11_ n12_ n13_ n14_ n15_ n16_ n17_ n18_ n19_ n20_ n21_; clear hb hbox hg; have hnb50 := NB668_653.out; have hnc50 := NB653_668.out; have hnb51 := NB668_654.out; have hnc51 := NB654_668.out; have hnb52 := NB668_655.out; have hnc52 := NB655_668.out; have hnb53 := NB668_656.out; have hnc53 := NB656_668.out; have hnb54 := NB668_657.out; have hnc54 := NB657_668.out; have hnb55 := NB668_658.out; have hnc55 := NB658_668.out; have hcz56_0 : w49.cell? ⟨gb668, 0, none⟩ = some (.string (⟨#[]⟩ : ByteArray)) := (Qah BK668.out 0).trans rfl; have hcz56_1 : w49.cell? ⟨gb668, 1, none⟩ = some (.int .i64 0) := (Qah BK668.out 1).trans rfl; have hcz56_2 : w49.cell? ⟨gb668, 2, none⟩ = some (.int .i64 0) := (Qah BK668.out 2).trans rfl; have hcz56_3 : w49.cell? ⟨gb668, 3, none⟩ = some (.int .i64 0) := (Qah BK668.out 3).trans rfl; have hcz56_4 : w49.cell? ⟨gb668, 4, none⟩ = some (.int .i64 0) := (Qah BK668.out 4).trans rfl; have hcz56_5 : w49.cell? ⟨gb668, 5, none⟩ = some (.int .i64 0) := (Qah BK668.out 5).trans rfl; have hfz56_0 := Qaf BK668.out 0; have hfz56_1 := Qaf BK668.out 1; have hfz56_2 := Qaf BK668.out 2; have hfz56_3 := Qaf BK668.out 3; have hfz56_4 := Qaf BK668.out 4; have hfz56_5 := Qaf BK668.out 5) | ((with_reducible refine Qdf (t := 84) (p := 14) rfl ?_); (refine gate_n (n := 51) rfl ?_); refine Qc0 (t := 84) (p := 14) (v := ?vo_w57) (w1 := ((((((w49.setCell ⟨gb668, 0, none⟩ (.string t661)).setCell ⟨gb668, 1, none⟩ (.int .i64 t662)).setCell ⟨gb668, 2, none⟩ (.int .i64 t663)).setCell ⟨gb668, 3, none⟩ (.int .i64 t664)).setCell ⟨gb668, 4, none⟩ (.int .i64 t665)).setCell ⟨gb668, 5, none⟩ (.int .i64 t666))) ?hg ?ho ?hn ?hr ?_; (case ho => rfl); (case hg => rfl); (case hn => rfl); (case hr => first | (exact QcA (cs := #[.string (⟨#[]⟩ : ByteArray), .int .i64 0, .int .i64 0, .int .i64 0, .int .i64 0, .int .i64 0]) (seg := [.string t661, .int .i64 t662, .int .i64 t663, .int .i64 t664, .int .i64 t665, .int .i64 t666]) BK668.out rfl (by first | rfl | (go_simp; done)) (by first | rfl | (go_simp; done)) (by rfl) (by first | rfl | kernel_rfl) (by simp) (by first | rfl | simp [Value.oneCell'])) | (go_simp; done) | (go_simp; rfl)); intro w57 hw; have n0_ : Aside0 (w57.heap[gb653]? = some (.cells #[.slice A0 l0.length c0] 30 (0, 0))) := ⟨(by rw [hw]; exact (by (with_reducible repeat (first | refine Qab ?_ _ | refine Qad ?_ | refine Qaa ?_ _)); refine Qam ?_ NB653_668.out _; (with_reducible repeat (first | refine Qab ?_ _ | refine Qad ?_ | refine Qaa ?_ _)); refine Qam ?_ NB653_668.out _; (with_reducible repeat (first | refine Qab ?_ _ | refine Qad ?_ | refine Qaa ?_ _)); refine Qam ?_ NB653_668.out _; (with_reducible repeat (first | refine Qab ?_ _ | refine Qad ?_ | refine Qaa ?_ _)); refine Qam ?_ NB653_668.out _; (with_reducible repeat (first | refine Qab ?_ _ | refine Qad ?_ | refine Qaa ?_ _)); refine Qam ?_ NB653_668.out _; (with_reducible repeat (first | refine Qab ?_ _ | refine Qad ?_ | refine Qaa ?_ _)); refine Qam ?_ NB653_668.out _; (with_reducible repeat (first | refine Qab ?_ _ | refine Qad ?_ | refine Qaa ?_ _)); exact BK653.out))⟩; have n1_ : Aside0 (w57.heap[gb654]? = some (.cells #[.string a1_0, .string a1_1] 44 (0, 0))) := ⟨(by rw [hw]; exact (by (with_reducible repeat (first | refine Qab ?_ _ | refine Qad ?_ | refine Qaa ?_ _)); refine Qam ?_ NB654_668.out _; (with_reducible repeat (first | refine Qab ?_ _ | refine Qad ?_ | refine Qaa ?_ _)); refine Qam ?_ NB654_668.out _; (with_reducible repeat (first | refine Qab ?_ _ | refine Qad ?_ | refine Qaa ?_ _)); refine Qam ?_ NB654_668.out _; (with_reducible repeat (first | refine Qab ?_ _ | refine Qad ?_ | refine Qaa ?_ _)); refine Qam ?_ NB654_668.out _; (with_reducible repeat (first | refine Qab ?_ _ | refine Qad ?_ | refine Qaa ?_ _)); refine Qam ?_ NB654_668.out _; (with_reducible repeat (first | refine Qab ?_ _ | refine Qad ?_ | refine Qaa ?_ _)); refine Qam ?_ NB654_668.out _; (with_reducible repeat (first | refine Qab ?_ _ | refine Qad ?_ | refine Qaa ?_ _)); exact BK654.out))⟩; have n2_ : Aside0 (w57.heap[gb655]? = some (.cells #[.string a2] 9 (0, 0))) := ⟨(by rw [hw]; exact (by (with_reducible repeat (first | refine Qab ?_ _ | refine Qad ?_ | refine Qaa ?_ _)); refine Qam ?_ NB655_668.out _; (with_reducible repeat (first | refine Qab ?_ _ | refine Qad ?_ | refine Qaa ?_ _)); refine Qam ?_ NB655_668.out _; (with_reducible repeat (first | refine Qab ?_ _ | refine Qad ?_ | refine Qaa ?_ _)); refine Qam ?_ NB655_668.out _; (with_reducible repeat (first | refine Qab ?_ _ | refine Qad ?_ | refine Qaa ?_ _)); refine Qam ?_ NB655_668.out _; (with_reducible repeat (first | refine Qab ?_ _ | refine Qad ?_ | refine Qaa ?_ _)); refine Qam ?_ NB655_668.out _; (with_reducible repeat (first | refine Qab ?_ _ | refine Qad ?_ | refine Qaa ?_ _)); refine Qam ?_ NB655_668.out _; (with_reducible repeat (first | refine Qab ?_ _ | refine Qad ?_ | refine Qaa ?_ _)); exact BK655.out))⟩; have n3_ : Aside0 (w57.heap[gb656]? = some (.cells #[.int .i64 a3] 3 (0, 0))) := ⟨(by rw [hw]; exact (by (with_reducible repeat (first | refine Qab ?_ _ | refine Qad ?_ | refine Qaa ?_ _)); refine Qam ?_ NB656_668.out _; (with_reducible repeat (first | refine Qab ?_ _ | refine Qad ?_ | refine Qaa ?_ _)); refine Qam ?_ NB656_668.out _; (with_reducible repeat (first | refine Qab ?_ _ | refine Qad ?_ | refine Qaa ?_ _)); refine Qam ?_ NB656_668.out _; (with_reducible repeat (first | refine Qab ?_ _ | refine Qad ?_ | refine Qaa ?_ _)); refine Qam ?_ NB656_668.out _; (with_reducible repeat (first | refine Qab ?_ _ | refine Qad ?_ | refine Qaa ?_ _)); refine Qam ?_ NB656_668.out _; (with_reducible repeat (first | refine Qab ?_ _ | refine Qad ?_ | refine Qaa ?_ _)); refine Qam ?_ NB656_668.out _; (with_reducible repeat (first | refine Qab ?_ _ | refine Qad ?_ | refine Qaa ?_ _)); exact BK656.out))⟩; have n4_ : Aside0 (w57.heap[gb657]? = some (.cells #[.slice A4 l4.length c4] 31 (0, 0))) := ⟨(by rw [hw]; exact (by (with_reducible repeat (first | refine Qab ?_ _ | refine Qad ?_ | refine Qaa ?_ _)); refine Qam ?_ NB657_668.out _; (with_reducible repeat (first | refine Qab ?_ _ | refine Qad ?_ | refine Qaa ?_ _)); refine Qam ?_ NB657_668.out _; (with_reducible repeat (first | refine Qab ?_ _ | refine Qad ?_ | refine Qaa ?_ _)); refine Qam ?_ NB657_668.out _; (with_reducible repeat (first | refine Qab ?_ _ | refine Qad ?_ | refine Qaa ?_ _)); refine Qam ?_ NB657_668.out _; (with_reducible repeat (first | refine Qab ?_ _ | refine Qad ?_ | refine Qaa ?_ _)); refine Qam ?_ NB657_668.out _; (with_reducible repeat (first | refine Qab ?_ _ | refine Qad ?_ | refine Qaa ?_ _)); refine Qam ?_ NB657_668.out _; (with_reducible repeat (first | refine Qab ?_ _ | refine Qad ?_ | refine Qaa ?_ _)); exact BK657.out))⟩; have n5_ : Aside0 (w57.heap[gb658]? = some (.cells #[.slice A5 l5.length c5] 32 (0, 0))) := ⟨(by rw [hw]; exact (by (with_reducible repeat (first | refine Qab ?_ _ | refine Qad ?_ | refine Qaa ?_ _)); refine Qam ?_ NB658_668.out _; (with_reducible repeat (first | refine Qab ?_ _ | refine Qad ?_ | refine Qaa ?_ _)); refine Qam ?_ NB658_668.out _; (with_reducible repeat (first | refine Qab ?_ _ | refine Qad ?_ | refine Qaa ?_ _)); refine Qam ?_ NB658_668.out _; (with_reducible repeat (first | refine Qab ?_ _ | refine Qad ?_ | refine Qaa ?_ _)); refine Qam ?_ NB658_668.out _; (with_reducible repeat (first | refine Qab ?_ _ | refine Qad ?_ | refine Qaa ?_ _)); refine Qam ?_ NB658_668.out _; (with_reducible repeat (first | refine Qab ?_ _ | refine Qad ?_ | refine Qaa ?_ _)); refine Qam ?_ NB658_668.out _; (with_reducible repeat (first | refine Qab ?_ _ | refine Qad ?_ | refine Qaa ?_ _)); exact BK658.out))⟩; have n6_ : Aside0 (w57.heap[gb668]? = some (.cells #[.string t661, .int .i64 t662, .int .i64 t663, .int .i64 t664, .int .i64 t665, .int .i64 t666] 84 (0, 0))) := ⟨(by rw [hw]; exact (by (with_reducible repeat (first | refine Qab ?_ _ | refine Qad ?_ | refine Qaa ?_ _)); refine Qas (cs := #[.string t661, .int .i64 t662, .int .i64 t663, .int .i64 t664, .int .i64 t665, .int .i64 0]) ?_ 5 _ rfl; (with_reducible repeat (first | refine Qab ?_ _ | refine Qad ?_ | refine Qaa ?_ _)); refine Qas (cs := #[.string t661, .int .i64 t662, .int .i64 t663, .int .i64 t664, .int .i64 0, .int .i64 0]) ?_ 4 _ rfl; (with_reducible repeat (first | refine Qab ?_ _ | refine Qad ?_ | refine Qaa ?_ _)); refine Qas (cs := #[.string t661, .int .i64 t662, .int .i64 t663, .int .i64 0, .int .i64 0, .int .i64 0]) ?_ 3 _ rfl; (with_reducible repeat (first | refine Qab ?_ _ | refine Qad ?_ | refine Qaa ?_ _)); refine Qas (cs := #[.string t661, .int .i64 t662, .int .i64 0, .int .i64 0, .int .i64 0, .int .i64 0]) ?_ 2 _ rfl; (with_reducible repeat (first | refine Qab ?_ _ | refine Qad ?_ | refine Qaa ?_ _)); refine Qas (cs := #[.string t661, .int .i64 0, .int .i64 0, .int .i64 0, .int .i64 0, .int .i64 0]) ?_ 1 _ rfl; (with_reducible repeat (first | refine Qab ?_ _ | refine Qad ?_ | refine Qaa ?_ _)); refine Qas (cs := #[.string (⟨#[]⟩ : ByteArray), .int .i64 0, .int .i64 0, .int .i64 0, .int .i64 0, .int .i64 0]) ?_ 0 _ rfl; (with_reducible repeat (first | refine Qab ?_ _ | refine Qad ?_ | refine Qaa ?_ _)); exact BK668.out))⟩; have n7_ : Aside0 (Below w.heap.size w w57) := ⟨(by rw [hw]; exact (Zc7 GE653.out GE654.out GE655.out GE656.out GE657.out GE658.out GE668.out))⟩; clear hw; clear BK653; clear BK654; clear BK655; clear BK656; clear BK657; clear BK658; clear BK668; clear HB; have BK653 := n0_; have BK654 := n1_; have BK655 := n2_; have BK656 := n3_; have BK657 := n4_; have BK658 := n5_; have BK668 := n6_; have HB := n7_; clear n0_ n1_ n2_ n3_ n4_ n5_ n6_ n7_))
  (try simp only [Act.put, List.setIfInBounds_toArray, List.set_cons_zero, List.set_cons_succ])
  by_cases c58 : t667 = true
  ·subst c58
   have H1 : ((QaR.f k l0 a1_0 a1_1 a2).bind fun t670 => (Qaz.l0 k 0 (wrap64 (t670 + 1)) l0 a1_0 a1_1 a2 a3 l4 l5)) = some (r1, r2) := by rw [if_pos rfl] at H; exact H
   clear H
   have H := H1
   clear H1
   replace H := Option.bind_eq_some_iff.mp H
   obtain ⟨t670, A590, H⟩ := H
   replace H : (Qaz.l0 k 0 (wrap64 (t670 + 1)) l0 a1_0 a1_1 a2 a3 l4 l5) = some (r1, r2) := H
   have A59 := Aside0.mk A590
   clear A590
   have H' := Aside0.mk H
   clear H
   go_wp2_with (first | ((with_reducible refine QaD (N := 16) rfl ?_); (refine gate_n (n := 51) rfl ?_); refine QaL ?hg (N := 16) ?hd (cs := #[.nilFunc]) (t := 96) ?hr ?_; (case hd => rfl); (case hg => rfl); (case hr => first | (go_simp; done) | (go_simp; rfl)); intro gb669 hg w60 hbox hb; have n0_ := Aside0.mk (Qaj (g := gb653) (o := .cells #[.slice A0 l0.length c0] 30 (0, 0)) (Zu BK653.out) hb); have n1_ := Aside0.mk (Qaj (g := gb654) (o := .cells #[.string a1_0, .string a1_1] 44 (0, 0)) (Zu BK654.out) hb); have n2_ := Aside0.mk (Qaj (g := gb655) (o := .cells #[.string a2] 9 (0, 0)) (Zu BK655.out) hb); have n3_ := Aside0.mk (Qaj (g := gb656) (o := .cells #[.int .i64 a3] 3 (0, 0)) (Zu BK656.out) hb); have n4_ := Aside0.mk (Qaj (g := gb657) (o := .cells #[.slice A4 l4.length c4] 31 (0, 0)) (Zu BK657.out) hb); have n5_ := Aside0.mk (Qaj (g := gb658) (o := .cells #[.slice A5 l5.length c5] 32 (0, 0)) (Zu BK658.out) hb); have n6_ := Aside0.mk (Qaj (g := gb668) (o := .cells #[.string t661, .int .i64 t662, .int .i64 t663, .int .i64 t664, .int .i64 t665, .int .i64 t666] 84 (0, 0)) (Zu BK668.out) hb); have n7_ := Aside0.mk (Qaq (Zc7 GE653.out GE654.out GE655.out GE656.out GE657.out GE658.out GE668.out) hb); have n8_ := Aside0.mk (hbox); have n9_ := Aside0.mk ((by rw [hg]; exact (Qan (Zc7 GE653.out GE654.out GE655.out GE656.out GE657.out GE658.out GE668.out)) : w.heap.size ≤ gb669)); have n10_ := Aside0.mk ((by rw [hg]; exact (Qan (Zc7 GE653.out GE654.out GE655.out GE656.out GE657.out GE658.out GE668.out)) : w.heap.size ≤ gb669)); have n11_ := Aside0.mk ((by rw [hg]; exact Nat.ne_of_lt (blk_lt (g := gb653) (o := .cells #[.slice A0 l0.length c0] 30 (0, 0)) (Zu BK653.out)) : gb653 ≠ gb669)); have n12_ := Aside0.mk ((by rw [hg]; exact Nat.ne_of_gt (blk_lt (g := gb653) (o := .cells #[.slice A0 l0.length c0] 30 (0, 0)) (Zu BK653.out)) : gb669 ≠ gb653)); have n13_ := Aside0.mk ((by rw [hg]; exact Nat.ne_of_lt (blk_lt (g := gb654) (o := .cells #[.string a1_0, .string a1_1] 44 (0, 0)) (Zu BK654.out)) : gb654 ≠ gb669)); have n14_ := Aside0.mk ((by rw [hg]; exact Nat.ne_of_gt (blk_lt (g := gb654) (o := .cells #[.string a1_0, .string a1_1] 44 (0, 0)) (Zu BK654.out)) : gb669 ≠ gb654)); have n15_ := Aside0.mk ((by rw [hg]; exact Nat.ne_of_lt (blk_lt (g := gb655) (o := .cells #[.string a2] 9 (0, 0)) (Zu BK655.out)) : gb655 ≠ gb669)); have n16_ := Aside0.mk ((by rw [hg]; exact Nat.ne_of_gt (blk_lt (g := gb655) (o := .cells #[.string a2] 9 (0, 0)) (Zu BK655.out)) : gb669 ≠ gb655)); have n17_ := Aside0.mk ((by rw [hg]; exact Nat.ne_of_lt (blk_lt (g := gb656) (o := .cells #[.int .i64 a3] 3 (0, 0)) (Zu BK656.out)) : gb656 ≠ gb669)); have n18_ := Aside0.mk ((by rw [hg]; exact Nat.ne_of_gt (blk_lt (g := gb656) (o := .cells #[.int .i64 a3] 3 (0, 0)) (Zu BK656.out)) : gb669 ≠ gb656)); have n19_ := Aside0.mk ((by rw [hg]; exact Nat.ne_of_lt (blk_lt (g := gb657) (o := .cells #[.slice A4 l4.length c4] 31 (0, 0)) (Zu BK657.out)) : gb657 ≠ gb669)); have n20_ := Aside0.mk ((by rw [hg]; exact Nat.ne_of_gt (blk_lt (g := gb657) (o := .cells #[.slice A4 l4.length c4] 31 (0, 0)) (Zu BK657.out)) : gb669 ≠ gb657)); have n21_ := Aside0.mk ((by rw [hg]; exact Nat.ne_of_lt (blk_lt (g := gb658) (o := .cells #[.slice A5 l5.length c5] 32 (0, 0)) (Zu BK658.out)) : gb658 ≠ gb669)); have n22_ := Aside0.mk ((by rw [hg]; exact Nat.ne_of_gt (blk_lt (g := gb658) (o := .cells #[.slice A5 l5.length c5] 32 (0, 0)) (Zu BK658.out)) : gb669 ≠ gb658)); have n23_ := Aside0.mk ((by rw [hg]; exact Nat.ne_of_lt (blk_lt (g := gb668) (o := .cells #[.string t661, .int .i64 t662, .int .i64 t663, .int .i64 t664, .int .i64 t665, .int .i64 t666] 84 (0, 0)) (Zu BK668.out)) : gb668 ≠ gb669)); have n24_ := Aside0.mk ((by rw [hg]; exact Nat.ne_of_gt (blk_lt (g := gb668) (o := .cells #[.string t661, .int .i64 t662, .int .i64 t663, .int .i64 t664, .int .i64 t665, .int .i64 t666] 84 (0, 0)) (Zu BK668.out)) : gb669 ≠ gb668)); clear BK653; clear BK654; clear BK655; clear BK656; clear BK657; clear BK658; clear BK668; clear HB; have BK653 := n0_; have BK654 := n1_; have BK655 := n2_; have BK656 := n3_; have BK657 := n4_; have BK658 := n5_; have BK668 := n6_; have HB := n7_; have BK669 := n8_; have GW669 := n9_; have GE669 := n10_; have NB653_669 := n11_; have NB669_653 := n12_; have NB654_669 := n13_; have NB669_654 := n14_; have NB655_669 := n15_; have NB669_655 := n16_; have NB656_669 := n17_; have NB669_656 := n18_; have NB657_669 := n19_; have NB669_657 := n20_; have NB658_669 := n21_; have NB669_658 := n22_; have NB668_669 := n23_; have NB669_668 := n24_; clear n0_ n1_ n2_ n3_ n4_ n5_ n6_ n7_ n8_ n9_ n10_ n11_ n12_ n13_ n14_ n15_ n16_ n17_ n18_ n19_ n20_ n21_ n22_ n23_ n24_; clear hb hbox hg; have hnb61 := NB669_653.out; have hnc61 := NB653_669.out; have hnb62 := NB669_654.out; have hnc62 := NB654_669.out; have hnb63 := NB669_655.out; have hnc63 := NB655_669.out; have hnb64 := NB669_656.out; have hnc64 := NB656_669.out; have hnb65 := NB669_657.out; have hnc65 := NB657_669.out; have hnb66 := NB669_658.out; have hnc66 := NB658_669.out; have hnb67 := NB669_668.out; have hnc67 := NB668_669.out; have hcz68_0 : w60.cell? ⟨gb669, 0, none⟩ = some (.nilFunc) := (Qah BK669.out 0).trans rfl; have hfz68_0 := Qaf BK669.out 0) | ((with_reducible refine Qdf (t := 96) (p := 16) rfl ?_); (refine gate_n (n := 51) rfl ?_); refine Qc0 (t := 96) (p := 16) (v := ?vo_w69) (w1 := (w60.setCell ⟨gb669, 0, none⟩ (.func (.func 61) #[] #[.pointer (some ⟨gb653, 0, none⟩), .pointer (some ⟨gb654, 0, none⟩), .pointer (some ⟨gb655, 0, none⟩), .pointer (some ⟨gb656, 0, none⟩), .pointer (some ⟨gb657, 0, none⟩), .pointer (some ⟨gb658, 0, none⟩)]))) ?hg ?ho ?hn ?hr ?_; (case ho => rfl); (case hg => rfl); (case hn => rfl); (case hr => first | (exact QcA (cs := #[.nilFunc]) (seg := [.func (.func 61) #[] #[.pointer (some ⟨gb653, 0, none⟩), .pointer (some ⟨gb654, 0, none⟩), .pointer (some ⟨gb655, 0, none⟩), .pointer (some ⟨gb656, 0, none⟩), .pointer (some ⟨gb657, 0, none⟩), .pointer (some ⟨gb658, 0, none⟩)]]) BK669.out rfl (by first | rfl | (go_simp; done)) (by first | rfl | (go_simp; done)) (by rfl) (by first | rfl | kernel_rfl) (by simp) (by first | rfl | simp [Value.oneCell'])) | (go_simp; done) | (go_simp; rfl)); intro w69 hw; have n0_ : Aside0 (w69.heap[gb653]? = some (.cells #[.slice A0 l0.length c0] 30 (0, 0))) := ⟨(by rw [hw]; exact (by (with_reducible repeat (first | refine Qab ?_ _ | refine Qad ?_ | refine Qaa ?_ _)); refine Qam ?_ NB653_669.out _; (with_reducible repeat (first | refine Qab ?_ _ | refine Qad ?_ | refine Qaa ?_ _)); exact BK653.out))⟩; have n1_ : Aside0 (w69.heap[gb654]? = some (.cells #[.string a1_0, .string a1_1] 44 (0, 0))) := ⟨(by rw [hw]; exact (by (with_reducible repeat (first | refine Qab ?_ _ | refine Qad ?_ | refine Qaa ?_ _)); refine Qam ?_ NB654_669.out _; (with_reducible repeat (first | refine Qab ?_ _ | refine Qad ?_ | refine Qaa ?_ _)); exact BK654.out))⟩; have n2_ : Aside0 (w69.heap[gb655]? = some (.cells #[.string a2] 9 (0, 0))) := ⟨(by rw [hw]; exact (by (with_reducible repeat (first | refine Qab ?_ _ | refine Qad ?_ | refine Qaa ?_ _)); refine Qam ?_ NB655_669.out _; (with_reducible repeat (first | refine Qab ?_ _ | refine Qad ?_ | refine Qaa ?_ _)); exact BK655.out))⟩; have n3_ : Aside0 (w69.heap[gb656]? = some (.cells #[.int .i64 a3] 3 (0, 0))) := ⟨(by rw [hw]; exact (by (with_reducible repeat (first | refine Qab ?_ _ | refine Qad ?_ | refine Qaa ?_ _)); refine Qam ?_ NB656_669.out _; (with_reducible repeat (first | refine Qab ?_ _ | refine Qad ?_ | refine Qaa ?_ _)); exact BK656.out))⟩; have n4_ : Aside0 (w69.heap[gb657]? = some (.cells #[.slice A4 l4.length c4] 31 (0, 0))) := ⟨(by rw [hw]; exact (by (with_reducible repeat (first | refine Qab ?_ _ | refine Qad ?_ | refine Qaa ?_ _)); refine Qam ?_ NB657_669.out _; (with_reducible repeat (first | refine Qab ?_ _ | refine Qad ?_ | refine Qaa ?_ _)); exact BK657.out))⟩; have n5_ : Aside0 (w69.heap[gb658]? = some (.cells #[.slice A5 l5.length c5] 32 (0, 0))) := ⟨(by rw [hw]; exact (by (with_reducible repeat (first | refine Qab ?_ _ | refine Qad ?_ | refine Qaa ?_ _)); refine Qam ?_ NB658_669.out _; (with_reducible repeat (first | refine Qab ?_ _ | refine Qad ?_ | refine Qaa ?_ _)); exact BK658.out))⟩; have n6_ : Aside0 (w69.heap[gb668]? = some (.cells #[.string t661, .int .i64 t662, .int .i64 t663, .int .i64 t664, .int .i64 t665, .int .i64 t666] 84 (0, 0))) := ⟨(by rw [hw]; exact (by (with_reducible repeat (first | refine Qab ?_ _ | refine Qad ?_ | refine Qaa ?_ _)); refine Qam ?_ NB668_669.out _; (with_reducible repeat (first | refine Qab ?_ _ | refine Qad ?_ | refine Qaa ?_ _)); exact BK668.out))⟩; have n7_ : Aside0 (w69.heap[gb669]? = some (.cells #[.func (.func 61) #[] #[.pointer (some ⟨gb653, 0, none⟩), .pointer (some ⟨gb654, 0, none⟩), .pointer (some ⟨gb655, 0, none⟩), .pointer (some ⟨gb656, 0, none⟩), .pointer (some ⟨gb657, 0, none⟩), .pointer (some ⟨gb658, 0, none⟩)]] 96 (0, 0))) := ⟨(by rw [hw]; exact (by (with_reducible repeat (first | refine Qab ?_ _ | refine Qad ?_ | refine Qaa ?_ _)); refine Qas (cs := #[.nilFunc]) ?_ 0 _ rfl; (with_reducible repeat (first | refine Qab ?_ _ | refine Qad ?_ | refine Qaa ?_ _)); exact BK669.out))⟩; have n8_ : Aside0 (Below w.heap.size w w69) := ⟨(by rw [hw]; exact (Zc8 GE653.out GE654.out GE655.out GE656.out GE657.out GE658.out GE668.out GE669.out))⟩; clear hw; clear BK653; clear BK654; clear BK655; clear BK656; clear BK657; clear BK658; clear BK668; clear BK669; clear HB; have BK653 := n0_; have BK654 := n1_; have BK655 := n2_; have BK656 := n3_; have BK657 := n4_; have BK658 := n5_; have BK668 := n6_; have BK669 := n7_; have HB := n8_; clear n0_ n1_ n2_ n3_ n4_ n5_ n6_ n7_ n8_; have hnb70 := NB653_654.out; have hnc70 := NB654_653.out; have hnb71 := NB653_655.out; have hnc71 := NB655_653.out; have hnb72 := NB653_656.out; have hnc72 := NB656_653.out; have hnb73 := NB653_657.out; have hnc73 := NB657_653.out; have hnb74 := NB653_658.out; have hnc74 := NB658_653.out; have hnb75 := NB653_668.out; have hnc75 := NB668_653.out; have hcz76_0 : w69.cell? ⟨gb653, 0, none⟩ = some (.slice A0 l0.length c0) := (Qah BK653.out 0).trans rfl; have hfz76_0 := Qaf BK653.out 0; have hnb77 := NB654_655.out; have hnc77 := NB655_654.out; have hnb78 := NB654_656.out; have hnc78 := NB656_654.out; have hnb79 := NB654_657.out; have hnc79 := NB657_654.out; have hnb80 := NB654_658.out; have hnc80 := NB658_654.out; have hnb81 := NB654_668.out; have hnc81 := NB668_654.out; have hcz82_0 : w69.cell? ⟨gb654, 0, none⟩ = some (.string a1_0) := (Qah BK654.out 0).trans rfl; have hcz82_1 : w69.cell? ⟨gb654, 1, none⟩ = some (.string a1_1) := (Qah BK654.out 1).trans rfl; have hfz82_0 := Qaf BK654.out 0; have hfz82_1 := Qaf BK654.out 1; have hnb83 := NB655_656.out; have hnc83 := NB656_655.out; have hnb84 := NB655_657.out; have hnc84 := NB657_655.out; have hnb85 := NB655_658.out; have hnc85 := NB658_655.out; have hnb86 := NB655_668.out; have hnc86 := NB668_655.out; have hcz87_0 : w69.cell? ⟨gb655, 0, none⟩ = some (.string a2) := (Qah BK655.out 0).trans rfl; have hfz87_0 := Qaf BK655.out 0) | ((with_reducible refine Qay (f := 46) rfl ?_); refine goesL_ (some 43) rfl rfl Try.func46 (by kernel_rfl) rfl #[.slice A0 l0.length c0, .agg #[.string a1_0, .string a1_1], .string a2] rfl (Zl) ?_; (with_reducible refine (QaR.calls k _ _ l0 a1_0 a1_1 a2 t670 _ ?side1 ?side2 A59.out).mono ?_); (case side1 => exact Zv (Kd.C_below HR0.out HB.out)); (case side2 => exact HC0.out); rintro e w88 ⟨rfl, hb⟩; refine ⟨_, rfl, ?_⟩; have n0_ := Aside0.mk (Qaj (g := gb653) (o := .cells #[.slice A0 l0.length c0] 30 (0, 0)) (Zu BK653.out) hb); have n1_ := Aside0.mk (Qaj (g := gb654) (o := .cells #[.string a1_0, .string a1_1] 44 (0, 0)) (Zu BK654.out) hb); have n2_ := Aside0.mk (Qaj (g := gb655) (o := .cells #[.string a2] 9 (0, 0)) (Zu BK655.out) hb); have n3_ := Aside0.mk (Qaj (g := gb656) (o := .cells #[.int .i64 a3] 3 (0, 0)) (Zu BK656.out) hb); have n4_ := Aside0.mk (Qaj (g := gb657) (o := .cells #[.slice A4 l4.length c4] 31 (0, 0)) (Zu BK657.out) hb); have n5_ := Aside0.mk (Qaj (g := gb658) (o := .cells #[.slice A5 l5.length c5] 32 (0, 0)) (Zu BK658.out) hb); have n6_ := Aside0.mk (Qaj (g := gb668) (o := .cells #[.string t661, .int .i64 t662, .int .i64 t663, .int .i64 t664, .int .i64 t665, .int .i64 t666] 84 (0, 0)) (Zu BK668.out) hb); have n7_ := Aside0.mk (Qaj (g := gb669) (o := .cells #[.func (.func 61) #[] #[.pointer (some ⟨gb653, 0, none⟩), .pointer (some ⟨gb654, 0, none⟩), .pointer (some ⟨gb655, 0, none⟩), .pointer (some ⟨gb656, 0, none⟩), .pointer (some ⟨gb657, 0, none⟩), .pointer (some ⟨gb658, 0, none⟩)]] 96 (0, 0)) (Zu BK669.out) hb); have n8_ := Aside0.mk (Qaq (Zc8 GE653.out GE654.out GE655.out GE656.out GE657.out GE658.out GE668.out GE669.out) hb); clear BK653; clear BK654; clear BK655; clear BK656; clear BK657; clear BK658; clear BK668; clear BK669; clear HB; have BK653 := n0_; have BK654 := n1_; have BK655 := n2_; have BK656 := n3_; have BK657 := n4_; have BK658 := n5_; have BK668 := n6_; have BK669 := n7_; have HB := n8_; clear n0_ n1_ n2_ n3_ n4_ n5_ n6_ n7_ n8_; (try clear hb); (try clear hb2); (try clear hk); (try clear hi)) | (go_at_call 62; go_in))
   go_loopg [5, 6] k (fun kq v305 v306 w' => ∃ (x305_1 : Int) (x306_1 : Int), v305 = .int .i64 x305_1 ∧ v306 = .int .i64 x306_1 ∧ Aside0 (Qaz.l0 kq x305_1 x306_1 l0 a1_0 a1_1 a2 a3 l4 l5 = some (r1, r2)) ∧ Aside0 (kq ≤ k) ∧ Aside0 (w'.heap[gb653]? = some (.cells #[(.slice A0 l0.length c0)] 30 (0, 0))) ∧ Aside0 (w'.heap[gb654]? = some (.cells #[.string a1_0, .string a1_1] 44 (0, 0))) ∧ Aside0 (w'.heap[gb655]? = some (.cells #[.string a2] 9 (0, 0))) ∧ Aside0 (w'.heap[gb656]? = some (.cells #[.int .i64 a3] 3 (0, 0))) ∧ Aside0 (w'.heap[gb657]? = some (.cells #[(.slice A4 l4.length c4)] 31 (0, 0))) ∧ Aside0 (w'.heap[gb658]? = some (.cells #[(.slice A5 l5.length c5)] 32 (0, 0))) ∧ Aside0 (w'.heap[gb668]? = some (.cells #[.string t661, .int .i64 t662, .int .i64 t663, .int .i64 t664, .int .i64 t665, .int .i64 t666] 84 (0, 0))) ∧ Aside0 (w'.heap[gb669]? = some (.cells #[(.func (.func 61) #[] #[.pointer (some ⟨gb653, 0, none⟩), .pointer (some ⟨gb654, 0, none⟩), .pointer (some ⟨gb655, 0, none⟩), .pointer (some ⟨gb656, 0, none⟩), .pointer (some ⟨gb657, 0, none⟩), .pointer (some ⟨gb658, 0, none⟩)])] 96 (0, 0))) ∧ Aside0 (Below w.heap.size w w'))
   case atStart => exact ⟨(0), (wrap64 (t670 + 1)), (Zs), (Zs), H', ⟨Nat.le_refl _⟩, ⟨Zu BK653.out⟩, ⟨Zu BK654.out⟩, ⟨Zu BK655.out⟩, ⟨Zu BK656.out⟩, ⟨Zu BK657.out⟩, ⟨Zu BK658.out⟩, ⟨Zu BK668.out⟩, ⟨Zu BK669.out⟩, ⟨Zc8 GE653.out GE654.out GE655.out GE656.out GE657.out GE658.out GE668.out GE669.out⟩⟩
   case round =>
    clear H'
    try clear c1
    try clear c2
    try clear p2
    try clear c3
    try clear c4
    try clear c5
    try clear c6
    try clear p6
    try clear c7
    try clear c8
    try clear c14
    try clear c15
    try clear c16
    try clear c17
    try clear c18
    try clear c20
    try clear c21
    try clear c22
    try clear c23
    try clear c25
    try clear c26
    try clear c27
    try clear c29
    try clear c30
    try clear c32
    try clear c33
    try clear c35
    try clear c35b0
    try clear c35b1
    try clear c37
    try clear c38
    try clear c39
    try clear c40
    try clear c41
    try clear c43
    try clear c44
    try clear c45
    try clear c46
    try clear c48
    try clear c50
    try clear c51
    try clear c52
    try clear c53
    try clear c54
    try clear c55
    try clear c58
    try clear c61
    try clear c62
    try clear c63
    try clear c64
    try clear p64
    try clear c65
    try clear c66
    try clear c67
    try clear c70
    try clear c71
    try clear c72
    try clear c73
    try clear c74
    try clear c75
    try clear c77
    try clear c78
    try clear c79
    try clear c80
    try clear c81
    try clear c83
    try clear c84
    try clear c85
    try clear c86
    try clear hcz19_0
    try clear hcz24_0
    try clear hcz24_1
    try clear hcz28_0
    try clear hcz31_0
    try clear hcz33_0
    try clear hcz42_0
    try clear hcz47_0
    try clear hcz56_0
    try clear hcz56_1
    try clear hcz56_2
    try clear hcz56_3
    try clear hcz56_4
    try clear hcz56_5
    try clear hcz68_0
    try clear hcz76_0
    try clear hcz82_0
    try clear hcz82_1
    try clear hcz87_0
    try clear hfz19_0
    try clear hfz24_0
    try clear hfz24_1
    try clear hfz28_0
    try clear hfz31_0
    try clear hfz33_0
    try clear hfz42_0
    try clear hfz47_0
    try clear hfz56_0
    try clear hfz56_1
    try clear hfz56_2
    try clear hfz56_3
    try clear hfz56_4
    try clear hfz56_5
    try clear hfz68_0
    try clear hfz76_0
    try clear hfz82_0
    try clear hfz82_1
    try clear hfz87_0
    obtain ⟨x305_1, x306_1, rfl, rfl, HA, HK1, BK653, BK654, BK655, BK656, BK657, BK658, BK668, BK669, HB⟩ := hrel
    cases gk with
    | zero => exact absurd HA.out (by simp [Qaz.l0])
    | succ k1 =>
     have H := HA.out
     clear HA
     simp only [Qaz.l0] at H
     by_cases c89 : x305_1 < x306_1
     ·rw [if_pos c89] at H
      have c89b0 : decide (x305_1 < x306_1) = true := decide_eq_true c89
      clear c89
      (try simp only [c89b0])
      have hnb90 := NB669_653.out
      have hnc90 := NB653_669.out
      have hnb91 := NB669_654.out
      have hnc91 := NB654_669.out
      have hnb92 := NB669_655.out
      have hnc92 := NB655_669.out
      have hnb93 := NB669_656.out
      have hnc93 := NB656_669.out
      have hnb94 := NB669_657.out
      have hnc94 := NB657_669.out
      have hnb95 := NB669_658.out
      have hnc95 := NB658_669.out
      have hnb96 := NB669_668.out
      have hnc96 := NB668_669.out
      have hcz97_0 : wr.cell? ⟨gb669, 0, none⟩ = some (.func (.func 61) #[] #[.pointer (some ⟨gb653, 0, none⟩), .pointer (some ⟨gb654, 0, none⟩), .pointer (some ⟨gb655, 0, none⟩), .pointer (some ⟨gb656, 0, none⟩), .pointer (some ⟨gb657, 0, none⟩), .pointer (some ⟨gb658, 0, none⟩)]) := (Qah BK669.out 0).trans rfl
      have hfz97_0 := Qaf BK669.out 0
      have hnb98 := NB653_654.out
      have hnc98 := NB654_653.out
      have hnb99 := NB653_655.out
      have hnc99 := NB655_653.out
      have hnb100 := NB653_656.out
      have hnc100 := NB656_653.out
      have hnb101 := NB653_657.out
      have hnc101 := NB657_653.out
      have hnb102 := NB653_658.out
      have hnc102 := NB658_653.out
      have hnb103 := NB653_668.out
      have hnc103 := NB668_653.out
      have hcz104_0 : wr.cell? ⟨gb653, 0, none⟩ = some (.slice A0 l0.length c0) := (Qah BK653.out 0).trans rfl
      have hfz104_0 := Qaf BK653.out 0
      go_upto_if 16 with (first | (go_at_call 63; go_in) | (go_at_call 61; go_in))
      (try simp only [Act.put, List.setIfInBounds_toArray, List.set_cons_zero, List.set_cons_succ])
      by_cases c105 : (wrap64 ((IntKind.u64.wrap (wrap64 (x305_1 + x306_1))) / 2)) > 0
      ·rw [if_pos c105] at H
       have c105b0 : decide (0 < (wrap64 ((IntKind.u64.wrap (wrap64 (x305_1 + x306_1))) / 2))) = true := decide_eq_true c105
       clear c105
       (try simp only [c105b0])
       replace H := Option.bind_eq_some_iff.mp H
       obtain ⟨⟨t671, t674⟩, A1060, H⟩ := H
       replace H : (if t674 = 0 then ((Qa5.f k1 t671 a1_0 a1_1 a3 l4 l5).bind fun bt675 => (if bt675.2 = 0 then (if bt675.1 ≥ a3 then (Qaz.l0 k1 (wrap64 ((wrap64 ((IntKind.u64.wrap (wrap64 (x305_1 + x306_1))) / 2)) + 1)) x306_1 l0 a1_0 a1_1 a2 a3 l4 l5) else (Qaz.l0 k1 x305_1 (wrap64 ((IntKind.u64.wrap (wrap64 (x305_1 + x306_1))) / 2)) l0 a1_0 a1_1 a2 a3 l4 l5)) else (Qaz.l0 k1 x305_1 (wrap64 ((IntKind.u64.wrap (wrap64 (x305_1 + x306_1))) / 2)) l0 a1_0 a1_1 a2 a3 l4 l5))) else (Qaz.l0 k1 x305_1 (wrap64 ((IntKind.u64.wrap (wrap64 (x305_1 + x306_1))) / 2)) l0 a1_0 a1_1 a2 a3 l4 l5)) = some (r1, r2) := H
       have A106 := Aside0.mk A1060
       clear A1060
       have hnb107 := NB653_654.out
       have hnc107 := NB654_653.out
       have hnb108 := NB653_655.out
       have hnc108 := NB655_653.out
       have hnb109 := NB653_656.out
       have hnc109 := NB656_653.out
       have hnb110 := NB653_657.out
       have hnc110 := NB657_653.out
       have hnb111 := NB653_658.out
       have hnc111 := NB658_653.out
       have hnb112 := NB653_668.out
       have hnc112 := NB668_653.out
       have hnb113 := NB653_669.out
       have hnc113 := NB669_653.out
       have hcz114_0 : wr.cell? ⟨gb653, 0, none⟩ = some (.slice A0 l0.length c0) := (Qah BK653.out 0).trans rfl
       have hfz114_0 := Qaf BK653.out 0
       have hnb115 := NB654_655.out
       have hnc115 := NB655_654.out
       have hnb116 := NB654_656.out
       have hnc116 := NB656_654.out
       have hnb117 := NB654_657.out
       have hnc117 := NB657_654.out
       have hnb118 := NB654_658.out
       have hnc118 := NB658_654.out
       have hnb119 := NB654_668.out
       have hnc119 := NB668_654.out
       have hnb120 := NB654_669.out
       have hnc120 := NB669_654.out
       have hcz121_0 : wr.cell? ⟨gb654, 0, none⟩ = some (.string a1_0) := (Qah BK654.out 0).trans rfl
       have hcz121_1 : wr.cell? ⟨gb654, 1, none⟩ = some (.string a1_1) := (Qah BK654.out 1).trans rfl
       have hfz121_0 := Qaf BK654.out 0
       have hfz121_1 := Qaf BK654.out 1
       have hnb122 := NB655_656.out
       have hnc122 := NB656_655.out
       have hnb123 := NB655_657.out
       have hnc123 := NB657_655.out
       have hnb124 := NB655_658.out
       have hnc124 := NB658_655.out
       have hnb125 := NB655_668.out
       have hnc125 := NB668_655.out
       have hnb126 := NB655_669.out
       have hnc126 := NB669_655.out
       have hcz127_0 : wr.cell? ⟨gb655, 0, none⟩ = some (.string a2) := (Qah BK655.out 0).trans rfl
       have hfz127_0 := Qaf BK655.out 0
       go_upto_if 26 with (first | ((with_reducible refine Qay (f := 47) rfl ?_); refine goesL_ (some 22) rfl rfl Try.func47 (by kernel_rfl) rfl #[.slice A0 l0.length c0, .agg #[.string a1_0, .string a1_1], .string a2, .int .i64 (wrap64 ((IntKind.u64.wrap (wrap64 (x305_1 + x306_1))) / 2))] rfl (Zl) ?_; (with_reducible refine (QaF.calls k1 _ _ l0 a1_0 a1_1 a2 (wrap64 ((IntKind.u64.wrap (wrap64 (x305_1 + x306_1))) / 2)) t671 t674 _ ?side1 ?side2 A106.out).mono ?_); (case side1 => exact Zv (Kd.C_below HR0.out HB.out)); (case side2 => exact HC0.out); rintro e w128 ⟨v672, rfl, ho0, hb⟩; refine ⟨_, rfl, ?_⟩; have n0_ := Aside0.mk (Kd.R_lower ho0 (Qan (Zc8 GE653.out GE654.out GE655.out GE656.out GE657.out GE658.out GE668.out GE669.out))); have n1_ := Aside0.mk (Qaj (g := gb653) (o := .cells #[.slice A0 l0.length c0] 30 (0, 0)) (Zu BK653.out) hb); have n2_ := Aside0.mk (Qaj (g := gb654) (o := .cells #[.string a1_0, .string a1_1] 44 (0, 0)) (Zu BK654.out) hb); have n3_ := Aside0.mk (Qaj (g := gb655) (o := .cells #[.string a2] 9 (0, 0)) (Zu BK655.out) hb); have n4_ := Aside0.mk (Qaj (g := gb656) (o := .cells #[.int .i64 a3] 3 (0, 0)) (Zu BK656.out) hb); have n5_ := Aside0.mk (Qaj (g := gb657) (o := .cells #[.slice A4 l4.length c4] 31 (0, 0)) (Zu BK657.out) hb); have n6_ := Aside0.mk (Qaj (g := gb658) (o := .cells #[.slice A5 l5.length c5] 32 (0, 0)) (Zu BK658.out) hb); have n7_ := Aside0.mk (Qaj (g := gb668) (o := .cells #[.string t661, .int .i64 t662, .int .i64 t663, .int .i64 t664, .int .i64 t665, .int .i64 t666] 84 (0, 0)) (Zu BK668.out) hb); have n8_ := Aside0.mk (Qaj (g := gb669) (o := .cells #[.func (.func 61) #[] #[.pointer (some ⟨gb653, 0, none⟩), .pointer (some ⟨gb654, 0, none⟩), .pointer (some ⟨gb655, 0, none⟩), .pointer (some ⟨gb656, 0, none⟩), .pointer (some ⟨gb657, 0, none⟩), .pointer (some ⟨gb658, 0, none⟩)]] 96 (0, 0)) (Zu BK669.out) hb); have n9_ := Aside0.mk (Qaq (Zc8 GE653.out GE654.out GE655.out GE656.out GE657.out GE658.out GE668.out GE669.out) hb); clear BK653; clear BK654; clear BK655; clear BK656; clear BK657; clear BK658; clear BK668; clear BK669; clear HB; have HO673 := n0_; have BK653 := n1_; have BK654 := n2_; have BK655 := n3_; have BK656 := n4_; have BK657 := n5_; have BK658 := n6_; have BK668 := n7_; have BK669 := n8_; have HB := n9_; clear n0_ n1_ n2_ n3_ n4_ n5_ n6_ n7_ n8_ n9_; (try clear hb); (try clear hb2); (try clear hk); (try clear hi); (try clear ho0)))
       (try simp only [Act.put, List.setIfInBounds_toArray, List.set_cons_zero, List.set_cons_succ])
       by_cases c129 : t674 = 0
       ·rw [if_pos c129] at H
        have c129b0 : (t674 == 0) = true := beq_iff_eq.mpr c129
        have c129b1 : (t674 != 0) = false := bne_eq_false_iff_eq.mpr c129
        clear c129
        (try simp only [c129b0, c129b1])
        replace H := Option.bind_eq_some_iff.mp H
        obtain ⟨⟨t675, t676⟩, A1300, H⟩ := H
        replace H : (if t676 = 0 then (if t675 ≥ a3 then (Qaz.l0 k1 (wrap64 ((wrap64 ((IntKind.u64.wrap (wrap64 (x305_1 + x306_1))) / 2)) + 1)) x306_1 l0 a1_0 a1_1 a2 a3 l4 l5) else (Qaz.l0 k1 x305_1 (wrap64 ((IntKind.u64.wrap (wrap64 (x305_1 + x306_1))) / 2)) l0 a1_0 a1_1 a2 a3 l4 l5)) else (Qaz.l0 k1 x305_1 (wrap64 ((IntKind.u64.wrap (wrap64 (x305_1 + x306_1))) / 2)) l0 a1_0 a1_1 a2 a3 l4 l5)) = some (r1, r2) := H
        have A130 := Aside0.mk A1300
        clear A1300
        have hnb131 := NB654_653.out
        have hnc131 := NB653_654.out
        have hnb132 := NB654_655.out
        have hnc132 := NB655_654.out
        have hnb133 := NB654_656.out
        have hnc133 := NB656_654.out
        have hnb134 := NB654_657.out
        have hnc134 := NB657_654.out
        have hnb135 := NB654_658.out
        have hnc135 := NB658_654.out
        have hnb136 := NB654_668.out
        have hnc136 := NB668_654.out
        have hnb137 := NB654_669.out
        have hnc137 := NB669_654.out
        have hcz138_0 : w128.cell? ⟨gb654, 0, none⟩ = some (.string a1_0) := (Qah BK654.out 0).trans rfl
        have hcz138_1 : w128.cell? ⟨gb654, 1, none⟩ = some (.string a1_1) := (Qah BK654.out 1).trans rfl
        have hfz138_0 := Qaf BK654.out 0
        have hfz138_1 := Qaf BK654.out 1
        have hnb139 := NB656_653.out
        have hnc139 := NB653_656.out
        have hnb140 := NB656_655.out
        have hnc140 := NB655_656.out
        have hnb141 := NB656_657.out
        have hnc141 := NB657_656.out
        have hnb142 := NB656_658.out
        have hnc142 := NB658_656.out
        have hnb143 := NB656_668.out
        have hnc143 := NB668_656.out
        have hnb144 := NB656_669.out
        have hnc144 := NB669_656.out
        have hcz145_0 : w128.cell? ⟨gb656, 0, none⟩ = some (.int .i64 a3) := (Qah BK656.out 0).trans rfl
        have hfz145_0 := Qaf BK656.out 0
        have hnb146 := NB657_653.out
        have hnc146 := NB653_657.out
        have hnb147 := NB657_655.out
        have hnc147 := NB655_657.out
        have hnb148 := NB657_658.out
        have hnc148 := NB658_657.out
        have hnb149 := NB657_668.out
        have hnc149 := NB668_657.out
        have hnb150 := NB657_669.out
        have hnc150 := NB669_657.out
        have hcz151_0 : w128.cell? ⟨gb657, 0, none⟩ = some (.slice A4 l4.length c4) := (Qah BK657.out 0).trans rfl
        have hfz151_0 := Qaf BK657.out 0
        have hnb152 := NB658_653.out
        have hnc152 := NB653_658.out
        have hnb153 := NB658_655.out
        have hnc153 := NB655_658.out
        have hnb154 := NB658_668.out
        have hnc154 := NB668_658.out
        have hnb155 := NB658_669.out
        have hnc155 := NB669_658.out
        have hcz156_0 : w128.cell? ⟨gb658, 0, none⟩ = some (.slice A5 l5.length c5) := (Qah BK658.out 0).trans rfl
        have hfz156_0 := Qaf BK658.out 0
        obtain ⟨Ao157, co157, eo157⟩ := Kd.R_slice HO673.out
        subst eo157
        go_upto_region 8 with (first | ((with_reducible refine Qay (f := 30) rfl ?_); refine goesL_ (some 34) rfl rfl Try.func30 (by kernel_rfl) rfl #[.slice Ao157 t671.length co157, .agg #[.string a1_0, .string a1_1], .int .i64 a3, .slice A4 l4.length c4, .slice A5 l5.length c5] rfl (Zl) ?_; (with_reducible refine (Qa5.calls k1 _ _ t671 a1_0 a1_1 a3 _ _ l4 _ _ l5 t675 t676 _ ?side1 ?side2 ?side3 ?side4 ?side5 ?side6 A130.out).mono ?_); (case side1 => repeat (first | exact (Kd.R_reads' HO673.out).2.2 | (with_reducible refine Kd.C_alloc ?_ _) | (with_reducible refine Kd.C_drewN ?_ _) | (with_reducible refine Kd.C_drew ?_))); (case side2 => exact (Kd.R_reads' HO673.out).2.1); (case side3 => exact Zv (Kd.C_below HR4.out HB.out)); (case side4 => exact HC4.out); (case side5 => exact Zv (Kd.C_below HR5.out HB.out)); (case side6 => exact HC5.out); rintro e w158 ⟨rfl, hb⟩; refine ⟨_, rfl, ?_⟩; have n0_ := Aside0.mk (Kd.R_below (Zr HO673.out) hb); have n1_ := Aside0.mk (Qaj (g := gb653) (o := .cells #[.slice A0 l0.length c0] 30 (0, 0)) (Zu BK653.out) hb); have n2_ := Aside0.mk (Qaj (g := gb654) (o := .cells #[.string a1_0, .string a1_1] 44 (0, 0)) (Zu BK654.out) hb); have n3_ := Aside0.mk (Qaj (g := gb655) (o := .cells #[.string a2] 9 (0, 0)) (Zu BK655.out) hb); have n4_ := Aside0.mk (Qaj (g := gb656) (o := .cells #[.int .i64 a3] 3 (0, 0)) (Zu BK656.out) hb); have n5_ := Aside0.mk (Qaj (g := gb657) (o := .cells #[.slice A4 l4.length c4] 31 (0, 0)) (Zu BK657.out) hb); have n6_ := Aside0.mk (Qaj (g := gb658) (o := .cells #[.slice A5 l5.length c5] 32 (0, 0)) (Zu BK658.out) hb); have n7_ := Aside0.mk (Qaj (g := gb668) (o := .cells #[.string t661, .int .i64 t662, .int .i64 t663, .int .i64 t664, .int .i64 t665, .int .i64 t666] 84 (0, 0)) (Zu BK668.out) hb); have n8_ := Aside0.mk (Qaj (g := gb669) (o := .cells #[.func (.func 61) #[] #[.pointer (some ⟨gb653, 0, none⟩), .pointer (some ⟨gb654, 0, none⟩), .pointer (some ⟨gb655, 0, none⟩), .pointer (some ⟨gb656, 0, none⟩), .pointer (some ⟨gb657, 0, none⟩), .pointer (some ⟨gb658, 0, none⟩)]] 96 (0, 0)) (Zu BK669.out) hb); have n9_ := Aside0.mk (Qaq (Zc8 GE653.out GE654.out GE655.out GE656.out GE657.out GE658.out GE668.out GE669.out) hb); clear HO673; clear BK653; clear BK654; clear BK655; clear BK656; clear BK657; clear BK658; clear BK668; clear BK669; clear HB; have HO673 := n0_; have BK653 := n1_; have BK654 := n2_; have BK655 := n3_; have BK656 := n4_; have BK657 := n5_; have BK658 := n6_; have BK668 := n7_; have BK669 := n8_; have HB := n9_; clear n0_ n1_ n2_ n3_ n4_ n5_ n6_ n7_ n8_ n9_; (try clear hb); (try clear hb2); (try clear hk); (try clear hi)))
        (try simp only [Act.put, List.setIfInBounds_toArray, List.set_cons_zero, List.set_cons_succ])
        by_cases c159 : t676 = 0
        ·rw [if_pos c159] at H
         have c159b0 : (t676 == 0) = true := beq_iff_eq.mpr c159
         have c159b1 : (t676 != 0) = false := bne_eq_false_iff_eq.mpr c159
         clear c159
         (try simp only [c159b0, c159b1])
         have hnb160 := NB656_653.out
         have hnc160 := NB653_656.out
         have hnb161 := NB656_654.out
         have hnc161 := NB654_656.out
         have hnb162 := NB656_655.out
         have hnc162 := NB655_656.out
         have hnb163 := NB656_657.out
         have hnc163 := NB657_656.out
         have hnb164 := NB656_658.out
         have hnc164 := NB658_656.out
         have hnb165 := NB656_668.out
         have hnc165 := NB668_656.out
         have hnb166 := NB656_669.out
         have hnc166 := NB669_656.out
         have hcz167_0 : w158.cell? ⟨gb656, 0, none⟩ = some (.int .i64 a3) := (Qah BK656.out 0).trans rfl
         have hfz167_0 := Qaf BK656.out 0
         go_upto_if 21 with (fail)
         by_cases c168 : t675 ≥ a3
         ·rw [if_pos c168] at H
          have c168b0 : decide (a3 ≤ t675) = true := decide_eq_true c168
          clear c168
          (try simp only [c168b0])
          have H' := Aside0.mk H
          clear H
          go_wp2
          go_roundg k1
          case measure => have := HK1.out; omega
          case rel => exact ⟨(wrap64 ((wrap64 ((IntKind.u64.wrap (wrap64 (x305_1 + x306_1))) / 2)) + 1)), (x306_1), (Zs), (Zs), H', ⟨by have := HK1.out; omega⟩, ⟨Zu BK653.out⟩, ⟨Zu BK654.out⟩, ⟨Zu BK655.out⟩, ⟨Zu BK656.out⟩, ⟨Zu BK657.out⟩, ⟨Zu BK658.out⟩, ⟨Zu BK668.out⟩, ⟨Zu BK669.out⟩, ⟨Zc8 GE653.out GE654.out GE655.out GE656.out GE657.out GE658.out GE668.out GE669.out⟩⟩
         ·rw [if_neg c168] at H
          have c168b0 : decide (a3 ≤ t675) = false := decide_eq_false c168
          clear c168
          (try simp only [c168b0])
          have H' := Aside0.mk H
          clear H
          go_wp2
          go_roundg k1
          case measure => have := HK1.out; omega
          case rel => exact ⟨(x305_1), (wrap64 ((IntKind.u64.wrap (wrap64 (x305_1 + x306_1))) / 2)), (Zs), (Zs), H', ⟨by have := HK1.out; omega⟩, ⟨Zu BK653.out⟩, ⟨Zu BK654.out⟩, ⟨Zu BK655.out⟩, ⟨Zu BK656.out⟩, ⟨Zu BK657.out⟩, ⟨Zu BK658.out⟩, ⟨Zu BK668.out⟩, ⟨Zu BK669.out⟩, ⟨Zc8 GE653.out GE654.out GE655.out GE656.out GE657.out GE658.out GE668.out GE669.out⟩⟩
        ·rw [if_neg c159] at H
         have c159b0 : (t676 == 0) = false := beq_eq_false_iff_ne.mpr c159
         have c159b1 : (t676 != 0) = true := bne_iff_ne.mpr c159
         (try simp only [c159b0, c159b1])
         have H' := Aside0.mk H
         clear H
         go_wp2
         go_roundg k1
         case measure => have := HK1.out; omega
         case rel => exact ⟨(x305_1), (wrap64 ((IntKind.u64.wrap (wrap64 (x305_1 + x306_1))) / 2)), (Zs), (Zs), H', ⟨by have := HK1.out; omega⟩, ⟨Zu BK653.out⟩, ⟨Zu BK654.out⟩, ⟨Zu BK655.out⟩, ⟨Zu BK656.out⟩, ⟨Zu BK657.out⟩, ⟨Zu BK658.out⟩, ⟨Zu BK668.out⟩, ⟨Zu BK669.out⟩, ⟨Zc8 GE653.out GE654.out GE655.out GE656.out GE657.out GE658.out GE668.out GE669.out⟩⟩
       ·rw [if_neg c129] at H
        have c129b0 : (t674 == 0) = false := beq_eq_false_iff_ne.mpr c129
        have c129b1 : (t674 != 0) = true := bne_iff_ne.mpr c129
        (try simp only [c129b0, c129b1])
        go_upto_region 6 with (fail)
        have H' := Aside0.mk H
        clear H
        go_wp2
        go_roundg k1
        case measure => have := HK1.out; omega
        case rel => exact ⟨(x305_1), (wrap64 ((IntKind.u64.wrap (wrap64 (x305_1 + x306_1))) / 2)), (Zs), (Zs), H', ⟨by have := HK1.out; omega⟩, ⟨Zu BK653.out⟩, ⟨Zu BK654.out⟩, ⟨Zu BK655.out⟩, ⟨Zu BK656.out⟩, ⟨Zu BK657.out⟩, ⟨Zu BK658.out⟩, ⟨Zu BK668.out⟩, ⟨Zu BK669.out⟩, ⟨Zc8 GE653.out GE654.out GE655.out GE656.out GE657.out GE658.out GE668.out GE669.out⟩⟩
      ·rw [if_neg c105] at H
       have c105b0 : decide (0 < (wrap64 ((IntKind.u64.wrap (wrap64 (x305_1 + x306_1))) / 2))) = false := decide_eq_false c105
       clear c105
       (try simp only [c105b0])
       replace H := Option.bind_eq_some_iff.mp H
       obtain ⟨⟨t677, t678⟩, A1690, H⟩ := H
       replace H : (if t678 = 0 then (if t677 ≥ a3 then (Qaz.l0 k1 (wrap64 ((wrap64 ((IntKind.u64.wrap (wrap64 (x305_1 + x306_1))) / 2)) + 1)) x306_1 l0 a1_0 a1_1 a2 a3 l4 l5) else (Qaz.l0 k1 x305_1 (wrap64 ((IntKind.u64.wrap (wrap64 (x305_1 + x306_1))) / 2)) l0 a1_0 a1_1 a2 a3 l4 l5)) else (Qaz.l0 k1 x305_1 (wrap64 ((IntKind.u64.wrap (wrap64 (x305_1 + x306_1))) / 2)) l0 a1_0 a1_1 a2 a3 l4 l5)) = some (r1, r2) := H
       have A169 := Aside0.mk A1690
       clear A1690
       have hnb170 := NB654_653.out
       have hnc170 := NB653_654.out
       have hnb171 := NB654_655.out
       have hnc171 := NB655_654.out
       have hnb172 := NB654_656.out
       have hnc172 := NB656_654.out
       have hnb173 := NB654_657.out
       have hnc173 := NB657_654.out
       have hnb174 := NB654_658.out
       have hnc174 := NB658_654.out
       have hnb175 := NB654_668.out
       have hnc175 := NB668_654.out
       have hnb176 := NB654_669.out
       have hnc176 := NB669_654.out
       have hcz177_0 : wr.cell? ⟨gb654, 0, none⟩ = some (.string a1_0) := (Qah BK654.out 0).trans rfl
       have hcz177_1 : wr.cell? ⟨gb654, 1, none⟩ = some (.string a1_1) := (Qah BK654.out 1).trans rfl
       have hfz177_0 := Qaf BK654.out 0
       have hfz177_1 := Qaf BK654.out 1
       have hnb178 := NB656_653.out
       have hnc178 := NB653_656.out
       have hnb179 := NB656_655.out
       have hnc179 := NB655_656.out
       have hnb180 := NB656_657.out
       have hnc180 := NB657_656.out
       have hnb181 := NB656_658.out
       have hnc181 := NB658_656.out
       have hnb182 := NB656_668.out
       have hnc182 := NB668_656.out
       have hnb183 := NB656_669.out
       have hnc183 := NB669_656.out
       have hcz184_0 : wr.cell? ⟨gb656, 0, none⟩ = some (.int .i64 a3) := (Qah BK656.out 0).trans rfl
       have hfz184_0 := Qaf BK656.out 0
       have hnb185 := NB657_653.out
       have hnc185 := NB653_657.out
       have hnb186 := NB657_655.out
       have hnc186 := NB655_657.out
       have hnb187 := NB657_658.out
       have hnc187 := NB658_657.out
       have hnb188 := NB657_668.out
       have hnc188 := NB668_657.out
       have hnb189 := NB657_669.out
       have hnc189 := NB669_657.out
       have hcz190_0 : wr.cell? ⟨gb657, 0, none⟩ = some (.slice A4 l4.length c4) := (Qah BK657.out 0).trans rfl
       have hfz190_0 := Qaf BK657.out 0
       have hnb191 := NB658_653.out
       have hnc191 := NB653_658.out
       have hnb192 := NB658_655.out
       have hnc192 := NB655_658.out
       have hnb193 := NB658_668.out
       have hnc193 := NB668_658.out
       have hnb194 := NB658_669.out
       have hnc194 := NB669_658.out
       have hcz195_0 : wr.cell? ⟨gb658, 0, none⟩ = some (.slice A5 l5.length c5) := (Qah BK658.out 0).trans rfl
       have hfz195_0 := Qaf BK658.out 0
       go_upto_region 8 with (first | ((with_reducible refine Qay (f := 30) rfl ?_); refine goesL_ (some 34) rfl rfl Try.func30 (by kernel_rfl) rfl #[.slice A0 l0.length c0, .agg #[.string a1_0, .string a1_1], .int .i64 a3, .slice A4 l4.length c4, .slice A5 l5.length c5] rfl (Zl) ?_; (with_reducible refine (Qa5.calls k1 _ _ l0 a1_0 a1_1 a3 _ _ l4 _ _ l5 t677 t678 _ ?side1 ?side2 ?side3 ?side4 ?side5 ?side6 A169.out).mono ?_); (case side1 => exact Zv (Kd.C_below HR0.out HB.out)); (case side2 => exact HC0.out); (case side3 => exact Zv (Kd.C_below HR4.out HB.out)); (case side4 => exact HC4.out); (case side5 => exact Zv (Kd.C_below HR5.out HB.out)); (case side6 => exact HC5.out); rintro e w196 ⟨rfl, hb⟩; refine ⟨_, rfl, ?_⟩; have n0_ := Aside0.mk (Qaj (g := gb653) (o := .cells #[.slice A0 l0.length c0] 30 (0, 0)) (Zu BK653.out) hb); have n1_ := Aside0.mk (Qaj (g := gb654) (o := .cells #[.string a1_0, .string a1_1] 44 (0, 0)) (Zu BK654.out) hb); have n2_ := Aside0.mk (Qaj (g := gb655) (o := .cells #[.string a2] 9 (0, 0)) (Zu BK655.out) hb); have n3_ := Aside0.mk (Qaj (g := gb656) (o := .cells #[.int .i64 a3] 3 (0, 0)) (Zu BK656.out) hb); have n4_ := Aside0.mk (Qaj (g := gb657) (o := .cells #[.slice A4 l4.length c4] 31 (0, 0)) (Zu BK657.out) hb); have n5_ := Aside0.mk (Qaj (g := gb658) (o := .cells #[.slice A5 l5.length c5] 32 (0, 0)) (Zu BK658.out) hb); have n6_ := Aside0.mk (Qaj (g := gb668) (o := .cells #[.string t661, .int .i64 t662, .int .i64 t663, .int .i64 t664, .int .i64 t665, .int .i64 t666] 84 (0, 0)) (Zu BK668.out) hb); have n7_ := Aside0.mk (Qaj (g := gb669) (o := .cells #[.func (.func 61) #[] #[.pointer (some ⟨gb653, 0, none⟩), .pointer (some ⟨gb654, 0, none⟩), .pointer (some ⟨gb655, 0, none⟩), .pointer (some ⟨gb656, 0, none⟩), .pointer (some ⟨gb657, 0, none⟩), .pointer (some ⟨gb658, 0, none⟩)]] 96 (0, 0)) (Zu BK669.out) hb); have n8_ := Aside0.mk (Qaq (Zc8 GE653.out GE654.out GE655.out GE656.out GE657.out GE658.out GE668.out GE669.out) hb); clear BK653; clear BK654; clear BK655; clear BK656; clear BK657; clear BK658; clear BK668; clear BK669; clear HB; have BK653 := n0_; have BK654 := n1_; have BK655 := n2_; have BK656 := n3_; have BK657 := n4_; have BK658 := n5_; have BK668 := n6_; have BK669 := n7_; have HB := n8_; clear n0_ n1_ n2_ n3_ n4_ n5_ n6_ n7_ n8_; (try clear hb); (try clear hb2); (try clear hk); (try clear hi)))
       (try simp only [Act.put, List.setIfInBounds_toArray, List.set_cons_zero, List.set_cons_succ])
       by_cases c197 : t678 = 0
       ·rw [if_pos c197] at H
        have c197b0 : (t678 == 0) = true := beq_iff_eq.mpr c197
        have c197b1 : (t678 != 0) = false := bne_eq_false_iff_eq.mpr c197
        clear c197
        (try simp only [c197b0, c197b1])
        have hnb198 := NB656_653.out
        have hnc198 := NB653_656.out
        have hnb199 := NB656_654.out
        have hnc199 := NB654_656.out
        have hnb200 := NB656_655.out
        have hnc200 := NB655_656.out
        have hnb201 := NB656_657.out
        have hnc201 := NB657_656.out
        have hnb202 := NB656_658.out
        have hnc202 := NB658_656.out
        have hnb203 := NB656_668.out
        have hnc203 := NB668_656.out
        have hnb204 := NB656_669.out
        have hnc204 := NB669_656.out
        have hcz205_0 : w196.cell? ⟨gb656, 0, none⟩ = some (.int .i64 a3) := (Qah BK656.out 0).trans rfl
        have hfz205_0 := Qaf BK656.out 0
        go_upto_if 21 with (fail)
        by_cases c206 : t677 ≥ a3
        ·rw [if_pos c206] at H
         have c206b0 : decide (a3 ≤ t677) = true := decide_eq_true c206
         clear c206
         (try simp only [c206b0])
         have H' := Aside0.mk H
         clear H
         go_wp2
         go_roundg k1
         case measure => have := HK1.out; omega
         case rel => exact ⟨(wrap64 ((wrap64 ((IntKind.u64.wrap (wrap64 (x305_1 + x306_1))) / 2)) + 1)), (x306_1), (Zs), (Zs), H', ⟨by have := HK1.out; omega⟩, ⟨Zu BK653.out⟩, ⟨Zu BK654.out⟩, ⟨Zu BK655.out⟩, ⟨Zu BK656.out⟩, ⟨Zu BK657.out⟩, ⟨Zu BK658.out⟩, ⟨Zu BK668.out⟩, ⟨Zu BK669.out⟩, ⟨Zc8 GE653.out GE654.out GE655.out GE656.out GE657.out GE658.out GE668.out GE669.out⟩⟩
        ·rw [if_neg c206] at H
         have c206b0 : decide (a3 ≤ t677) = false := decide_eq_false c206
         clear c206
         (try simp only [c206b0])
         have H' := Aside0.mk H
         clear H
         go_wp2
         go_roundg k1
         case measure => have := HK1.out; omega
         case rel => exact ⟨(x305_1), (wrap64 ((IntKind.u64.wrap (wrap64 (x305_1 + x306_1))) / 2)), (Zs), (Zs), H', ⟨by have := HK1.out; omega⟩, ⟨Zu BK653.out⟩, ⟨Zu BK654.out⟩, ⟨Zu BK655.out⟩, ⟨Zu BK656.out⟩, ⟨Zu BK657.out⟩, ⟨Zu BK658.out⟩, ⟨Zu BK668.out⟩, ⟨Zu BK669.out⟩, ⟨Zc8 GE653.out GE654.out GE655.out GE656.out GE657.out GE658.out GE668.out GE669.out⟩⟩
       ·rw [if_neg c197] at H
        have c197b0 : (t678 == 0) = false := beq_eq_false_iff_ne.mpr c197
        have c197b1 : (t678 != 0) = true := bne_iff_ne.mpr c197
        (try simp only [c197b0, c197b1])
        go_upto_region 6 with (fail)
        have H' := Aside0.mk H
        clear H
        go_wp2
        go_roundg k1
        case measure => have := HK1.out; omega
        case rel => exact ⟨(x305_1), (wrap64 ((IntKind.u64.wrap (wrap64 (x305_1 + x306_1))) / 2)), (Zs), (Zs), H', ⟨by have := HK1.out; omega⟩, ⟨Zu BK653.out⟩, ⟨Zu BK654.out⟩, ⟨Zu BK655.out⟩, ⟨Zu BK656.out⟩, ⟨Zu BK657.out⟩, ⟨Zu BK658.out⟩, ⟨Zu BK668.out⟩, ⟨Zu BK669.out⟩, ⟨Zc8 GE653.out GE654.out GE655.out GE656.out GE657.out GE658.out GE668.out GE669.out⟩⟩
     ·rw [if_neg c89] at H
      have c89b0 : decide (x305_1 < x306_1) = false := decide_eq_false c89
      clear c89
      (try simp only [c89b0])
      go_upto_region 10 with (fail)
      obtain ⟨ji207, hji207⟩ : ∃ j_ : Int, (mx (wrap64 (x305_1 - 1)) 0) = j_ := ⟨_, rfl⟩
      replace H : (some (ji207, 0)) = some (r1, r2) := by first | (rw [hji207] at H; exact H) | (simp only [hji207] at H ⊢; exact H)
      have hji207_ : (if (wrap64 (x305_1 - 1)) < 0 then 0 else (wrap64 (x305_1 - 1))) = ji207 := hji207
      simp only [Option.some.injEq, Prod.mk.injEq] at H
      obtain ⟨rfl, rfl⟩ := H
      go_wp2
      go_ret2
      exact ⟨by first | rfl | (simp [Qak, Qal] <;> rfl) | (simp only [← hji207]; first | rfl | (simp [Qak, Qal] <;> rfl)) | (simp [*, Qak, Qal] <;> rfl), Zc8 GE653.out GE654.out GE655.out GE656.out GE657.out GE658.out GE668.out GE669.out⟩
  ·replace c58 := Bool.eq_false_iff.mpr c58
   subst c58
   have H1 : (some (0, 11)) = some (r1, r2) := by rw [if_neg (show ¬ (false = true) by decide)] at H; exact H
   clear H
   have H := H1
   clear H1
   simp only [Option.some.injEq, Prod.mk.injEq] at H
   obtain ⟨rfl, rfl⟩ := H
   go_wp2
   go_ret2
   exact ⟨Zq, Zc7 GE653.out GE654.out GE655.out GE656.out GE657.out GE658.out GE668.out⟩
 ·rw [if_neg c35] at H
  have c35b0 : (t660 == 0) = false := beq_eq_false_iff_ne.mpr c35
  have c35b1 : (t660 != 0) = true := bne_iff_ne.mpr c35
  (try simp only [c35b0, c35b1])
  simp only [Option.some.injEq, Prod.mk.injEq] at H
  obtain ⟨rfl, rfl⟩ := H
  go_wp2
  go_ret2
  exact ⟨Zq, Zc6 GE653.out GE654.out GE655.out GE656.out GE657.out GE658.out⟩
theorem Qcf (d : Nat) (w : World) (x0 x1 x2 x3 y0 y1 y2 y3 : Int) : (Op.equalIn (d + 2) 74 (.agg #[.int .i64 x0, .int .i64 x1, .int .i64 x2, .int .i64 x3]) (.agg #[.int .i64 y0, .int .i64 y1, .int .i64 y2, .int .i64 y3])).run Try.prog w = .ok (x0 == y0 && (x1 == y1 && (x2 == y2 && (x3 == y3)))) w := by
 have hs : (sizeOf 3 : Sem Nat).run Try.prog w = .ok 1 w := by go_simp
 have he : ∀ a b : Int, (Op.equalIn (d + 1) 3 (.int .i64 a) (.int .i64 b)).run Try.prog w = .ok (a == b) w := fun a b => by go_simp
 have p0 : ∀ (z0 z1 z2 z3 : Int), (part 3 #[.int .i64 z0, .int .i64 z1, .int .i64 z2, .int .i64 z3] 0).run Try.prog w = .ok (.int .i64 z0) w := fun z0 z1 z2 z3 => by go_simp
 have p1 : ∀ (z0 z1 z2 z3 : Int), (part 3 #[.int .i64 z0, .int .i64 z1, .int .i64 z2, .int .i64 z3] 1).run Try.prog w = .ok (.int .i64 z1) w := fun z0 z1 z2 z3 => by go_simp
 have p2 : ∀ (z0 z1 z2 z3 : Int), (part 3 #[.int .i64 z0, .int .i64 z1, .int .i64 z2, .int .i64 z3] 2).run Try.prog w = .ok (.int .i64 z2) w := fun z0 z1 z2 z3 => by go_simp
 have p3 : ∀ (z0 z1 z2 z3 : Int), (part 3 #[.int .i64 z0, .int .i64 z1, .int .i64 z2, .int .i64 z3] 3).run Try.prog w = .ok (.int .i64 z3) w := fun z0 z1 z2 z3 => by go_simp
 show (Op.equalIn ((d + 1) + 1) 74 _ _).run Try.prog w = _
 revert he
 generalize d + 1 = D
 intro he
 simp only [Op.equalIn, Sem.run_bind, run_underlying Try.underlying74, Result.andThen_ok, hs]
 simp only [Std.Legacy.Range.forIn_eq_forIn_range', Std.Legacy.Range.size, Nat.sub_zero, Nat.add_one_sub_one, Nat.div_one, List.range', List.forIn_cons, List.forIn_nil, Nat.mul_one, Nat.zero_add, Nat.reduceAdd, Sem.run_bind, p0, p1, p2, p3, he, Result.andThen_ok]
 cases h0 : (x0 == y0) <;> cases h1 : (x1 == y1) <;> cases h2 : (x2 == y2) <;> cases h3 : (x3 == y3) <;> simp [p0, p1, p2, p3, he, h0, h1, h2, h3]
attribute [local go_sem] Qcf
end Go.Proofs.Ytfcaaefdmabkhaa.Pr
