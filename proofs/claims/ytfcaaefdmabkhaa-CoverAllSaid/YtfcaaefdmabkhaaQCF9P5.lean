/- Functions' values and contracts, as the print wrote them. -/
import Derived.Test.YtfcaaefdmabkhaaQCF9P0
import Derived.Test.YtfcaaefdmabkhaaQCF9P4
import Derived.Test.YtfcaaefdmabkhaaQCF9P3
import Derived.Test.YtfcaaefdmabkhaaQCF9P1
namespace Go.Proofs.Ytfcaaefdmabkhaa.Pr
open Go.RowKit Go.Proofs.YtfcaaefdmabkhaaW.PrintWords Go.Proofs.YtfcaaefdmabkhaaW.PrintLast Go.Proofs.YtfcaaefdmabkhaaW.PrintMore
attribute [local go_sem] QaP QaR QaX QaY QaJ QaK QaQ QaS   -- for this text's walks alone
set_option linter.unusedVariables false
set_option linter.unusedSimpArgs false
def QbB.f (k : Nat) (l0 : List (S46)) (a1_0 : ByteArray) (a1_1 : ByteArray) (a2 : Int) (l3 : List (S84)) (l4 : List (S98)) : Option (Int × Int) := (Qaz.f k l0 a1_0 a1_1 a2 l3 l4).bind fun bt271 => (if bt271.2 = 0 then ((Qbg.f k bt271.1).bind fun bt275 => (some (bt275.1, bt275.2))) else (some (0, bt271.2)))
theorem QbB.mono : ∀ a0 a1 a2 a3 a4 a5 k, LeO (QbB.f k a0 a1 a2 a3 a4 a5) (QbB.f (k + 1) a0 a1 a2 a3 a4 a5) := by
 intro a0 a1 a2 a3 a4 a5 k
 unfold QbB.f
 repeat' first
   | (with_reducible exact Qbg.mono _ _)
   | (with_reducible exact Qaz.mono _ _ _ _ _ _ _)
   | (with_reducible exact LeO.refl _)
   | (with_reducible exact LeO.none _)
   | (with_reducible refine LeO.ite ?_ ?_)
   | (with_reducible refine LeO.bind ?_ (fun _ => ?_))
   | exact Qbg.mono _ _
   | exact Qaz.mono _ _ _ _ _ _ _
   | exact LeO.none _
   | refine LeO.ite ?_ ?_
   | refine LeO.bind ?_ (fun _ => ?_)
set_option maxHeartbeats 8000000 in
set_option maxRecDepth 100000 in
theorem QbB.calls (k : Nat) (A0 : Option Addr) (c0 : Nat) (l0 : List (S46)) (a1_0 : ByteArray) (a1_1 : ByteArray) (a2 : Int) (A3 : Option Addr) (c3 : Nat) (l3 : List (S84)) (A4 : Option Addr) (c4 : Nat) (l4 : List (S98)) (r1 : Int) (r2 : Int) (w : World) (hr0 : Kd.C k46 w A0 l0.length l0) (hc0 : l0.length ≤ c0) (hr3 : Kd.C k84 w A3 l3.length l3) (hc3 : l3.length ≤ c3) (hr4 : Kd.C k98 w A4 l4.length l4) (hc4 : l4.length ≤ c4) (h : QbB.f k l0 a1_0 a1_1 a2 l3 l4 = some (r1, r2)) :
  Calls Try.prog 30 #[.slice A0 l0.length c0, .agg #[.string a1_0, .string a1_1], .int .i64 a2, .slice A3 l3.length c3, .slice A4 l4.length c4] w fun e w' => e = .returned (.tuple #[.int .i64 r1, .int .i64 r2]) ∧ Below w.heap.size w w' := by
 have hu44 := Try.underlying44
 have HR0 := Aside0.mk hr0
 have HC0 := Aside0.mk hc0
 clear hr0 hc0
 have HR3 := Aside0.mk hr3
 have HC3 := Aside0.mk hc3
 clear hr3 hc3
 have HR4 := Aside0.mk hr4
 have HC4 := Aside0.mk hc4
 clear hr4 hc4
 have HB := Aside0.mk (Below.refl w.heap.size w)
 have H : ((Qaz.f k l0 a1_0 a1_1 a2 l3 l4).bind fun bt271 => (if bt271.2 = 0 then ((Qbg.f k bt271.1).bind fun bt275 => (some (bt275.1, bt275.2))) else (some (0, bt271.2)))) = some (r1, r2) := h
 clear h
 replace H := Option.bind_eq_some_iff.mp H
 obtain ⟨⟨t271, t274⟩, A60, H⟩ := H
 replace H : (if t274 = 0 then ((Qbg.f k t271).bind fun bt275 => (some (bt275.1, bt275.2))) else (some (0, t274))) = some (r1, r2) := H
 have A6 := Aside0.mk A60
 clear A60
 go_enter Try.func30, Try.ntmps30
 go_upto_if 23 with (first | ((with_reducible refine QaW (N := 6) rfl ?_); refine Qa2 ?hg (N := 6) ?hd (cs := #[.string a1_0, .string a1_1]) (t := 44) ?hr ?_; (case hd => rfl); (case hg => rfl); (case hr => first | (go_simp; done) | (go_simp; rfl)); intro gb270 hg w7 hbox hb; have n0_ := Aside0.mk (Qao (Zb) hb); have n1_ := Aside0.mk (hbox); have n2_ := Aside0.mk ((by rw [hg]; exact (Qam (Zb)) : w.heap.size ≤ gb270)); have n3_ := Aside0.mk ((by rw [hg]; exact (Qam (Zb)) : w.heap.size ≤ gb270)); clear HB; have HB := n0_; have BK270 := n1_; have GW270 := n2_; have GE270 := n3_; clear n0_ n1_ n2_ n3_; clear hb hbox hg; have hcz8_0 : w7.cell? ⟨gb270, 0, none⟩ = some (.string a1_0) := (Qai BK270.out 0).trans rfl; have hcz8_1 : w7.cell? ⟨gb270, 1, none⟩ = some (.string a1_1) := (Qai BK270.out 1).trans rfl; have hfz8_0 := Qah BK270.out 0; have hfz8_1 := Qah BK270.out 1) | ((with_reducible refine Qaw (f := 28) rfl ?_); refine goesL_ (some 19) rfl rfl Try.func28 (by kernel_rfl) rfl #[.slice A0 l0.length c0, .agg #[.string a1_0, .string a1_1], .int .i64 a2, .slice A3 l3.length c3, .slice A4 l4.length c4] rfl (Zl) ?_; (with_reducible refine (Qaz.calls k _ _ l0 a1_0 a1_1 a2 _ _ l3 _ _ l4 t271 t274 _ ?side1 ?side2 ?side3 ?side4 ?side5 ?side6 A6.out).mono ?_); (case side1 => exact Zv (Kd.C_below HR0.out HB.out)); (case side2 => exact HC0.out); (case side3 => exact Zv (Kd.C_below HR3.out HB.out)); (case side4 => exact HC3.out); (case side5 => exact Zv (Kd.C_below HR4.out HB.out)); (case side6 => exact HC4.out); rintro e w9 ⟨v272, rfl, ho0, hb⟩; refine ⟨_, rfl, ?_⟩; have n0_ := Aside0.mk (Kd.R_lower ho0 (Qam (Zc1 GE270.out))); have n1_ := Aside0.mk (Qan (g := gb270) (o := .cells #[.string a1_0, .string a1_1] 44 (0, 0)) (Zu BK270.out) hb); have n2_ := Aside0.mk (Qao (Zc1 GE270.out) hb); clear BK270; clear HB; have HO273 := n0_; have BK270 := n1_; have HB := n2_; clear n0_ n1_ n2_; (try clear hb); (try clear hb2); (try clear hk); (try clear hi); (try clear ho0)))
 (try simp only [Act.put, List.setIfInBounds_toArray, List.set_cons_zero, List.set_cons_succ])
 by_cases c10 : t274 = 0
 ·rw [if_pos c10] at H
  have c10b0 : (t274 == 0) = true := beq_iff_eq.mpr c10
  have c10b1 : (t274 != 0) = false := bne_eq_false_iff_eq.mpr c10
  clear c10
  (try simp only [c10b0, c10b1])
  replace H := Option.bind_eq_some_iff.mp H
  obtain ⟨⟨t275, t276⟩, A110, H⟩ := H
  replace H : (some (t275, t276)) = some (r1, r2) := H
  have A11 := Aside0.mk A110
  clear A110
  simp only [Option.some.injEq, Prod.mk.injEq] at H
  obtain ⟨rfl, rfl⟩ := H
  obtain ⟨Ao12, co12, eo12⟩ := Kd.R_slice HO273.out
  subst eo12
  go_wp2_with (first | ((with_reducible refine Qaw (f := 59) rfl ?_); refine goesL_ (some 26) rfl rfl Try.func59 (by kernel_rfl) rfl #[.slice Ao12 t271.length co12] rfl (Zl) ?_; (with_reducible refine (Qbg.calls k _ _ t271 t275 t276 _ ?side1 ?side2 A11.out).mono ?_); (case side1 => repeat (first | exact (Kd.R_reads' HO273.out).2.2 | (with_reducible refine Kd.C_alloc ?_ _) | (with_reducible refine Kd.C_drewN ?_ _) | (with_reducible refine Kd.C_drew ?_))); (case side2 => exact (Kd.R_reads' HO273.out).2.1); rintro e w' ⟨rfl, ⟨nd, rfl⟩⟩; refine ⟨_, rfl, ?_⟩))
  go_ret2
  exact ⟨Zq, Zc1 GE270.out⟩
 ·rw [if_neg c10] at H
  have c10b0 : (t274 == 0) = false := beq_eq_false_iff_ne.mpr c10
  have c10b1 : (t274 != 0) = true := bne_iff_ne.mpr c10
  (try simp only [c10b0, c10b1])
  simp only [Option.some.injEq, Prod.mk.injEq] at H
  obtain ⟨rfl, rfl⟩ := H
  go_wp2
  go_ret2
  exact ⟨Zq, Zc1 GE270.out⟩
def Qa7.l0 : Nat → List (S50) → List (S48) → Int → Int → List (S46) → List (S84) → List (S98) → Option ((List (S50)) × Int)
 | 0, _, _, _, _, _, _, _ => none
 | k + 1, x11, x21, x22, x23, x279000, x280000, x281000 => if x23 < x22 then (if 0 ≤ x23 then (if x23 < (x21.length : Int) then ((QbD.f ((rd_T48 x21 x23).f7)).bind fun t283 => (if t283 = true then ((QbB.f k x279000 ((rd_T48 x21 x23).f0.f0) ((rd_T48 x21 x23).f0.f1) ((rd_T48 x21 x23).f7) x280000 x281000).bind fun bt285 => (if bt285.2 = 0 then ((QbO.f ((rd_T48 x21 x23).f7) bt285.1).bind fun bt287 => (if bt287.2 = 0 then (if x11.length < 2513169434916 then (Qa7.l0 k (x11 ++ [(⟨(⟨(rd_T48 x21 x23).f0.f0, (rd_T48 x21 x23).f0.f1⟩ : S44), (rd_T48 x21 x23).f7, bt285.1, bt287.1⟩ : S50)]) x21 x22 (wrap64 (x23 + 1)) x279000 x280000 x281000) else (none)) else (some (([] : List (S50)), bt287.2)))) else (some (([] : List (S50)), bt285.2)))) else (some (([] : List (S50)), 2)))) else (none)) else (none)) else (some (x11, 0))
def Qa7.f (k : Nat) (l0 : List (S48)) (l1 : List (S46)) (l2 : List (S84)) (l3 : List (S98)) : Option ((List (S50)) × Int) := if (l0.length : Int) > 1024 then (some (([] : List (S50)), 8)) else (Qa7.l0 k ([] : List (S50)) l0 (l0.length : Int) 0 l1 l2 l3)
theorem Qa7.mono_l : ∀ k, (∀ y0 y1 y2 y3 y4 y5 y6, LeO (Qa7.l0 k y0 y1 y2 y3 y4 y5 y6) (Qa7.l0 (k + 1) y0 y1 y2 y3 y4 y5 y6))
 | 0 => fun _ _ _ _ _ _ _ r h => by simp [Qa7.l0] at h
 | k + 1 => by
  have ih0 := Qa7.mono_l k
  ·intro y0 y1 y2 y3 y4 y5 y6
   unfold Qa7.l0
   repeat' first
   | (with_reducible exact ih0 _ _ _ _ _ _ _)
   | (with_reducible exact QbB.mono _ _ _ _ _ _ _)
   | (with_reducible exact LeO.refl _)
   | (with_reducible exact LeO.none _)
   | (with_reducible refine LeO.ite ?_ ?_)
   | (with_reducible refine LeO.bind ?_ (fun _ => ?_))
   | exact ih0 _ _ _ _ _ _ _
   | exact QbB.mono _ _ _ _ _ _ _
   | exact LeO.none _
   | refine LeO.ite ?_ ?_
   | refine LeO.bind ?_ (fun _ => ?_)
theorem Qa7.mono : ∀ a0 a1 a2 a3 k, LeO (Qa7.f k a0 a1 a2 a3) (Qa7.f (k + 1) a0 a1 a2 a3) := by
 intro a0 a1 a2 a3 k
 have ih0 := Qa7.mono_l k
 unfold Qa7.f
 repeat' first
   | (with_reducible exact ih0 _ _ _ _ _ _ _)
   | (with_reducible exact QbB.mono _ _ _ _ _ _ _)
   | (with_reducible exact LeO.refl _)
   | (with_reducible exact LeO.none _)
   | (with_reducible refine LeO.ite ?_ ?_)
   | (with_reducible refine LeO.bind ?_ (fun _ => ?_))
   | exact ih0 _ _ _ _ _ _ _
   | exact QbB.mono _ _ _ _ _ _ _
   | exact LeO.none _
   | refine LeO.ite ?_ ?_
   | refine LeO.bind ?_ (fun _ => ?_)
set_option maxHeartbeats 8000000 in
set_option maxRecDepth 100000 in
theorem Qa7.calls (k : Nat) (A0 : Option Addr) (c0 : Nat) (l0 : List (S48)) (A1 : Option Addr) (c1 : Nat) (l1 : List (S46)) (A2 : Option Addr) (c2 : Nat) (l2 : List (S84)) (A3 : Option Addr) (c3 : Nat) (l3 : List (S98)) (r1 : List (S50)) (r2 : Int) (w : World) (hr0 : Kd.C k48 w A0 l0.length l0) (hc0 : l0.length ≤ c0) (hr1 : Kd.C k46 w A1 l1.length l1) (hc1 : l1.length ≤ c1) (hr2 : Kd.C k84 w A2 l2.length l2) (hc2 : l2.length ≤ c2) (hr3 : Kd.C k98 w A3 l3.length l3) (hc3 : l3.length ≤ c3) (h : Qa7.f k l0 l1 l2 l3 = some (r1, r2)) :
  Calls Try.prog 18 #[.slice A0 l0.length c0, .slice A1 l1.length c1, .slice A2 l2.length c2, .slice A3 l3.length c3] w fun e w' => ∃ v0_ : Value, e = .returned (.tuple #[v0_, .int .i64 r2]) ∧ Kd.R k50 50 w' w.heap.size (fun _ => True) v0_ r1 ∧ Below w.heap.size w w' := by
 have hu48 := Try.underlying48
 have hu44 := Try.underlying44
 have hu50 := Try.underlying50
 have HR0 := Aside0.mk hr0
 have HC0 := Aside0.mk hc0
 clear hr0 hc0
 have HR1 := Aside0.mk hr1
 have HC1 := Aside0.mk hc1
 clear hr1 hc1
 have HR2 := Aside0.mk hr2
 have HC2 := Aside0.mk hc2
 clear hr2 hc2
 have HR3 := Aside0.mk hr3
 have HC3 := Aside0.mk hc3
 clear hr3 hc3
 have HB := Aside0.mk (Below.refl w.heap.size w)
 have H : (if (l0.length : Int) > 1024 then (some (([] : List (S50)), 8)) else (Qa7.l0 k ([] : List (S50)) l0 (l0.length : Int) 0 l1 l2 l3)) = some (r1, r2) := h
 clear h
 go_enter Try.func18, Try.ntmps18
 go_upto_if 19 with (first | ((with_reducible refine QaW (N := 5) rfl ?_); (refine gate_n (n := 65) rfl ?_); refine Qa2 ?hg (N := 5) ?hd (cs := #[.slice A1 l1.length c1]) (t := 30) ?hr ?_; (case hd => rfl); (case hg => rfl); (case hr => first | (go_simp; done) | (go_simp; rfl)); intro gb278 hg w5 hbox hb; have n0_ := Aside0.mk (Qao (Zb) hb); have n1_ := Aside0.mk (hbox); have n2_ := Aside0.mk ((by rw [hg]; exact (Qam (Zb)) : w.heap.size ≤ gb278)); have n3_ := Aside0.mk ((by rw [hg]; exact (Qam (Zb)) : w.heap.size ≤ gb278)); clear HB; have HB := n0_; have BK278 := n1_; have GW278 := n2_; have GE278 := n3_; clear n0_ n1_ n2_ n3_; clear hb hbox hg) | ((with_reducible refine QaW (N := 6) rfl ?_); (refine gate_n (n := 65) rfl ?_); refine Qa2 ?hg (N := 6) ?hd (cs := #[.slice A2 l2.length c2]) (t := 31) ?hr ?_; (case hd => rfl); (case hg => rfl); (case hr => first | (go_simp; done) | (go_simp; rfl)); intro gb279 hg w6 hbox hb; have n0_ := Aside0.mk (Qan (g := gb278) (o := .cells #[.slice A1 l1.length c1] 30 (0, 0)) (Zu BK278.out) hb); have n1_ := Aside0.mk (Qao (Zc1 GE278.out) hb); have n2_ := Aside0.mk (hbox); have n3_ := Aside0.mk ((by rw [hg]; exact (Qam (Zc1 GE278.out)) : w.heap.size ≤ gb279)); have n4_ := Aside0.mk ((by rw [hg]; exact (Qam (Zc1 GE278.out)) : w.heap.size ≤ gb279)); have n5_ := Aside0.mk ((by rw [hg]; exact Nat.ne_of_lt (blk_lt (g := gb278) (o := .cells #[.slice A1 l1.length c1] 30 (0, 0)) (Zu BK278.out)) : gb278 ≠ gb279)); have n6_ := Aside0.mk ((by rw [hg]; exact Nat.ne_of_gt (blk_lt (g := gb278) (o := .cells #[.slice A1 l1.length c1] 30 (0, 0)) (Zu BK278.out)) : gb279 ≠ gb278)); clear BK278; clear HB; have BK278 := n0_; have HB := n1_; have BK279 := n2_; have GW279 := n3_; have GE279 := n4_; have NB278_279 := n5_; have NB279_278 := n6_; clear n0_ n1_ n2_ n3_ n4_ n5_ n6_; clear hb hbox hg) | ((with_reducible refine QaW (N := 7) rfl ?_); (refine gate_n (n := 65) rfl ?_); refine Qa2 ?hg (N := 7) ?hd (cs := #[.slice A3 l3.length c3]) (t := 32) ?hr ?_; (case hd => rfl); (case hg => rfl); (case hr => first | (go_simp; done) | (go_simp; rfl)); intro gb280 hg w7 hbox hb; have n0_ := Aside0.mk (Qan (g := gb278) (o := .cells #[.slice A1 l1.length c1] 30 (0, 0)) (Zu BK278.out) hb); have n1_ := Aside0.mk (Qan (g := gb279) (o := .cells #[.slice A2 l2.length c2] 31 (0, 0)) (Zu BK279.out) hb); have n2_ := Aside0.mk (Qao (Zc2 GE278.out GE279.out) hb); have n3_ := Aside0.mk (hbox); have n4_ := Aside0.mk ((by rw [hg]; exact (Qam (Zc2 GE278.out GE279.out)) : w.heap.size ≤ gb280)); have n5_ := Aside0.mk ((by rw [hg]; exact (Qam (Zc2 GE278.out GE279.out)) : w.heap.size ≤ gb280)); have n6_ := Aside0.mk ((by rw [hg]; exact Nat.ne_of_lt (blk_lt (g := gb278) (o := .cells #[.slice A1 l1.length c1] 30 (0, 0)) (Zu BK278.out)) : gb278 ≠ gb280)); have n7_ := Aside0.mk ((by rw [hg]; exact Nat.ne_of_gt (blk_lt (g := gb278) (o := .cells #[.slice A1 l1.length c1] 30 (0, 0)) (Zu BK278.out)) : gb280 ≠ gb278)); have n8_ := Aside0.mk ((by rw [hg]; exact Nat.ne_of_lt (blk_lt (g := gb279) (o := .cells #[.slice A2 l2.length c2] 31 (0, 0)) (Zu BK279.out)) : gb279 ≠ gb280)); have n9_ := Aside0.mk ((by rw [hg]; exact Nat.ne_of_gt (blk_lt (g := gb279) (o := .cells #[.slice A2 l2.length c2] 31 (0, 0)) (Zu BK279.out)) : gb280 ≠ gb279)); clear BK278; clear BK279; clear HB; have BK278 := n0_; have BK279 := n1_; have HB := n2_; have BK280 := n3_; have GW280 := n4_; have GE280 := n5_; have NB278_280 := n6_; have NB280_278 := n7_; have NB279_280 := n8_; have NB280_279 := n9_; clear n0_ n1_ n2_ n3_ n4_ n5_ n6_ n7_ n8_ n9_; clear hb hbox hg))
 (try simp only [Act.put, List.setIfInBounds_toArray, List.set_cons_zero, List.set_cons_succ])
 by_cases c8 : (l0.length : Int) > 1024
 ·rw [if_pos c8] at H
  have c8b0 : decide (1024 < (l0.length : Int)) = true := decide_eq_true c8
  have c8b1 : decide (1024 < l0.length) = true := decide_eq_true (by omega)
  clear c8
  (try simp only [c8b0, c8b1])
  simp only [Option.some.injEq, Prod.mk.injEq] at H
  obtain ⟨rfl, rfl⟩ := H
  go_wp2
  go_ret2
  exact ⟨_, Zq, by first | exact Kd.R_nil _ _ _ _ _ | exact Kd.N_nil _ _ _ _ _ | exact Kd.V_nil _ _ _ _ _ | exact Kd.Q_nil _ _ _ _ _ | exact Kd.S_nil _ _ _ _ _, Zc3 GE278.out GE279.out GE280.out⟩
 ·rw [if_neg c8] at H
  have c8b0 : decide (1024 < (l0.length : Int)) = false := decide_eq_false c8
  have c8b1 : decide (1024 < l0.length) = false := decide_eq_false (by omega)
  clear c8
  (try simp only [c8b0, c8b1])
  have H' := Aside0.mk H
  clear H
  go_wp2
  go_loopg [11, 23] k (fun kq v11 v23 w' => ∃ (x11_1 : List (S50)) (x23_1 : Int), v23 = .int .i64 x23_1 ∧ Aside0 (Qa7.l0 kq x11_1 l0 (l0.length : Int) x23_1 l1 l2 l3 = some (r1, r2)) ∧ Aside0 (kq ≤ k) ∧ Aside0 (Kd.R k50 50 w' w.heap.size (fun _ => True) v11 x11_1) ∧ Aside0 (w'.heap[gb278]? = some (.cells #[(.slice A1 l1.length c1)] 30 (0, 0))) ∧ Aside0 (w'.heap[gb279]? = some (.cells #[(.slice A2 l2.length c2)] 31 (0, 0))) ∧ Aside0 (w'.heap[gb280]? = some (.cells #[(.slice A3 l3.length c3)] 32 (0, 0))) ∧ Aside0 (Below w.heap.size w w'))
  case atStart => exact ⟨(([] : List (S50))), (0), (Zs), H', ⟨Nat.le_refl _⟩, ⟨by first | exact Kd.R_nil _ _ _ _ _ | exact Kd.N_nil _ _ _ _ _ | exact Kd.V_nil _ _ _ _ _ | exact Kd.Q_nil _ _ _ _ _ | exact Kd.S_nil _ _ _ _ _⟩, ⟨Zu BK278.out⟩, ⟨Zu BK279.out⟩, ⟨Zu BK280.out⟩, ⟨Zc3 GE278.out GE279.out GE280.out⟩⟩
  case round =>
   clear H'
   try clear c1
   try clear c2
   try clear p2
   try clear c3
   try clear c8
   try clear c8b0
   try clear c8b1
   obtain ⟨x11_1, x23_1, rfl, HA, HK1, HO_11, BK278, BK279, BK280, HB⟩ := hrel
   cases gk with
   | zero => exact absurd HA.out (by simp [Qa7.l0])
   | succ k1 =>
    have H := HA.out
    clear HA
    simp only [Qa7.l0] at H
    by_cases c9 : x23_1 < (l0.length : Int)
    ·rw [if_pos c9] at H
     have c9b0 : decide (x23_1 < (l0.length : Int)) = true := decide_eq_true c9
     clear c9
     (try simp only [c9b0])
     by_cases c10 : 0 ≤ x23_1
     ·rw [if_pos c10] at H
      have c10b0 : decide (0 ≤ x23_1) = true := decide_eq_true c10
      clear c10
      by_cases c11 : x23_1 < (l0.length : Int)
      ·rw [if_pos c11] at H
       have c11b0 : decide (x23_1 < (l0.length : Int)) = true := decide_eq_true c11
       clear c11
       replace H := Option.bind_eq_some_iff.mp H
       obtain ⟨t283, A120, H⟩ := H
       replace H : (if t283 = true then ((QbB.f k1 l1 ((rd_T48 l0 x23_1).f0.f0) ((rd_T48 l0 x23_1).f0.f1) ((rd_T48 l0 x23_1).f7) l2 l3).bind fun bt285 => (if bt285.2 = 0 then ((QbO.f ((rd_T48 l0 x23_1).f7) bt285.1).bind fun bt287 => (if bt287.2 = 0 then (if x11_1.length < 2513169434916 then (Qa7.l0 k1 (x11_1 ++ [(⟨(⟨(rd_T48 l0 x23_1).f0.f0, (rd_T48 l0 x23_1).f0.f1⟩ : S44), (rd_T48 l0 x23_1).f7, bt285.1, bt287.1⟩ : S50)]) l0 (l0.length : Int) (wrap64 (x23_1 + 1)) l1 l2 l3) else (none)) else (some (([] : List (S50)), bt287.2)))) else (some (([] : List (S50)), bt285.2)))) else (some (([] : List (S50)), 2))) = some (r1, r2) := H
       have A12 := Aside0.mk A120
       clear A120
       have p281 : 0 ≤ (x23_1 : Int) := Ze
       have q281 : x23_1 < (l0.length : Int) := Ze
       obtain ⟨ad281, e281, hx281_0, hx281_1, hx281_2, hx281_3, hx281_4, hx281_5, hx281_6, hx281_7, hx281_8⟩ := at_T48 HR0.out x23_1 p281 q281
       cases e281
       replace hx281_0 := (HB.out.cell (World.block_lt_of_cell? w _ hx281_0)).trans hx281_0
       replace hx281_1 := (HB.out.cell (World.block_lt_of_cell? w _ hx281_1)).trans hx281_1
       replace hx281_2 := (HB.out.cell (World.block_lt_of_cell? w _ hx281_2)).trans hx281_2
       replace hx281_3 := (HB.out.cell (World.block_lt_of_cell? w _ hx281_3)).trans hx281_3
       replace hx281_4 := (HB.out.cell (World.block_lt_of_cell? w _ hx281_4)).trans hx281_4
       replace hx281_5 := (HB.out.cell (World.block_lt_of_cell? w _ hx281_5)).trans hx281_5
       replace hx281_6 := (HB.out.cell (World.block_lt_of_cell? w _ hx281_6)).trans hx281_6
       replace hx281_7 := (HB.out.cell (World.block_lt_of_cell? w _ hx281_7)).trans hx281_7
       replace hx281_8 := (HB.out.cell (World.block_lt_of_cell? w _ hx281_8)).trans hx281_8
       replace p281 := eq_true p281
       replace q281 := eq_true q281
       go_upto_if 30 with (first | ((with_reducible refine QaW (N := 13) rfl ?_); (refine gate_n (n := 65) rfl ?_); refine Qa2 ?hg (N := 13) ?hd (cs := #[.string (⟨#[]⟩ : ByteArray), .string (⟨#[]⟩ : ByteArray), .int .i64 0, .int .i64 0, .int .i64 0, .int .i64 0, .int .i64 0, .int .i64 0, .int .i64 0]) (t := 48) ?hr ?_; (case hd => rfl); (case hg => rfl); (case hr => first | (go_simp; done) | (go_simp; rfl)); intro gb282 hg w13 hbox hb; have n0_ := Aside0.mk (Kd.R_below (Zr HO_11.out) hb); have n1_ := Aside0.mk (Qan (g := gb278) (o := .cells #[.slice A1 l1.length c1] 30 (0, 0)) (Zu BK278.out) hb); have n2_ := Aside0.mk (Qan (g := gb279) (o := .cells #[.slice A2 l2.length c2] 31 (0, 0)) (Zu BK279.out) hb); have n3_ := Aside0.mk (Qan (g := gb280) (o := .cells #[.slice A3 l3.length c3] 32 (0, 0)) (Zu BK280.out) hb); have n4_ := Aside0.mk (Qao (Zc3 GE278.out GE279.out GE280.out) hb); have n5_ := Aside0.mk (hbox); have n6_ := Aside0.mk ((by rw [hg]; exact (Qam (Zc3 GE278.out GE279.out GE280.out)) : w.heap.size ≤ gb282)); have n7_ := Aside0.mk ((by rw [hg]; exact (Qam (Zc3 GE278.out GE279.out GE280.out)) : w.heap.size ≤ gb282)); have n8_ := Aside0.mk ((by rw [hg]; exact Nat.ne_of_lt (blk_lt (g := gb278) (o := .cells #[.slice A1 l1.length c1] 30 (0, 0)) (Zu BK278.out)) : gb278 ≠ gb282)); have n9_ := Aside0.mk ((by rw [hg]; exact Nat.ne_of_gt (blk_lt (g := gb278) (o := .cells #[.slice A1 l1.length c1] 30 (0, 0)) (Zu BK278.out)) : gb282 ≠ gb278)); have n10_ := Aside0.mk ((by rw [hg]; exact Nat.ne_of_lt (blk_lt (g := gb279) (o := .cells #[.slice A2 l2.length c2] 31 (0, 0)) (Zu BK279.out)) : gb279 ≠ gb282)); have n11_ := Aside0.mk ((by rw [hg]; exact Nat.ne_of_gt (blk_lt (g := gb279) (o := .cells #[.slice A2 l2.length c2] 31 (0, 0)) (Zu BK279.out)) : gb282 ≠ gb279)); have n12_ := Aside0.mk ((by rw [hg]; exact Nat.ne_of_lt (blk_lt (g := gb280) (o := .cells #[.slice A3 l3.length c3] 32 (0, 0)) (Zu BK280.out)) : gb280 ≠ gb282)); have n13_ := Aside0.mk ((by rw [hg]; exact Nat.ne_of_gt (blk_lt (g := gb280) (o := .cells #[.slice A3 l3.length c3] 32 (0, 0)) (Zu BK280.out)) : gb282 ≠ gb280)); clear HO_11; clear BK278; clear BK279; clear BK280; clear HB; have HO_11 := n0_; have BK278 := n1_; have BK279 := n2_; have BK280 := n3_; have HB := n4_; have BK282 := n5_; have GW282 := n6_; have GE282 := n7_; have NB278_282 := n8_; have NB282_278 := n9_; have NB279_282 := n10_; have NB282_279 := n11_; have NB280_282 := n12_; have NB282_280 := n13_; clear n0_ n1_ n2_ n3_ n4_ n5_ n6_ n7_ n8_ n9_ n10_ n11_ n12_ n13_; clear hb hbox hg; have hnb14 := NB282_278.out; have hnc14 := NB278_282.out; have hnb15 := NB282_279.out; have hnc15 := NB279_282.out; have hnb16 := NB282_280.out; have hnc16 := NB280_282.out; have hcz17_0 : w13.cell? ⟨gb282, 0, none⟩ = some (.string (⟨#[]⟩ : ByteArray)) := (Qai BK282.out 0).trans rfl; have hcz17_1 : w13.cell? ⟨gb282, 1, none⟩ = some (.string (⟨#[]⟩ : ByteArray)) := (Qai BK282.out 1).trans rfl; have hcz17_2 : w13.cell? ⟨gb282, 2, none⟩ = some (.int .i64 0) := (Qai BK282.out 2).trans rfl; have hcz17_3 : w13.cell? ⟨gb282, 3, none⟩ = some (.int .i64 0) := (Qai BK282.out 3).trans rfl; have hcz17_4 : w13.cell? ⟨gb282, 4, none⟩ = some (.int .i64 0) := (Qai BK282.out 4).trans rfl; have hcz17_5 : w13.cell? ⟨gb282, 5, none⟩ = some (.int .i64 0) := (Qai BK282.out 5).trans rfl; have hcz17_6 : w13.cell? ⟨gb282, 6, none⟩ = some (.int .i64 0) := (Qai BK282.out 6).trans rfl; have hcz17_7 : w13.cell? ⟨gb282, 7, none⟩ = some (.int .i64 0) := (Qai BK282.out 7).trans rfl; have hcz17_8 : w13.cell? ⟨gb282, 8, none⟩ = some (.int .i64 0) := (Qai BK282.out 8).trans rfl; have hfz17_0 := Qah BK282.out 0; have hfz17_1 := Qah BK282.out 1; have hfz17_2 := Qah BK282.out 2; have hfz17_3 := Qah BK282.out 3; have hfz17_4 := Qah BK282.out 4; have hfz17_5 := Qah BK282.out 5; have hfz17_6 := Qah BK282.out 6; have hfz17_7 := Qah BK282.out 7; have hfz17_8 := Qah BK282.out 8) | ((with_reducible refine Qaw (f := 51) rfl ?_); refine goesL_ (some 29) rfl rfl Try.func51 (by kernel_rfl) rfl #[.int .i64 ((rd_T48 l0 x23_1).f7)] rfl (Zl) ?_; (with_reducible refine (QbD.calls ((rd_T48 l0 x23_1).f7) t283 _ A12.out).mono ?_); rintro e w' ⟨rfl, ⟨nd, rfl⟩⟩; refine ⟨_, rfl, ?_⟩))
       (try simp only [Act.put, List.setIfInBounds_toArray, List.set_cons_zero, List.set_cons_succ])
       by_cases c18 : t283 = true
       ·subst c18
        have H1 : ((QbB.f k1 l1 ((rd_T48 l0 x23_1).f0.f0) ((rd_T48 l0 x23_1).f0.f1) ((rd_T48 l0 x23_1).f7) l2 l3).bind fun bt285 => (if bt285.2 = 0 then ((QbO.f ((rd_T48 l0 x23_1).f7) bt285.1).bind fun bt287 => (if bt287.2 = 0 then (if x11_1.length < 2513169434916 then (Qa7.l0 k1 (x11_1 ++ [(⟨(⟨(rd_T48 l0 x23_1).f0.f0, (rd_T48 l0 x23_1).f0.f1⟩ : S44), (rd_T48 l0 x23_1).f7, bt285.1, bt287.1⟩ : S50)]) l0 (l0.length : Int) (wrap64 (x23_1 + 1)) l1 l2 l3) else (none)) else (some (([] : List (S50)), bt287.2)))) else (some (([] : List (S50)), bt285.2)))) = some (r1, r2) := by rw [if_pos rfl] at H; exact H
        clear H
        have H := H1
        clear H1
        replace H := Option.bind_eq_some_iff.mp H
        obtain ⟨⟨t285, t286⟩, A190, H⟩ := H
        replace H : (if t286 = 0 then ((QbO.f ((rd_T48 l0 x23_1).f7) t285).bind fun bt287 => (if bt287.2 = 0 then (if x11_1.length < 2513169434916 then (Qa7.l0 k1 (x11_1 ++ [(⟨(⟨(rd_T48 l0 x23_1).f0.f0, (rd_T48 l0 x23_1).f0.f1⟩ : S44), (rd_T48 l0 x23_1).f7, t285, bt287.1⟩ : S50)]) l0 (l0.length : Int) (wrap64 (x23_1 + 1)) l1 l2 l3) else (none)) else (some (([] : List (S50)), bt287.2)))) else (some (([] : List (S50)), t286))) = some (r1, r2) := H
        have A19 := Aside0.mk A190
        clear A190
        have hnb20 := NB282_278.out
        have hnc20 := NB278_282.out
        have hnb21 := NB282_279.out
        have hnc21 := NB279_282.out
        have hnb22 := NB282_280.out
        have hnc22 := NB280_282.out
        have hcz23_0 : w13.cell? ⟨gb282, 0, none⟩ = some (.string (⟨#[]⟩ : ByteArray)) := (Qai BK282.out 0).trans rfl
        have hcz23_1 : w13.cell? ⟨gb282, 1, none⟩ = some (.string (⟨#[]⟩ : ByteArray)) := (Qai BK282.out 1).trans rfl
        have hcz23_2 : w13.cell? ⟨gb282, 2, none⟩ = some (.int .i64 0) := (Qai BK282.out 2).trans rfl
        have hcz23_3 : w13.cell? ⟨gb282, 3, none⟩ = some (.int .i64 0) := (Qai BK282.out 3).trans rfl
        have hcz23_4 : w13.cell? ⟨gb282, 4, none⟩ = some (.int .i64 0) := (Qai BK282.out 4).trans rfl
        have hcz23_5 : w13.cell? ⟨gb282, 5, none⟩ = some (.int .i64 0) := (Qai BK282.out 5).trans rfl
        have hcz23_6 : w13.cell? ⟨gb282, 6, none⟩ = some (.int .i64 0) := (Qai BK282.out 6).trans rfl
        have hcz23_7 : w13.cell? ⟨gb282, 7, none⟩ = some (.int .i64 0) := (Qai BK282.out 7).trans rfl
        have hcz23_8 : w13.cell? ⟨gb282, 8, none⟩ = some (.int .i64 0) := (Qai BK282.out 8).trans rfl
        have hfz23_0 := Qah BK282.out 0
        have hfz23_1 := Qah BK282.out 1
        have hfz23_2 := Qah BK282.out 2
        have hfz23_3 := Qah BK282.out 3
        have hfz23_4 := Qah BK282.out 4
        have hfz23_5 := Qah BK282.out 5
        have hfz23_6 := Qah BK282.out 6
        have hfz23_7 := Qah BK282.out 7
        have hfz23_8 := Qah BK282.out 8
        go_upto_region 11 with (first | (go_at_call 52; go_in) | ((with_reducible refine QaW (N := 5) rfl ?_); (refine gate_n (n := 17) rfl ?_); refine Qa2 ?hg (N := 5) ?hd (cs := #[.string ((rd_T48 l0 x23_1).f0.f0), .string ((rd_T48 l0 x23_1).f0.f1)]) (t := 44) ?hr ?_; (case hd => rfl); (case hg => rfl); (case hr => first | (go_simp; done) | (go_simp; rfl)); intro gb284 hg w24 hbox hb; have n0_ := Aside0.mk (Kd.R_below (by (with_reducible repeat (first | apply Kd.R_alloc | apply Kd.R_drewN | apply Kd.R_drew)); exact (Kd.R_mono (Kd.R_far (p := ⟨gb282, 8, none⟩) (Kd.R_far (p := ⟨gb282, 7, none⟩) (Kd.R_far (p := ⟨gb282, 6, none⟩) (Kd.R_far (p := ⟨gb282, 5, none⟩) (Kd.R_far (p := ⟨gb282, 4, none⟩) (Kd.R_far (p := ⟨gb282, 3, none⟩) (Kd.R_far (p := ⟨gb282, 2, none⟩) (Kd.R_far (p := ⟨gb282, 1, none⟩) (Kd.R_far (p := ⟨gb282, 0, none⟩) (Kd.R_types HO_11.out BK282.out (by decide)) (fun _ hk => hk.2) (.string ((rd_T48 l0 x23_1).f0.f0))) (fun _ hk => hk.2) (.string ((rd_T48 l0 x23_1).f0.f1))) (fun _ hk => hk.2) (.int .i64 ((rd_T48 l0 x23_1).f1))) (fun _ hk => hk.2) (.int .i64 ((rd_T48 l0 x23_1).f2))) (fun _ hk => hk.2) (.int .i64 ((rd_T48 l0 x23_1).f3))) (fun _ hk => hk.2) (.int .i64 ((rd_T48 l0 x23_1).f4))) (fun _ hk => hk.2) (.int .i64 ((rd_T48 l0 x23_1).f5))) (fun _ hk => hk.2) (.int .i64 ((rd_T48 l0 x23_1).f6))) (fun _ hk => hk.2) (.int .i64 ((rd_T48 l0 x23_1).f7))) (fun _ h_ => h_.1))) hb); have n1_ := Aside0.mk (Qan (g := gb278) (o := .cells #[.slice A1 l1.length c1] 30 (0, 0)) (by (with_reducible repeat (first | refine Qac ?_ _ | refine Qag ?_ | refine Qab ?_ _)); refine Qau ?_ NB278_282.out _; (with_reducible repeat (first | refine Qac ?_ _ | refine Qag ?_ | refine Qab ?_ _)); refine Qau ?_ NB278_282.out _; (with_reducible repeat (first | refine Qac ?_ _ | refine Qag ?_ | refine Qab ?_ _)); refine Qau ?_ NB278_282.out _; (with_reducible repeat (first | refine Qac ?_ _ | refine Qag ?_ | refine Qab ?_ _)); refine Qau ?_ NB278_282.out _; (with_reducible repeat (first | refine Qac ?_ _ | refine Qag ?_ | refine Qab ?_ _)); refine Qau ?_ NB278_282.out _; (with_reducible repeat (first | refine Qac ?_ _ | refine Qag ?_ | refine Qab ?_ _)); refine Qau ?_ NB278_282.out _; (with_reducible repeat (first | refine Qac ?_ _ | refine Qag ?_ | refine Qab ?_ _)); refine Qau ?_ NB278_282.out _; (with_reducible repeat (first | refine Qac ?_ _ | refine Qag ?_ | refine Qab ?_ _)); refine Qau ?_ NB278_282.out _; (with_reducible repeat (first | refine Qac ?_ _ | refine Qag ?_ | refine Qab ?_ _)); refine Qau ?_ NB278_282.out _; (with_reducible repeat (first | refine Qac ?_ _ | refine Qag ?_ | refine Qab ?_ _)); exact BK278.out) hb); have n2_ := Aside0.mk (Qan (g := gb279) (o := .cells #[.slice A2 l2.length c2] 31 (0, 0)) (by (with_reducible repeat (first | refine Qac ?_ _ | refine Qag ?_ | refine Qab ?_ _)); refine Qau ?_ NB279_282.out _; (with_reducible repeat (first | refine Qac ?_ _ | refine Qag ?_ | refine Qab ?_ _)); refine Qau ?_ NB279_282.out _; (with_reducible repeat (first | refine Qac ?_ _ | refine Qag ?_ | refine Qab ?_ _)); refine Qau ?_ NB279_282.out _; (with_reducible repeat (first | refine Qac ?_ _ | refine Qag ?_ | refine Qab ?_ _)); refine Qau ?_ NB279_282.out _; (with_reducible repeat (first | refine Qac ?_ _ | refine Qag ?_ | refine Qab ?_ _)); refine Qau ?_ NB279_282.out _; (with_reducible repeat (first | refine Qac ?_ _ | refine Qag ?_ | refine Qab ?_ _)); refine Qau ?_ NB279_282.out _; (with_reducible repeat (first | refine Qac ?_ _ | refine Qag ?_ | refine Qab ?_ _)); refine Qau ?_ NB279_282.out _; (with_reducible repeat (first | refine Qac ?_ _ | refine Qag ?_ | refine Qab ?_ _)); refine Qau ?_ NB279_282.out _; (with_reducible repeat (first | refine Qac ?_ _ | refine Qag ?_ | refine Qab ?_ _)); refine Qau ?_ NB279_282.out _; (with_reducible repeat (first | refine Qac ?_ _ | refine Qag ?_ | refine Qab ?_ _)); exact BK279.out) hb); have n3_ := Aside0.mk (Qan (g := gb280) (o := .cells #[.slice A3 l3.length c3] 32 (0, 0)) (by (with_reducible repeat (first | refine Qac ?_ _ | refine Qag ?_ | refine Qab ?_ _)); refine Qau ?_ NB280_282.out _; (with_reducible repeat (first | refine Qac ?_ _ | refine Qag ?_ | refine Qab ?_ _)); refine Qau ?_ NB280_282.out _; (with_reducible repeat (first | refine Qac ?_ _ | refine Qag ?_ | refine Qab ?_ _)); refine Qau ?_ NB280_282.out _; (with_reducible repeat (first | refine Qac ?_ _ | refine Qag ?_ | refine Qab ?_ _)); refine Qau ?_ NB280_282.out _; (with_reducible repeat (first | refine Qac ?_ _ | refine Qag ?_ | refine Qab ?_ _)); refine Qau ?_ NB280_282.out _; (with_reducible repeat (first | refine Qac ?_ _ | refine Qag ?_ | refine Qab ?_ _)); refine Qau ?_ NB280_282.out _; (with_reducible repeat (first | refine Qac ?_ _ | refine Qag ?_ | refine Qab ?_ _)); refine Qau ?_ NB280_282.out _; (with_reducible repeat (first | refine Qac ?_ _ | refine Qag ?_ | refine Qab ?_ _)); refine Qau ?_ NB280_282.out _; (with_reducible repeat (first | refine Qac ?_ _ | refine Qag ?_ | refine Qab ?_ _)); refine Qau ?_ NB280_282.out _; (with_reducible repeat (first | refine Qac ?_ _ | refine Qag ?_ | refine Qab ?_ _)); exact BK280.out) hb); have n4_ := Aside0.mk (Qan (g := gb282) (o := .cells #[.string ((rd_T48 l0 x23_1).f0.f0), .string ((rd_T48 l0 x23_1).f0.f1), .int .i64 ((rd_T48 l0 x23_1).f1), .int .i64 ((rd_T48 l0 x23_1).f2), .int .i64 ((rd_T48 l0 x23_1).f3), .int .i64 ((rd_T48 l0 x23_1).f4), .int .i64 ((rd_T48 l0 x23_1).f5), .int .i64 ((rd_T48 l0 x23_1).f6), .int .i64 ((rd_T48 l0 x23_1).f7)] 48 (0, 0)) (by (with_reducible repeat (first | refine Qac ?_ _ | refine Qag ?_ | refine Qab ?_ _)); refine Qax (cs := #[.string ((rd_T48 l0 x23_1).f0.f0), .string ((rd_T48 l0 x23_1).f0.f1), .int .i64 ((rd_T48 l0 x23_1).f1), .int .i64 ((rd_T48 l0 x23_1).f2), .int .i64 ((rd_T48 l0 x23_1).f3), .int .i64 ((rd_T48 l0 x23_1).f4), .int .i64 ((rd_T48 l0 x23_1).f5), .int .i64 ((rd_T48 l0 x23_1).f6), .int .i64 0]) ?_ 8 _ rfl; (with_reducible repeat (first | refine Qac ?_ _ | refine Qag ?_ | refine Qab ?_ _)); refine Qax (cs := #[.string ((rd_T48 l0 x23_1).f0.f0), .string ((rd_T48 l0 x23_1).f0.f1), .int .i64 ((rd_T48 l0 x23_1).f1), .int .i64 ((rd_T48 l0 x23_1).f2), .int .i64 ((rd_T48 l0 x23_1).f3), .int .i64 ((rd_T48 l0 x23_1).f4), .int .i64 ((rd_T48 l0 x23_1).f5), .int .i64 0, .int .i64 0]) ?_ 7 _ rfl; (with_reducible repeat (first | refine Qac ?_ _ | refine Qag ?_ | refine Qab ?_ _)); refine Qax (cs := #[.string ((rd_T48 l0 x23_1).f0.f0), .string ((rd_T48 l0 x23_1).f0.f1), .int .i64 ((rd_T48 l0 x23_1).f1), .int .i64 ((rd_T48 l0 x23_1).f2), .int .i64 ((rd_T48 l0 x23_1).f3), .int .i64 ((rd_T48 l0 x23_1).f4), .int .i64 0, .int .i64 0, .int .i64 0]) ?_ 6 _ rfl; (with_reducible repeat (first | refine Qac ?_ _ | refine Qag ?_ | refine Qab ?_ _)); refine Qax (cs := #[.string ((rd_T48 l0 x23_1).f0.f0), .string ((rd_T48 l0 x23_1).f0.f1), .int .i64 ((rd_T48 l0 x23_1).f1), .int .i64 ((rd_T48 l0 x23_1).f2), .int .i64 ((rd_T48 l0 x23_1).f3), .int .i64 0, .int .i64 0, .int .i64 0, .int .i64 0]) ?_ 5 _ rfl; (with_reducible repeat (first | refine Qac ?_ _ | refine Qag ?_ | refine Qab ?_ _)); refine Qax (cs := #[.string ((rd_T48 l0 x23_1).f0.f0), .string ((rd_T48 l0 x23_1).f0.f1), .int .i64 ((rd_T48 l0 x23_1).f1), .int .i64 ((rd_T48 l0 x23_1).f2), .int .i64 0, .int .i64 0, .int .i64 0, .int .i64 0, .int .i64 0]) ?_ 4 _ rfl; (with_reducible repeat (first | refine Qac ?_ _ | refine Qag ?_ | refine Qab ?_ _)); refine Qax (cs := #[.string ((rd_T48 l0 x23_1).f0.f0), .string ((rd_T48 l0 x23_1).f0.f1), .int .i64 ((rd_T48 l0 x23_1).f1), .int .i64 0, .int .i64 0, .int .i64 0, .int .i64 0, .int .i64 0, .int .i64 0]) ?_ 3 _ rfl; (with_reducible repeat (first | refine Qac ?_ _ | refine Qag ?_ | refine Qab ?_ _)); refine Qax (cs := #[.string ((rd_T48 l0 x23_1).f0.f0), .string ((rd_T48 l0 x23_1).f0.f1), .int .i64 0, .int .i64 0, .int .i64 0, .int .i64 0, .int .i64 0, .int .i64 0, .int .i64 0]) ?_ 2 _ rfl; (with_reducible repeat (first | refine Qac ?_ _ | refine Qag ?_ | refine Qab ?_ _)); refine Qax (cs := #[.string ((rd_T48 l0 x23_1).f0.f0), .string (⟨#[]⟩ : ByteArray), .int .i64 0, .int .i64 0, .int .i64 0, .int .i64 0, .int .i64 0, .int .i64 0, .int .i64 0]) ?_ 1 _ rfl; (with_reducible repeat (first | refine Qac ?_ _ | refine Qag ?_ | refine Qab ?_ _)); refine Qax (cs := #[.string (⟨#[]⟩ : ByteArray), .string (⟨#[]⟩ : ByteArray), .int .i64 0, .int .i64 0, .int .i64 0, .int .i64 0, .int .i64 0, .int .i64 0, .int .i64 0]) ?_ 0 _ rfl; (with_reducible repeat (first | refine Qac ?_ _ | refine Qag ?_ | refine Qab ?_ _)); exact BK282.out) hb); have n5_ := Aside0.mk (Qao (Zc4 GE278.out GE279.out GE280.out GE282.out) hb); have n6_ := Aside0.mk (hbox); have n7_ := Aside0.mk ((by rw [hg]; exact (Qam (Zc4 GE278.out GE279.out GE280.out GE282.out)) : w.heap.size ≤ gb284)); have n8_ := Aside0.mk ((by rw [hg]; exact (Qam (Zc4 GE278.out GE279.out GE280.out GE282.out)) : w.heap.size ≤ gb284)); have n9_ := Aside0.mk ((by rw [hg]; exact Nat.ne_of_lt (blk_lt (g := gb278) (o := .cells #[.slice A1 l1.length c1] 30 (0, 0)) (by (with_reducible repeat (first | refine Qac ?_ _ | refine Qag ?_ | refine Qab ?_ _)); refine Qau ?_ NB278_282.out _; (with_reducible repeat (first | refine Qac ?_ _ | refine Qag ?_ | refine Qab ?_ _)); refine Qau ?_ NB278_282.out _; (with_reducible repeat (first | refine Qac ?_ _ | refine Qag ?_ | refine Qab ?_ _)); refine Qau ?_ NB278_282.out _; (with_reducible repeat (first | refine Qac ?_ _ | refine Qag ?_ | refine Qab ?_ _)); refine Qau ?_ NB278_282.out _; (with_reducible repeat (first | refine Qac ?_ _ | refine Qag ?_ | refine Qab ?_ _)); refine Qau ?_ NB278_282.out _; (with_reducible repeat (first | refine Qac ?_ _ | refine Qag ?_ | refine Qab ?_ _)); refine Qau ?_ NB278_282.out _; (with_reducible repeat (first | refine Qac ?_ _ | refine Qag ?_ | refine Qab ?_ _)); refine Qau ?_ NB278_282.out _; (with_reducible repeat (first | refine Qac ?_ _ | refine Qag ?_ | refine Qab ?_ _)); refine Qau ?_ NB278_282.out _; (with_reducible repeat (first | refine Qac ?_ _ | refine Qag ?_ | refine Qab ?_ _)); refine Qau ?_ NB278_282.out _; (with_reducible repeat (first | refine Qac ?_ _ | refine Qag ?_ | refine Qab ?_ _)); exact BK278.out)) : gb278 ≠ gb284)); have n10_ := Aside0.mk ((by rw [hg]; exact Nat.ne_of_gt (blk_lt (g := gb278) (o := .cells #[.slice A1 l1.length c1] 30 (0, 0)) (by (with_reducible repeat (first | refine Qac ?_ _ | refine Qag ?_ | refine Qab ?_ _)); refine Qau ?_ NB278_282.out _; (with_reducible repeat (first | refine Qac ?_ _ | refine Qag ?_ | refine Qab ?_ _)); refine Qau ?_ NB278_282.out _; (with_reducible repeat (first | refine Qac ?_ _ | refine Qag ?_ | refine Qab ?_ _)); refine Qau ?_ NB278_282.out _; (with_reducible repeat (first | refine Qac ?_ _ | refine Qag ?_ | refine Qab ?_ _)); refine Qau ?_ NB278_282.out _; (with_reducible repeat (first | refine Qac ?_ _ | refine Qag ?_ | refine Qab ?_ _)); refine Qau ?_ NB278_282.out _; (with_reducible repeat (first | refine Qac ?_ _ | refine Qag ?_ | refine Qab ?_ _)); refine Qau ?_ NB278_282.out _; (with_reducible repeat (first | refine Qac ?_ _ | refine Qag ?_ | refine Qab ?_ _)); refine Qau ?_ NB278_282.out _; (with_reducible repeat (first | refine Qac ?_ _ | refine Qag ?_ | refine Qab ?_ _)); refine Qau ?_ NB278_282.out _; (with_reducible repeat (first | refine Qac ?_ _ | refine Qag ?_ | refine Qab ?_ _)); refine Qau ?_ NB278_282.out _; (with_reducible repeat (first | refine Qac ?_ _ | refine Qag ?_ | refine Qab ?_ _)); exact BK278.out)) : gb284 ≠ gb278)); have n11_ := Aside0.mk ((by rw [hg]; exact Nat.ne_of_lt (blk_lt (g := gb279) (o := .cells #[.slice A2 l2.length c2] 31 (0, 0)) (by (with_reducible repeat (first | refine Qac ?_ _ | refine Qag ?_ | refine Qab ?_ _)); refine Qau ?_ NB279_282.out _; (with_reducible repeat (first | refine Qac ?_ _ | refine Qag ?_ | refine Qab ?_ _)); refine Qau ?_ NB279_282.out _; (with_reducible repeat (first | refine Qac ?_ _ | refine Qag ?_ | refine Qab ?_ _)); refine Qau ?_ NB279_282.out _; (with_reducible repeat (first | refine Qac ?_ _ | refine Qag ?_ | refine Qab ?_ _)); refine Qau ?_ NB279_282.out _; (with_reducible repeat (first | refine Qac ?_ _ | refine Qag ?_ | refine Qab ?_ _)); refine Qau ?_ NB279_282.out _; (with_reducible repeat (first | refine Qac ?_ _ | refine Qag ?_ | refine Qab ?_ _)); refine Qau ?_ NB279_282.out _; (with_reducible repeat (first | refine Qac ?_ _ | refine Qag ?_ | refine Qab ?_ _)); refine Qau ?_ NB279_282.out _; (with_reducible repeat (first | refine Qac ?_ _ | refine Qag ?_ | refine Qab ?_ _)); refine Qau ?_ NB279_282.out _; (with_reducible repeat (first | refine Qac ?_ _ | refine Qag ?_ | refine Qab ?_ _)); refine Qau ?_ NB279_282.out _; (with_reducible repeat (first | refine Qac ?_ _ | refine Qag ?_ | refine Qab ?_ _)); exact BK279.out)) : gb279 ≠ gb284)); have n12_ := Aside0.mk ((by rw [hg]; exact Nat.ne_of_gt (blk_lt (g := gb279) (o := .cells #[.slice A2 l2.length c2] 31 (0, 0)) (by (with_reducible repeat (first | refine Qac ?_ _ | refine Qag ?_ | refine Qab ?_ _)); refine Qau ?_ NB279_282.out _; (with_reducible repeat (first | refine Qac ?_ _ | refine Qag ?_ | refine Qab ?_ _)); refine Qau ?_ NB279_282.out _; (with_reducible repeat (first | refine Qac ?_ _ | refine Qag ?_ | refine Qab ?_ _)); refine Qau ?_ NB279_282.out _; (with_reducible repeat (first | refine Qac ?_ _ | refine Qag ?_ | refine Qab ?_ _)); refine Qau ?_ NB279_282.out _; (with_reducible repeat (first | refine Qac ?_ _ | refine Qag ?_ | refine Qab ?_ _)); refine Qau ?_ NB279_282.out _; (with_reducible repeat (first | refine Qac ?_ _ | refine Qag ?_ | refine Qab ?_ _)); refine Qau ?_ NB279_282.out _; (with_reducible repeat (first | refine Qac ?_ _ | refine Qag ?_ | refine Qab ?_ _)); refine Qau ?_ NB279_282.out _; (with_reducible repeat (first | refine Qac ?_ _ | refine Qag ?_ | refine Qab ?_ _)); refine Qau ?_ NB279_282.out _; (with_reducible repeat (first | refine Qac ?_ _ | refine Qag ?_ | refine Qab ?_ _)); refine Qau ?_ NB279_282.out _; (with_reducible repeat (first | refine Qac ?_ _ | refine Qag ?_ | refine Qab ?_ _)); exact BK279.out)) : gb284 ≠ gb279)); have n13_ := Aside0.mk ((by rw [hg]; exact Nat.ne_of_lt (blk_lt (g := gb280) (o := .cells #[.slice A3 l3.length c3] 32 (0, 0)) (by (with_reducible repeat (first | refine Qac ?_ _ | refine Qag ?_ | refine Qab ?_ _)); refine Qau ?_ NB280_282.out _; (with_reducible repeat (first | refine Qac ?_ _ | refine Qag ?_ | refine Qab ?_ _)); refine Qau ?_ NB280_282.out _; (with_reducible repeat (first | refine Qac ?_ _ | refine Qag ?_ | refine Qab ?_ _)); refine Qau ?_ NB280_282.out _; (with_reducible repeat (first | refine Qac ?_ _ | refine Qag ?_ | refine Qab ?_ _)); refine Qau ?_ NB280_282.out _; (with_reducible repeat (first | refine Qac ?_ _ | refine Qag ?_ | refine Qab ?_ _)); refine Qau ?_ NB280_282.out _; (with_reducible repeat (first | refine Qac ?_ _ | refine Qag ?_ | refine Qab ?_ _)); refine Qau ?_ NB280_282.out _; (with_reducible repeat (first | refine Qac ?_ _ | refine Qag ?_ | refine Qab ?_ _)); refine Qau ?_ NB280_282.out _; (with_reducible repeat (first | refine Qac ?_ _ | refine Qag ?_ | refine Qab ?_ _)); refine Qau ?_ NB280_282.out _; (with_reducible repeat (first | refine Qac ?_ _ | refine Qag ?_ | refine Qab ?_ _)); refine Qau ?_ NB280_282.out _; (with_reducible repeat (first | refine Qac ?_ _ | refine Qag ?_ | refine Qab ?_ _)); exact BK280.out)) : gb280 ≠ gb284)); have n14_ := Aside0.mk ((by rw [hg]; exact Nat.ne_of_gt (blk_lt (g := gb280) (o := .cells #[.slice A3 l3.length c3] 32 (0, 0)) (by (with_reducible repeat (first | refine Qac ?_ _ | refine Qag ?_ | refine Qab ?_ _)); refine Qau ?_ NB280_282.out _; (with_reducible repeat (first | refine Qac ?_ _ | refine Qag ?_ | refine Qab ?_ _)); refine Qau ?_ NB280_282.out _; (with_reducible repeat (first | refine Qac ?_ _ | refine Qag ?_ | refine Qab ?_ _)); refine Qau ?_ NB280_282.out _; (with_reducible repeat (first | refine Qac ?_ _ | refine Qag ?_ | refine Qab ?_ _)); refine Qau ?_ NB280_282.out _; (with_reducible repeat (first | refine Qac ?_ _ | refine Qag ?_ | refine Qab ?_ _)); refine Qau ?_ NB280_282.out _; (with_reducible repeat (first | refine Qac ?_ _ | refine Qag ?_ | refine Qab ?_ _)); refine Qau ?_ NB280_282.out _; (with_reducible repeat (first | refine Qac ?_ _ | refine Qag ?_ | refine Qab ?_ _)); refine Qau ?_ NB280_282.out _; (with_reducible repeat (first | refine Qac ?_ _ | refine Qag ?_ | refine Qab ?_ _)); refine Qau ?_ NB280_282.out _; (with_reducible repeat (first | refine Qac ?_ _ | refine Qag ?_ | refine Qab ?_ _)); refine Qau ?_ NB280_282.out _; (with_reducible repeat (first | refine Qac ?_ _ | refine Qag ?_ | refine Qab ?_ _)); exact BK280.out)) : gb284 ≠ gb280)); have n15_ := Aside0.mk ((by rw [hg]; exact Nat.ne_of_lt (blk_lt (g := gb282) (o := .cells #[.string ((rd_T48 l0 x23_1).f0.f0), .string ((rd_T48 l0 x23_1).f0.f1), .int .i64 ((rd_T48 l0 x23_1).f1), .int .i64 ((rd_T48 l0 x23_1).f2), .int .i64 ((rd_T48 l0 x23_1).f3), .int .i64 ((rd_T48 l0 x23_1).f4), .int .i64 ((rd_T48 l0 x23_1).f5), .int .i64 ((rd_T48 l0 x23_1).f6), .int .i64 ((rd_T48 l0 x23_1).f7)] 48 (0, 0)) (by (with_reducible repeat (first | refine Qac ?_ _ | refine Qag ?_ | refine Qab ?_ _)); refine Qax (cs := #[.string ((rd_T48 l0 x23_1).f0.f0), .string ((rd_T48 l0 x23_1).f0.f1), .int .i64 ((rd_T48 l0 x23_1).f1), .int .i64 ((rd_T48 l0 x23_1).f2), .int .i64 ((rd_T48 l0 x23_1).f3), .int .i64 ((rd_T48 l0 x23_1).f4), .int .i64 ((rd_T48 l0 x23_1).f5), .int .i64 ((rd_T48 l0 x23_1).f6), .int .i64 0]) ?_ 8 _ rfl; (with_reducible repeat (first | refine Qac ?_ _ | refine Qag ?_ | refine Qab ?_ _)); refine Qax (cs := #[.string ((rd_T48 l0 x23_1).f0.f0), .string ((rd_T48 l0 x23_1).f0.f1), .int .i64 ((rd_T48 l0 x23_1).f1), .int .i64 ((rd_T48 l0 x23_1).f2), .int .i64 ((rd_T48 l0 x23_1).f3), .int .i64 ((rd_T48 l0 x23_1).f4), .int .i64 ((rd_T48 l0 x23_1).f5), .int .i64 0, .int .i64 0]) ?_ 7 _ rfl; (with_reducible repeat (first | refine Qac ?_ _ | refine Qag ?_ | refine Qab ?_ _)); refine Qax (cs := #[.string ((rd_T48 l0 x23_1).f0.f0), .string ((rd_T48 l0 x23_1).f0.f1), .int .i64 ((rd_T48 l0 x23_1).f1), .int .i64 ((rd_T48 l0 x23_1).f2), .int .i64 ((rd_T48 l0 x23_1).f3), .int .i64 ((rd_T48 l0 x23_1).f4), .int .i64 0, .int .i64 0, .int .i64 0]) ?_ 6 _ rfl; (with_reducible repeat (first | refine Qac ?_ _ | refine Qag ?_ | refine Qab ?_ _)); refine Qax (cs := #[.string ((rd_T48 l0 x23_1).f0.f0), .string ((rd_T48 l0 x23_1).f0.f1), .int .i64 ((rd_T48 l0 x23_1).f1), .int .i64 ((rd_T48 l0 x23_1).f2), .int .i64 ((rd_T48 l0 x23_1).f3), .int .i64 0, .int .i64 0, .int .i64 0, .int .i64 0]) ?_ 5 _ rfl; (with_reducible repeat (first | refine Qac ?_ _ | refine Qag ?_ | refine Qab ?_ _)); refine Qax (cs := #[.string ((rd_T48 l0 x23_1).f0.f0), .string ((rd_T48 l0 x23_1).f0.f1), .int .i64 ((rd_T48 l0 x23_1).f1), .int .i64 ((rd_T48 l0 x23_1).f2), .int .i64 0, .int .i64 0, .int .i64 0, .int .i64 0, .int .i64 0]) ?_ 4 _ rfl; (with_reducible repeat (first | refine Qac ?_ _ | refine Qag ?_ | refine Qab ?_ _)); refine Qax (cs := #[.string ((rd_T48 l0 x23_1).f0.f0), .string ((rd_T48 l0 x23_1).f0.f1), .int .i64 ((rd_T48 l0 x23_1).f1), .int .i64 0, .int .i64 0, .int .i64 0, .int .i64 0, .int .i64 0, .int .i64 0]) ?_ 3 _ rfl; (with_reducible repeat (first | refine Qac ?_ _ | refine Qag ?_ | refine Qab ?_ _)); refine Qax (cs := #[.string ((rd_T48 l0 x23_1).f0.f0), .string ((rd_T48 l0 x23_1).f0.f1), .int .i64 0, .int .i64 0, .int .i64 0, .int .i64 0, .int .i64 0, .int .i64 0, .int .i64 0]) ?_ 2 _ rfl; (with_reducible repeat (first | refine Qac ?_ _ | refine Qag ?_ | refine Qab ?_ _)); refine Qax (cs := #[.string ((rd_T48 l0 x23_1).f0.f0), .string (⟨#[]⟩ : ByteArray), .int .i64 0, .int .i64 0, .int .i64 0, .int .i64 0, .int .i64 0, .int .i64 0, .int .i64 0]) ?_ 1 _ rfl; (with_reducible repeat (first | refine Qac ?_ _ | refine Qag ?_ | refine Qab ?_ _)); refine Qax (cs := #[.string (⟨#[]⟩ : ByteArray), .string (⟨#[]⟩ : ByteArray), .int .i64 0, .int .i64 0, .int .i64 0, .int .i64 0, .int .i64 0, .int .i64 0, .int .i64 0]) ?_ 0 _ rfl; (with_reducible repeat (first | refine Qac ?_ _ | refine Qag ?_ | refine Qab ?_ _)); exact BK282.out)) : gb282 ≠ gb284)); have n16_ := Aside0.mk ((by rw [hg]; exact Nat.ne_of_gt (blk_lt (g := gb282) (o := .cells #[.string ((rd_T48 l0 x23_1).f0.f0), .string ((rd_T48 l0 x23_1).f0.f1), .int .i64 ((rd_T48 l0 x23_1).f1), .int .i64 ((rd_T48 l0 x23_1).f2), .int .i64 ((rd_T48 l0 x23_1).f3), .int .i64 ((rd_T48 l0 x23_1).f4), .int .i64 ((rd_T48 l0 x23_1).f5), .int .i64 ((rd_T48 l0 x23_1).f6), .int .i64 ((rd_T48 l0 x23_1).f7)] 48 (0, 0)) (by (with_reducible repeat (first | refine Qac ?_ _ | refine Qag ?_ | refine Qab ?_ _)); refine Qax (cs := #[.string ((rd_T48 l0 x23_1).f0.f0), .string ((rd_T48 l0 x23_1).f0.f1), .int .i64 ((rd_T48 l0 x23_1).f1), .int .i64 ((rd_T48 l0 x23_1).f2), .int .i64 ((rd_T48 l0 x23_1).f3), .int .i64 ((rd_T48 l0 x23_1).f4), .int .i64 ((rd_T48 l0 x23_1).f5), .int .i64 ((rd_T48 l0 x23_1).f6), .int .i64 0]) ?_ 8 _ rfl; (with_reducible repeat (first | refine Qac ?_ _ | refine Qag ?_ | refine Qab ?_ _)); refine Qax (cs := #[.string ((rd_T48 l0 x23_1).f0.f0), .string ((rd_T48 l0 x23_1).f0.f1), .int .i64 ((rd_T48 l0 x23_1).f1), .int .i64 ((rd_T48 l0 x23_1).f2), .int .i64 ((rd_T48 l0 x23_1).f3), .int .i64 ((rd_T48 l0 x23_1).f4), .int .i64 ((rd_T48 l0 x23_1).f5), .int .i64 0, .int .i64 0]) ?_ 7 _ rfl; (with_reducible repeat (first | refine Qac ?_ _ | refine Qag ?_ | refine Qab ?_ _)); refine Qax (cs := #[.string ((rd_T48 l0 x23_1).f0.f0), .string ((rd_T48 l0 x23_1).f0.f1), .int .i64 ((rd_T48 l0 x23_1).f1), .int .i64 ((rd_T48 l0 x23_1).f2), .int .i64 ((rd_T48 l0 x23_1).f3), .int .i64 ((rd_T48 l0 x23_1).f4), .int .i64 0, .int .i64 0, .int .i64 0]) ?_ 6 _ rfl; (with_reducible repeat (first | refine Qac ?_ _ | refine Qag ?_ | refine Qab ?_ _)); refine Qax (cs := #[.string ((rd_T48 l0 x23_1).f0.f0), .string ((rd_T48 l0 x23_1).f0.f1), .int .i64 ((rd_T48 l0 x23_1).f1), .int .i64 ((rd_T48 l0 x23_1).f2), .int .i64 ((rd_T48 l0 x23_1).f3), .int .i64 0, .int .i64 0, .int .i64 0, .int .i64 0]) ?_ 5 _ rfl; (with_reducible repeat (first | refine Qac ?_ _ | refine Qag ?_ | refine Qab ?_ _)); refine Qax (cs := #[.string ((rd_T48 l0 x23_1).f0.f0), .string ((rd_T48 l0 x23_1).f0.f1), .int .i64 ((rd_T48 l0 x23_1).f1), .int .i64 ((rd_T48 l0 x23_1).f2), .int .i64 0, .int .i64 0, .int .i64 0, .int .i64 0, .int .i64 0]) ?_ 4 _ rfl; (with_reducible repeat (first | refine Qac ?_ _ | refine Qag ?_ | refine Qab ?_ _)); refine Qax (cs := #[.string ((rd_T48 l0 x23_1).f0.f0), .string ((rd_T48 l0 x23_1).f0.f1), .int .i64 ((rd_T48 l0 x23_1).f1), .int .i64 0, .int .i64 0, .int .i64 0, .int .i64 0, .int .i64 0, .int .i64 0]) ?_ 3 _ rfl; (with_reducible repeat (first | refine Qac ?_ _ | refine Qag ?_ | refine Qab ?_ _)); refine Qax (cs := #[.string ((rd_T48 l0 x23_1).f0.f0), .string ((rd_T48 l0 x23_1).f0.f1), .int .i64 0, .int .i64 0, .int .i64 0, .int .i64 0, .int .i64 0, .int .i64 0, .int .i64 0]) ?_ 2 _ rfl; (with_reducible repeat (first | refine Qac ?_ _ | refine Qag ?_ | refine Qab ?_ _)); refine Qax (cs := #[.string ((rd_T48 l0 x23_1).f0.f0), .string (⟨#[]⟩ : ByteArray), .int .i64 0, .int .i64 0, .int .i64 0, .int .i64 0, .int .i64 0, .int .i64 0, .int .i64 0]) ?_ 1 _ rfl; (with_reducible repeat (first | refine Qac ?_ _ | refine Qag ?_ | refine Qab ?_ _)); refine Qax (cs := #[.string (⟨#[]⟩ : ByteArray), .string (⟨#[]⟩ : ByteArray), .int .i64 0, .int .i64 0, .int .i64 0, .int .i64 0, .int .i64 0, .int .i64 0, .int .i64 0]) ?_ 0 _ rfl; (with_reducible repeat (first | refine Qac ?_ _ | refine Qag ?_ | refine Qab ?_ _)); exact BK282.out)) : gb284 ≠ gb282)); clear HO_11; clear BK278; clear BK279; clear BK280; clear BK282; clear HB; have HO_11 := n0_; have BK278 := n1_; have BK279 := n2_; have BK280 := n3_; have BK282 := n4_; have HB := n5_; have BK284 := n6_; have GW284 := n7_; have GE284 := n8_; have NB278_284 := n9_; have NB284_278 := n10_; have NB279_284 := n11_; have NB284_279 := n12_; have NB280_284 := n13_; have NB284_280 := n14_; have NB282_284 := n15_; have NB284_282 := n16_; clear n0_ n1_ n2_ n3_ n4_ n5_ n6_ n7_ n8_ n9_ n10_ n11_ n12_ n13_ n14_ n15_ n16_; clear hb hbox hg; have hnb25 := NB278_279.out; have hnc25 := NB279_278.out; have hnb26 := NB278_280.out; have hnc26 := NB280_278.out; have hnb27 := NB278_284.out; have hnc27 := NB284_278.out; have hcz28_0 : w24.cell? ⟨gb278, 0, none⟩ = some (.slice A1 l1.length c1) := (Qai BK278.out 0).trans rfl; have hfz28_0 := Qah BK278.out 0; have hnb29 := NB284_279.out; have hnc29 := NB279_284.out; have hnb30 := NB284_280.out; have hnc30 := NB280_284.out; have hnb31 := NB284_282.out; have hnc31 := NB282_284.out; have hcz32_0 : w24.cell? ⟨gb284, 0, none⟩ = some (.string ((rd_T48 l0 x23_1).f0.f0)) := (Qai BK284.out 0).trans rfl; have hcz32_1 : w24.cell? ⟨gb284, 1, none⟩ = some (.string ((rd_T48 l0 x23_1).f0.f1)) := (Qai BK284.out 1).trans rfl; have hfz32_0 := Qah BK284.out 0; have hfz32_1 := Qah BK284.out 1; have hnb33 := NB279_280.out; have hnc33 := NB280_279.out; have hcz34_0 : w24.cell? ⟨gb279, 0, none⟩ = some (.slice A2 l2.length c2) := (Qai BK279.out 0).trans rfl; have hfz34_0 := Qah BK279.out 0; have hcz35_0 : w24.cell? ⟨gb280, 0, none⟩ = some (.slice A3 l3.length c3) := (Qai BK280.out 0).trans rfl; have hfz35_0 := Qah BK280.out 0) | ((with_reducible refine Qaw (f := 30) rfl ?_); refine goesL_ (some 14) rfl rfl Try.func30 (by kernel_rfl) rfl #[.slice A1 l1.length c1, .agg #[.string ((rd_T48 l0 x23_1).f0.f0), .string ((rd_T48 l0 x23_1).f0.f1)], .int .i64 ((rd_T48 l0 x23_1).f7), .slice A2 l2.length c2, .slice A3 l3.length c3] rfl (Zl) ?_; (with_reducible refine (QbB.calls k1 _ _ l1 ((rd_T48 l0 x23_1).f0.f0) ((rd_T48 l0 x23_1).f0.f1) ((rd_T48 l0 x23_1).f7) _ _ l2 _ _ l3 t285 t286 _ ?side1 ?side2 ?side3 ?side4 ?side5 ?side6 A19.out).mono ?_); (case side1 => exact Zv (Kd.C_below HR1.out HB.out)); (case side2 => exact HC1.out); (case side3 => exact Zv (Kd.C_below HR2.out HB.out)); (case side4 => exact HC2.out); (case side5 => exact Zv (Kd.C_below HR3.out HB.out)); (case side6 => exact HC3.out); rintro e w36 ⟨rfl, hb⟩; refine ⟨_, rfl, ?_⟩; have n0_ := Aside0.mk (Kd.R_below (Zr HO_11.out) hb); have n1_ := Aside0.mk (Qan (g := gb278) (o := .cells #[.slice A1 l1.length c1] 30 (0, 0)) (Zu BK278.out) hb); have n2_ := Aside0.mk (Qan (g := gb279) (o := .cells #[.slice A2 l2.length c2] 31 (0, 0)) (Zu BK279.out) hb); have n3_ := Aside0.mk (Qan (g := gb280) (o := .cells #[.slice A3 l3.length c3] 32 (0, 0)) (Zu BK280.out) hb); have n4_ := Aside0.mk (Qan (g := gb282) (o := .cells #[.string ((rd_T48 l0 x23_1).f0.f0), .string ((rd_T48 l0 x23_1).f0.f1), .int .i64 ((rd_T48 l0 x23_1).f1), .int .i64 ((rd_T48 l0 x23_1).f2), .int .i64 ((rd_T48 l0 x23_1).f3), .int .i64 ((rd_T48 l0 x23_1).f4), .int .i64 ((rd_T48 l0 x23_1).f5), .int .i64 ((rd_T48 l0 x23_1).f6), .int .i64 ((rd_T48 l0 x23_1).f7)] 48 (0, 0)) (Zu BK282.out) hb); have n5_ := Aside0.mk (Qan (g := gb284) (o := .cells #[.string ((rd_T48 l0 x23_1).f0.f0), .string ((rd_T48 l0 x23_1).f0.f1)] 44 (0, 0)) (Zu BK284.out) hb); have n6_ := Aside0.mk (Qao (Zc5 GE278.out GE279.out GE280.out GE282.out GE284.out) hb); clear HO_11; clear BK278; clear BK279; clear BK280; clear BK282; clear BK284; clear HB; have HO_11 := n0_; have BK278 := n1_; have BK279 := n2_; have BK280 := n3_; have BK282 := n4_; have BK284 := n5_; have HB := n6_; clear n0_ n1_ n2_ n3_ n4_ n5_ n6_; (try clear hb); (try clear hb2); (try clear hk); (try clear hi)))
        (try simp only [Act.put, List.setIfInBounds_toArray, List.set_cons_zero, List.set_cons_succ])
        by_cases c37 : t286 = 0
        ·rw [if_pos c37] at H
         have c37b0 : (t286 == 0) = true := beq_iff_eq.mpr c37
         have c37b1 : (t286 != 0) = false := bne_eq_false_iff_eq.mpr c37
         clear c37
         (try simp only [c37b0, c37b1])
         replace H := Option.bind_eq_some_iff.mp H
         obtain ⟨⟨t287, t288⟩, A380, H⟩ := H
         replace H : (if t288 = 0 then (if x11_1.length < 2513169434916 then (Qa7.l0 k1 (x11_1 ++ [(⟨(⟨(rd_T48 l0 x23_1).f0.f0, (rd_T48 l0 x23_1).f0.f1⟩ : S44), (rd_T48 l0 x23_1).f7, t285, t287⟩ : S50)]) l0 (l0.length : Int) (wrap64 (x23_1 + 1)) l1 l2 l3) else (none)) else (some (([] : List (S50)), t288))) = some (r1, r2) := H
         have A38 := Aside0.mk A380
         clear A380
         have hnb39 := NB282_278.out
         have hnc39 := NB278_282.out
         have hnb40 := NB282_279.out
         have hnc40 := NB279_282.out
         have hnb41 := NB282_280.out
         have hnc41 := NB280_282.out
         have hnb42 := NB282_284.out
         have hnc42 := NB284_282.out
         have hcz43_0 : w36.cell? ⟨gb282, 0, none⟩ = some (.string ((rd_T48 l0 x23_1).f0.f0)) := (Qai BK282.out 0).trans rfl
         have hcz43_1 : w36.cell? ⟨gb282, 1, none⟩ = some (.string ((rd_T48 l0 x23_1).f0.f1)) := (Qai BK282.out 1).trans rfl
         have hcz43_2 : w36.cell? ⟨gb282, 2, none⟩ = some (.int .i64 ((rd_T48 l0 x23_1).f1)) := (Qai BK282.out 2).trans rfl
         have hcz43_3 : w36.cell? ⟨gb282, 3, none⟩ = some (.int .i64 ((rd_T48 l0 x23_1).f2)) := (Qai BK282.out 3).trans rfl
         have hcz43_4 : w36.cell? ⟨gb282, 4, none⟩ = some (.int .i64 ((rd_T48 l0 x23_1).f3)) := (Qai BK282.out 4).trans rfl
         have hcz43_5 : w36.cell? ⟨gb282, 5, none⟩ = some (.int .i64 ((rd_T48 l0 x23_1).f4)) := (Qai BK282.out 5).trans rfl
         have hcz43_6 : w36.cell? ⟨gb282, 6, none⟩ = some (.int .i64 ((rd_T48 l0 x23_1).f5)) := (Qai BK282.out 6).trans rfl
         have hcz43_7 : w36.cell? ⟨gb282, 7, none⟩ = some (.int .i64 ((rd_T48 l0 x23_1).f6)) := (Qai BK282.out 7).trans rfl
         have hcz43_8 : w36.cell? ⟨gb282, 8, none⟩ = some (.int .i64 ((rd_T48 l0 x23_1).f7)) := (Qai BK282.out 8).trans rfl
         have hfz43_0 := Qah BK282.out 0
         have hfz43_1 := Qah BK282.out 1
         have hfz43_2 := Qah BK282.out 2
         have hfz43_3 := Qah BK282.out 3
         have hfz43_4 := Qah BK282.out 4
         have hfz43_5 := Qah BK282.out 5
         have hfz43_6 := Qah BK282.out 6
         have hfz43_7 := Qah BK282.out 7
         have hfz43_8 := Qah BK282.out 8
         go_upto_if 51 with (first | ((with_reducible refine Qaw (f := 15) rfl ?_); refine goesL_ (some 47) rfl rfl Try.func15 (by kernel_rfl) rfl #[.int .i64 ((rd_T48 l0 x23_1).f7), .int .i64 t285] rfl (Zl) ?_; (with_reducible refine (QbO.calls ((rd_T48 l0 x23_1).f7) t285 t287 t288 _ A38.out).mono ?_); rintro e w44 ⟨rfl, hb⟩; refine ⟨_, rfl, ?_⟩; have n0_ := Aside0.mk (Kd.R_below (Zr HO_11.out) hb); have n1_ := Aside0.mk (Qan (g := gb278) (o := .cells #[.slice A1 l1.length c1] 30 (0, 0)) (Zu BK278.out) hb); have n2_ := Aside0.mk (Qan (g := gb279) (o := .cells #[.slice A2 l2.length c2] 31 (0, 0)) (Zu BK279.out) hb); have n3_ := Aside0.mk (Qan (g := gb280) (o := .cells #[.slice A3 l3.length c3] 32 (0, 0)) (Zu BK280.out) hb); have n4_ := Aside0.mk (Qan (g := gb282) (o := .cells #[.string ((rd_T48 l0 x23_1).f0.f0), .string ((rd_T48 l0 x23_1).f0.f1), .int .i64 ((rd_T48 l0 x23_1).f1), .int .i64 ((rd_T48 l0 x23_1).f2), .int .i64 ((rd_T48 l0 x23_1).f3), .int .i64 ((rd_T48 l0 x23_1).f4), .int .i64 ((rd_T48 l0 x23_1).f5), .int .i64 ((rd_T48 l0 x23_1).f6), .int .i64 ((rd_T48 l0 x23_1).f7)] 48 (0, 0)) (Zu BK282.out) hb); have n5_ := Aside0.mk (Qan (g := gb284) (o := .cells #[.string ((rd_T48 l0 x23_1).f0.f0), .string ((rd_T48 l0 x23_1).f0.f1)] 44 (0, 0)) (Zu BK284.out) hb); have n6_ := Aside0.mk (Qao (Zc5 GE278.out GE279.out GE280.out GE282.out GE284.out) hb); clear HO_11; clear BK278; clear BK279; clear BK280; clear BK282; clear BK284; clear HB; have HO_11 := n0_; have BK278 := n1_; have BK279 := n2_; have BK280 := n3_; have BK282 := n4_; have BK284 := n5_; have HB := n6_; clear n0_ n1_ n2_ n3_ n4_ n5_ n6_; (try clear hb); (try clear hb2); (try clear hk); (try clear hi)))
         (try simp only [Act.put, List.setIfInBounds_toArray, List.set_cons_zero, List.set_cons_succ])
         by_cases c45 : t288 = 0
         ·rw [if_pos c45] at H
          have c45b0 : (t288 == 0) = true := beq_iff_eq.mpr c45
          have c45b1 : (t288 != 0) = false := bne_eq_false_iff_eq.mpr c45
          clear c45
          (try simp only [c45b0, c45b1])
          by_cases c46 : x11_1.length < 2513169434916
          ·rw [if_pos c46] at H
           have LMc46 := Aside0.mk c46
           clear c46
           obtain ⟨y289, hy289⟩ : ∃ y_ : List (S50), y_ = (x11_1 ++ [(⟨(⟨(rd_T48 l0 x23_1).f0.f0, (rd_T48 l0 x23_1).f0.f1⟩ : S44), (rd_T48 l0 x23_1).f7, t285, t287⟩ : S50)]) := ⟨_, rfl⟩
           replace H : (Qa7.l0 k1 y289 l0 (l0.length : Int) (wrap64 (x23_1 + 1)) l1 l2 l3) = some (r1, r2) := by first | (rw [hy289]; with_reducible exact H) | (have H2_ := (Option.bind_some _ _).symm.trans H; rw [hy289]; with_reducible exact H2_) | (have H2_ := (Option.bind_some _ _).symm.trans H; with_reducible exact H2_) | with_reducible exact H | (rw [hy289]; exact H) | exact H
           have Ny289 := Aside0.mk hy289
           clear hy289
           have H' := Aside0.mk H
           clear H
           have hnb47 := NB282_278.out
           have hnc47 := NB278_282.out
           have hnb48 := NB282_279.out
           have hnc48 := NB279_282.out
           have hnb49 := NB282_280.out
           have hnc49 := NB280_282.out
           have hnb50 := NB282_284.out
           have hnc50 := NB284_282.out
           have hcz51_0 : w44.cell? ⟨gb282, 0, none⟩ = some (.string ((rd_T48 l0 x23_1).f0.f0)) := (Qai BK282.out 0).trans rfl
           have hcz51_1 : w44.cell? ⟨gb282, 1, none⟩ = some (.string ((rd_T48 l0 x23_1).f0.f1)) := (Qai BK282.out 1).trans rfl
           have hcz51_2 : w44.cell? ⟨gb282, 2, none⟩ = some (.int .i64 ((rd_T48 l0 x23_1).f1)) := (Qai BK282.out 2).trans rfl
           have hcz51_3 : w44.cell? ⟨gb282, 3, none⟩ = some (.int .i64 ((rd_T48 l0 x23_1).f2)) := (Qai BK282.out 3).trans rfl
           have hcz51_4 : w44.cell? ⟨gb282, 4, none⟩ = some (.int .i64 ((rd_T48 l0 x23_1).f3)) := (Qai BK282.out 4).trans rfl
           have hcz51_5 : w44.cell? ⟨gb282, 5, none⟩ = some (.int .i64 ((rd_T48 l0 x23_1).f4)) := (Qai BK282.out 5).trans rfl
           have hcz51_6 : w44.cell? ⟨gb282, 6, none⟩ = some (.int .i64 ((rd_T48 l0 x23_1).f5)) := (Qai BK282.out 6).trans rfl
           have hcz51_7 : w44.cell? ⟨gb282, 7, none⟩ = some (.int .i64 ((rd_T48 l0 x23_1).f6)) := (Qai BK282.out 7).trans rfl
           have hcz51_8 : w44.cell? ⟨gb282, 8, none⟩ = some (.int .i64 ((rd_T48 l0 x23_1).f7)) := (Qai BK282.out 8).trans rfl
           have hfz51_0 := Qah BK282.out 0
           have hfz51_1 := Qah BK282.out 1
           have hfz51_2 := Qah BK282.out 2
           have hfz51_3 := Qah BK282.out 3
           have hfz51_4 := Qah BK282.out 4
           have hfz51_5 := Qah BK282.out 5
           have hfz51_6 := Qah BK282.out 6
           have hfz51_7 := Qah BK282.out 7
           have hfz51_8 := Qah BK282.out 8
           go_wp2_with (first | ((with_reducible refine QbP (b := .append) (xs := #[.tmp 53, .tmp 61]) rfl ?_); at_builtin; refine Kd.R_append k50 (w0 := w) w.heap.size rfl (.tmp 53) (.tmp 61) 35 50 (.agg #[(.string ⟨#[]⟩), (.string ⟨#[]⟩), (.int .i64 0), (.int .i64 0), (.int .i64 0)]) 56 rfl Try.underlying35 info50 rfl (by decide) (by omega) u11 x11_1 (⟨(⟨(rd_T48 l0 x23_1).f0.f0, (rd_T48 l0 x23_1).f0.f1⟩ : S44), (rd_T48 l0 x23_1).f7, t285, t287⟩ : S50) [.string ((rd_T48 l0 x23_1).f0.f0), .string ((rd_T48 l0 x23_1).f0.f1), .int .i64 ((rd_T48 l0 x23_1).f7), .int .i64 t285, .int .i64 t287] (fun _ => True) (fun _ => False) rfl rfl ?aP (fun _ hk => hk.elim) ?aF ?aO ?aB ?aS ?aL ?_; (case aP => exact Qb5 _ _ _ (⟨(⟨(rd_T48 l0 x23_1).f0.f0, (rd_T48 l0 x23_1).f0.f1⟩ : S44), (rd_T48 l0 x23_1).f7, t285, t287⟩ : S50)); (case aB => exact (Zc5 GE278.out GE279.out GE280.out GE282.out GE284.out)); (case aF => exact (fun _ _ => trivial)); (case aO => exact (Zr HO_11.out)); (case aS => exact (Qam (Zc5 GE278.out GE279.out GE280.out GE282.out GE284.out))); (case aL => have := LMc46.out; omega); intro v290 w52 ho hb hg hat; rw [← Ny289.out] at ho; have n0_ := Aside0.mk (Qa9 (g := gb278) (o := .cells #[.slice A1 l1.length c1] 30 (0, 0)) (Zu BK278.out) hg (Kd.R_ne HO_11.out BK278.out (by decide))); have n1_ := Aside0.mk (Qa9 (g := gb279) (o := .cells #[.slice A2 l2.length c2] 31 (0, 0)) (Zu BK279.out) hg (Kd.R_ne HO_11.out BK279.out (by decide))); have n2_ := Aside0.mk (Qa9 (g := gb280) (o := .cells #[.slice A3 l3.length c3] 32 (0, 0)) (Zu BK280.out) hg (Kd.R_ne HO_11.out BK280.out (by decide))); have n3_ := Aside0.mk (Qa9 (g := gb282) (o := .cells #[.string ((rd_T48 l0 x23_1).f0.f0), .string ((rd_T48 l0 x23_1).f0.f1), .int .i64 ((rd_T48 l0 x23_1).f1), .int .i64 ((rd_T48 l0 x23_1).f2), .int .i64 ((rd_T48 l0 x23_1).f3), .int .i64 ((rd_T48 l0 x23_1).f4), .int .i64 ((rd_T48 l0 x23_1).f5), .int .i64 ((rd_T48 l0 x23_1).f6), .int .i64 ((rd_T48 l0 x23_1).f7)] 48 (0, 0)) (Zu BK282.out) hg (Kd.R_ne HO_11.out BK282.out (by decide))); have n4_ := Aside0.mk (Qa9 (g := gb284) (o := .cells #[.string ((rd_T48 l0 x23_1).f0.f0), .string ((rd_T48 l0 x23_1).f0.f1)] 44 (0, 0)) (Zu BK284.out) hg (Kd.R_ne HO_11.out BK284.out (by decide))); have n5_ := Aside0.mk (hb); have n6_ := Aside0.mk (ho); clear BK278; clear BK279; clear BK280; clear BK282; clear BK284; clear HB; clear HO_11; have BK278 := n0_; have BK279 := n1_; have BK280 := n2_; have BK282 := n3_; have BK284 := n4_; have HB := n5_; have HO291 := n6_; clear n0_ n1_ n2_ n3_ n4_ n5_ n6_; clear ho hb hg hat))
           go_roundg k1
           case measure => have := HK1.out; omega
           case rel => exact ⟨(y289), (wrap64 (x23_1 + 1)), (Zs), H', ⟨by have := HK1.out; omega⟩, ⟨Zr HO291.out⟩, ⟨Zu BK278.out⟩, ⟨Zu BK279.out⟩, ⟨Zu BK280.out⟩, ⟨Zc5 GE278.out GE279.out GE280.out GE282.out GE284.out⟩⟩
          ·rw [if_neg c46] at H
           exact absurd H (by simp)
         ·rw [if_neg c45] at H
          have c45b0 : (t288 == 0) = false := beq_eq_false_iff_ne.mpr c45
          have c45b1 : (t288 != 0) = true := bne_iff_ne.mpr c45
          (try simp only [c45b0, c45b1])
          simp only [Option.some.injEq, Prod.mk.injEq] at H
          obtain ⟨rfl, rfl⟩ := H
          go_wp2
          go_ret2
          exact ⟨_, Zq, by first | exact Kd.R_nil _ _ _ _ _ | exact Kd.N_nil _ _ _ _ _ | exact Kd.V_nil _ _ _ _ _ | exact Kd.Q_nil _ _ _ _ _ | exact Kd.S_nil _ _ _ _ _, Zc5 GE278.out GE279.out GE280.out GE282.out GE284.out⟩
        ·rw [if_neg c37] at H
         have c37b0 : (t286 == 0) = false := beq_eq_false_iff_ne.mpr c37
         have c37b1 : (t286 != 0) = true := bne_iff_ne.mpr c37
         (try simp only [c37b0, c37b1])
         simp only [Option.some.injEq, Prod.mk.injEq] at H
         obtain ⟨rfl, rfl⟩ := H
         go_wp2
         go_ret2
         exact ⟨_, Zq, by first | exact Kd.R_nil _ _ _ _ _ | exact Kd.N_nil _ _ _ _ _ | exact Kd.V_nil _ _ _ _ _ | exact Kd.Q_nil _ _ _ _ _ | exact Kd.S_nil _ _ _ _ _, Zc5 GE278.out GE279.out GE280.out GE282.out GE284.out⟩
       ·replace c18 := Bool.eq_false_iff.mpr c18
        subst c18
        have H1 : (some (([] : List (S50)), 2)) = some (r1, r2) := by rw [if_neg (show ¬ (false = true) by decide)] at H; exact H
        clear H
        have H := H1
        clear H1
        simp only [Option.some.injEq, Prod.mk.injEq] at H
        obtain ⟨rfl, rfl⟩ := H
        go_wp2
        go_ret2
        exact ⟨_, Zq, by first | exact Kd.R_nil _ _ _ _ _ | exact Kd.N_nil _ _ _ _ _ | exact Kd.V_nil _ _ _ _ _ | exact Kd.Q_nil _ _ _ _ _ | exact Kd.S_nil _ _ _ _ _, Zc4 GE278.out GE279.out GE280.out GE282.out⟩
      ·rw [if_neg c11] at H
       exact absurd H (by simp)
     ·rw [if_neg c10] at H
      exact absurd H (by simp)
    ·rw [if_neg c9] at H
     have c9b0 : decide (x23_1 < (l0.length : Int)) = false := decide_eq_false c9
     clear c9
     (try simp only [c9b0])
     simp only [Option.some.injEq, Prod.mk.injEq] at H
     obtain ⟨rfl, rfl⟩ := H
     go_wp2
     go_ret2
     exact ⟨_, Zq, Zr HO_11.out, Zc3 GE278.out GE279.out GE280.out⟩
def QaO.l0 : Nat → List Int → Int → Int → Int → Option (Int × Int)
 | 0, _, _, _, _ => none
 | k + 1, x0, x4, x5, x6 => if x6 < (x0.length : Int) then (if 0 ≤ x6 then ((Qbk.f (rd x0 x6)).bind fun t383 => (if t383 = true then (QaO.l0 k x0 (wrap64 (x4 + (wrap64 (Int.tdiv (rd x0 x6) 1073741824)))) (wrap64 (x5 + (Int.tmod (rd x0 x6) 1073741824))) (wrap64 (x6 + 1))) else (some (0, 2)))) else (none)) else (if (wrap64 (x4 + (wrap64 (Int.tdiv x5 1073741824)))) < (-1073741825) then (some (0, 3)) else (if (wrap64 (x4 + (wrap64 (Int.tdiv x5 1073741824)))) > 1073741825 then (some (0, 3)) else ((Qbk.f (wrap64 ((wrap64 ((wrap64 (x4 + (wrap64 (Int.tdiv x5 1073741824)))) * 1073741824)) + (Int.tmod x5 1073741824)))).bind fun t386 => (if t386 = true then (some (wrap64 ((wrap64 ((wrap64 (x4 + (wrap64 (Int.tdiv x5 1073741824)))) * 1073741824)) + (Int.tmod x5 1073741824)), 0)) else (some (0, 3))))))
def QaO.f (k : Nat) (l0 : List Int) : Option (Int × Int) := QaO.l0 k l0 0 0 0
theorem QaO.mono_l : ∀ k, (∀ y0 y1 y2 y3, LeO (QaO.l0 k y0 y1 y2 y3) (QaO.l0 (k + 1) y0 y1 y2 y3))
 | 0 => fun _ _ _ _ r h => by simp [QaO.l0] at h
 | k + 1 => by
  have ih0 := QaO.mono_l k
  ·intro y0 y1 y2 y3
   unfold QaO.l0
   repeat' first
   | (with_reducible exact ih0 _ _ _ _)
   | (with_reducible exact LeO.refl _)
   | (with_reducible exact LeO.none _)
   | (with_reducible refine LeO.ite ?_ ?_)
   | (with_reducible refine LeO.bind ?_ (fun _ => ?_))
   | exact ih0 _ _ _ _
   | exact LeO.none _
   | refine LeO.ite ?_ ?_
   | refine LeO.bind ?_ (fun _ => ?_)
theorem QaO.mono : ∀ a0 k, LeO (QaO.f k a0) (QaO.f (k + 1) a0) := by
 intro a0 k
 have ih0 := QaO.mono_l k
 unfold QaO.f
 repeat' first
   | (with_reducible exact ih0 _ _ _ _)
   | (with_reducible exact LeO.refl _)
   | (with_reducible exact LeO.none _)
   | (with_reducible refine LeO.ite ?_ ?_)
   | (with_reducible refine LeO.bind ?_ (fun _ => ?_))
   | exact ih0 _ _ _ _
   | exact LeO.none _
   | refine LeO.ite ?_ ?_
   | refine LeO.bind ?_ (fun _ => ?_)
set_option maxHeartbeats 8000000 in
set_option maxRecDepth 100000 in
theorem QaO.calls (k : Nat) (A0 : Option Addr) (c0 : Nat) (l0 : List Int) (r1 : Int) (r2 : Int) (w : World) (hr0 : Kd.C (Kd.int .i64) w A0 l0.length l0) (hc0 : l0.length ≤ c0) (h : QaO.f k l0 = some (r1, r2)) :
  Calls Try.prog 60 #[.slice A0 l0.length c0] w fun e w' => e = .returned (.tuple #[.int .i64 r1, .int .i64 r2]) ∧ Drawn0 w w' := by
 have HR0 := Aside0.mk hr0
 have HC0 := Aside0.mk hc0
 clear hr0 hc0
 have H : (QaO.l0 k l0 0 0 0) = some (r1, r2) := h
 clear h
 have H' := Aside0.mk H
 clear H
 go_enter Try.func60, Try.ntmps60
 go_wp2
 go_loopg [4, 5, 6] k (fun kq v4 v5 v6 w' => ∃ (x4_1 : Int) (x5_1 : Int) (x6_1 : Int), v4 = .int .i64 x4_1 ∧ v5 = .int .i64 x5_1 ∧ v6 = .int .i64 x6_1 ∧ Aside0 (QaO.l0 kq l0 x4_1 x5_1 x6_1 = some (r1, r2)) ∧ Aside0 (kq ≤ k) ∧ Drawn0 w w')
 case atStart => exact ⟨(0), (0), (0), (Zs), (Zs), (Zs), H', ⟨Nat.le_refl _⟩, by repeat (first | exact Drawn0.refl _ | apply Drawn0.step)⟩
 case round =>
  clear H'
  obtain ⟨x4_1, x5_1, x6_1, rfl, rfl, rfl, HA, HK1, ⟨m1, rfl⟩⟩ := hrel
  cases gk with
  | zero => exact absurd HA.out (by simp [QaO.l0])
  | succ k1 =>
   have H := HA.out
   clear HA
   simp only [QaO.l0] at H
   by_cases c2 : x6_1 < (l0.length : Int)
   ·rw [if_pos c2] at H
    have c2b0 : decide (x6_1 < (l0.length : Int)) = true := decide_eq_true c2
    clear c2
    (try simp only [c2b0])
    by_cases c3 : 0 ≤ x6_1
    ·rw [if_pos c3] at H
     have c3b0 : decide (0 ≤ x6_1) = true := decide_eq_true c3
     clear c3
     replace H := Option.bind_eq_some_iff.mp H
     obtain ⟨t383, A40, H⟩ := H
     replace H : (if t383 = true then (QaO.l0 k1 l0 (wrap64 (x4_1 + (wrap64 (Int.tdiv (rd l0 x6_1) 1073741824)))) (wrap64 (x5_1 + (Int.tmod (rd l0 x6_1) 1073741824))) (wrap64 (x6_1 + 1))) else (some (0, 2))) = some (r1, r2) := H
     have A4 := Aside0.mk A40
     clear A40
     have p382 : 0 ≤ (x6_1 : Int) := Ze
     have q382 : x6_1 < (l0.length : Int) := Ze
     obtain ⟨ad382, e382, hx382_0⟩ := Kd.at_int HR0.out x6_1 p382 q382
     cases e382
     replace p382 := eq_true p382
     replace q382 := eq_true q382
     go_upto_if 18 with (first | ((with_reducible refine Qaw (f := 93) rfl ?_); refine goesL_ (some 17) rfl rfl Try.func93 (by kernel_rfl) rfl #[.int .i64 (rd l0 x6_1)] rfl (Zl) ?_; (with_reducible refine (Qbk.calls (rd l0 x6_1) t383 _ A4.out).mono ?_); rintro e w' ⟨rfl, ⟨nd, rfl⟩⟩; refine ⟨_, rfl, ?_⟩))
     (try simp only [Act.put, List.setIfInBounds_toArray, List.set_cons_zero, List.set_cons_succ])
     by_cases c5 : t383 = true
     ·subst c5
      have H1 : (QaO.l0 k1 l0 (wrap64 (x4_1 + (wrap64 (Int.tdiv (rd l0 x6_1) 1073741824)))) (wrap64 (x5_1 + (Int.tmod (rd l0 x6_1) 1073741824))) (wrap64 (x6_1 + 1))) = some (r1, r2) := by rw [if_pos rfl] at H; exact H
      clear H
      have H := H1
      clear H1
      have H' := Aside0.mk H
      clear H
      have p384 : 0 ≤ (x6_1 : Int) := Ze
      have q384 : x6_1 < (l0.length : Int) := Ze
      obtain ⟨ad384, e384, hx384_0⟩ := Kd.at_int HR0.out x6_1 p384 q384
      obtain rfl : ad382 = ad384 := (by injection e384)
      replace p384 := eq_true p384
      replace q384 := eq_true q384
      have p385 : 0 ≤ (x6_1 : Int) := Ze
      have q385 : x6_1 < (l0.length : Int) := Ze
      obtain ⟨ad385, e385, hx385_0⟩ := Kd.at_int HR0.out x6_1 p385 q385
      obtain rfl : ad382 = ad385 := (by injection e385)
      replace p385 := eq_true p385
      replace q385 := eq_true q385
      go_wp2
      go_roundg k1
      case measure => have := HK1.out; omega
      case rel => exact ⟨(wrap64 (x4_1 + (wrap64 (Int.tdiv (rd l0 x6_1) 1073741824)))), (wrap64 (x5_1 + (Int.tmod (rd l0 x6_1) 1073741824))), (wrap64 (x6_1 + 1)), (Zs), (Zs), (Zs), H', ⟨by have := HK1.out; omega⟩, by repeat (first | exact Drawn0.refl _ | apply Drawn0.step)⟩
     ·replace c5 := Bool.eq_false_iff.mpr c5
      subst c5
      have H1 : (some (0, 2)) = some (r1, r2) := by rw [if_neg (show ¬ (false = true) by decide)] at H; exact H
      clear H
      have H := H1
      clear H1
      simp only [Option.some.injEq, Prod.mk.injEq] at H
      obtain ⟨rfl, rfl⟩ := H
      go_wp2
      go_ret2
      exact ⟨Zs, by repeat (first | exact Drawn0.refl _ | apply Drawn0.step)⟩
    ·rw [if_neg c3] at H
     exact absurd H (by simp)
   ·rw [if_neg c2] at H
    have c2b0 : decide (x6_1 < (l0.length : Int)) = false := decide_eq_false c2
    clear c2
    (try simp only [c2b0])
    by_cases c6 : (wrap64 (x4_1 + (wrap64 (Int.tdiv x5_1 1073741824)))) < (-1073741825)
    ·rw [if_pos c6] at H
     have c6b0 : decide ((wrap64 (x4_1 + (wrap64 (Int.tdiv x5_1 1073741824)))) < (-1073741825)) = true := decide_eq_true c6
     clear c6
     simp only [Option.some.injEq, Prod.mk.injEq] at H
     obtain ⟨rfl, rfl⟩ := H
     go_wp2
     go_ret2
     exact ⟨Zs, by repeat (first | exact Drawn0.refl _ | apply Drawn0.step)⟩
    ·rw [if_neg c6] at H
     have c6b0 : decide ((wrap64 (x4_1 + (wrap64 (Int.tdiv x5_1 1073741824)))) < (-1073741825)) = false := decide_eq_false c6
     clear c6
     by_cases c7 : (wrap64 (x4_1 + (wrap64 (Int.tdiv x5_1 1073741824)))) > 1073741825
     ·rw [if_pos c7] at H
      have c7b0 : decide (1073741825 < (wrap64 (x4_1 + (wrap64 (Int.tdiv x5_1 1073741824))))) = true := decide_eq_true c7
      clear c7
      simp only [Option.some.injEq, Prod.mk.injEq] at H
      obtain ⟨rfl, rfl⟩ := H
      go_wp2
      go_ret2
      exact ⟨Zs, by repeat (first | exact Drawn0.refl _ | apply Drawn0.step)⟩
     ·rw [if_neg c7] at H
      have c7b0 : decide (1073741825 < (wrap64 (x4_1 + (wrap64 (Int.tdiv x5_1 1073741824))))) = false := decide_eq_false c7
      clear c7
      replace H := Option.bind_eq_some_iff.mp H
      obtain ⟨t386, A80, H⟩ := H
      replace H : (if t386 = true then (some (wrap64 ((wrap64 ((wrap64 (x4_1 + (wrap64 (Int.tdiv x5_1 1073741824)))) * 1073741824)) + (Int.tmod x5_1 1073741824)), 0)) else (some (0, 3))) = some (r1, r2) := H
      have A8 := Aside0.mk A80
      clear A80
      go_upto_if 52 with (first | (go_at_call 93; (with_reducible refine (Qbk.calls (wrap64 ((wrap64 ((wrap64 (x4_1 + (wrap64 (Int.tdiv x5_1 1073741824)))) * 1073741824)) + (Int.tmod x5_1 1073741824))) t386 _ A8.out).mono ?_); rintro e w' ⟨rfl, ⟨nd, rfl⟩⟩))
      (try simp only [Act.put, List.setIfInBounds_toArray, List.set_cons_zero, List.set_cons_succ])
      by_cases c9 : t386 = true
      ·subst c9
       have H1 : (some (wrap64 ((wrap64 ((wrap64 (x4_1 + (wrap64 (Int.tdiv x5_1 1073741824)))) * 1073741824)) + (Int.tmod x5_1 1073741824)), 0)) = some (r1, r2) := by rw [if_pos rfl] at H; exact H
       clear H
       have H := H1
       clear H1
       simp only [Option.some.injEq, Prod.mk.injEq] at H
       obtain ⟨rfl, rfl⟩ := H
       go_wp2
       go_ret2
       exact ⟨Zs, by repeat (first | exact Drawn0.refl _ | apply Drawn0.step)⟩
      ·replace c9 := Bool.eq_false_iff.mpr c9
       subst c9
       have H1 : (some (0, 3)) = some (r1, r2) := by rw [if_neg (show ¬ (false = true) by decide)] at H; exact H
       clear H
       have H := H1
       clear H1
       simp only [Option.some.injEq, Prod.mk.injEq] at H
       obtain ⟨rfl, rfl⟩ := H
       go_wp2
       go_ret2
       exact ⟨Zs, by repeat (first | exact Drawn0.refl _ | apply Drawn0.step)⟩
def QaL.l0 : Nat → List (S84) → ByteArray → Int → Option (ByteArray × Int × Int × Int × Int × Int × Bool)
 | 0, _, _, _ => none
 | k + 1, x0, x1, x6 => if x6 < (x0.length : Int) then (if 0 ≤ x6 then (if ((rd_T84 x0 x6).f0).toList = x1.toList then (some ((rd_T84 x0 x6).f0, (rd_T84 x0 x6).f1, (rd_T84 x0 x6).f2, (rd_T84 x0 x6).f3, (rd_T84 x0 x6).f4, (rd_T84 x0 x6).f5, true)) else (QaL.l0 k x0 x1 (wrap64 (x6 + 1)))) else (none)) else (some ((⟨#[]⟩ : ByteArray), 0, 0, 0, 0, 0, false))
def QaL.f (k : Nat) (l0 : List (S84)) (a1 : ByteArray) : Option (ByteArray × Int × Int × Int × Int × Int × Bool) := QaL.l0 k l0 a1 0
theorem QaL.mono_l : ∀ k, (∀ y0 y1 y2, LeO (QaL.l0 k y0 y1 y2) (QaL.l0 (k + 1) y0 y1 y2))
 | 0 => fun _ _ _ r h => by simp [QaL.l0] at h
 | k + 1 => by
  have ih0 := QaL.mono_l k
  ·intro y0 y1 y2
   unfold QaL.l0
   repeat' first
   | (with_reducible exact ih0 _ _ _)
   | (with_reducible exact LeO.refl _)
   | (with_reducible exact LeO.none _)
   | (with_reducible refine LeO.ite ?_ ?_)
   | (with_reducible refine LeO.bind ?_ (fun _ => ?_))
   | exact ih0 _ _ _
   | exact LeO.none _
   | refine LeO.ite ?_ ?_
   | refine LeO.bind ?_ (fun _ => ?_)
theorem QaL.mono : ∀ a0 a1 k, LeO (QaL.f k a0 a1) (QaL.f (k + 1) a0 a1) := by
 intro a0 a1 k
 have ih0 := QaL.mono_l k
 unfold QaL.f
 repeat' first
   | (with_reducible exact ih0 _ _ _)
   | (with_reducible exact LeO.refl _)
   | (with_reducible exact LeO.none _)
   | (with_reducible refine LeO.ite ?_ ?_)
   | (with_reducible refine LeO.bind ?_ (fun _ => ?_))
   | exact ih0 _ _ _
   | exact LeO.none _
   | refine LeO.ite ?_ ?_
   | refine LeO.bind ?_ (fun _ => ?_)
set_option maxHeartbeats 8000000 in
set_option maxRecDepth 100000 in
theorem QaL.calls (k : Nat) (A0 : Option Addr) (c0 : Nat) (l0 : List (S84)) (a1 : ByteArray) (r1 : ByteArray) (r2 : Int) (r3 : Int) (r4 : Int) (r5 : Int) (r6 : Int) (r7 : Bool) (w : World) (hr0 : Kd.C k84 w A0 l0.length l0) (hc0 : l0.length ≤ c0) (h : QaL.f k l0 a1 = some (r1, r2, r3, r4, r5, r6, r7)) :
  Calls Try.prog 41 #[.slice A0 l0.length c0, .string a1] w fun e w' => e = .returned (.tuple #[.agg #[.string r1, .int .i64 r2, .int .i64 r3, .int .i64 r4, .int .i64 r5, .int .i64 r6], .bool r7]) ∧ Below w.heap.size w w' := by
 have hu84 := Try.underlying84
 have HR0 := Aside0.mk hr0
 have HC0 := Aside0.mk hc0
 clear hr0 hc0
 have HB := Aside0.mk (Below.refl w.heap.size w)
 have H : (QaL.l0 k l0 a1 0) = some (r1, r2, r3, r4, r5, r6, r7) := h
 clear h
 have H' := Aside0.mk H
 clear H
 go_enter Try.func41, Try.ntmps41
 go_wp2_with (first | ((with_reducible refine QaW (N := 4) rfl ?_); refine Qa2 ?hg (N := 4) ?hd (cs := #[.string (⟨#[]⟩ : ByteArray), .int .i64 0, .int .i64 0, .int .i64 0, .int .i64 0, .int .i64 0]) (t := 84) ?hr ?_; (case hd => rfl); (case hg => rfl); (case hr => first | (go_simp; done) | (go_simp; rfl)); intro gb338 hg w3 hbox hb; have n0_ := Aside0.mk (Qao (Zb) hb); have n1_ := Aside0.mk (hbox); have n2_ := Aside0.mk ((by rw [hg]; exact (Qam (Zb)) : w.heap.size ≤ gb338)); have n3_ := Aside0.mk ((by rw [hg]; exact (Qam (Zb)) : w.heap.size ≤ gb338)); clear HB; have HB := n0_; have BK338 := n1_; have GW338 := n2_; have GE338 := n3_; clear n0_ n1_ n2_ n3_; clear hb hbox hg))
 go_loopg [6] k (fun kq v6 w' => ∃ (x6_1 : Int) (x339000_1 : ByteArray) (x339001_1 : Int) (x339002_1 : Int) (x339003_1 : Int) (x339004_1 : Int) (x339005_1 : Int), v6 = .int .i64 x6_1 ∧ Aside0 (QaL.l0 kq l0 a1 x6_1 = some (r1, r2, r3, r4, r5, r6, r7)) ∧ Aside0 (kq ≤ k) ∧ Aside0 (w'.heap[gb338]? = some (.cells #[.string x339000_1, .int .i64 x339001_1, .int .i64 x339002_1, .int .i64 x339003_1, .int .i64 x339004_1, .int .i64 x339005_1] 84 (0, 0))) ∧ Aside0 (Below w.heap.size w w'))
 case atStart => exact ⟨(0), ((⟨#[]⟩ : ByteArray)), (0), (0), (0), (0), (0), (Zs), H', ⟨Nat.le_refl _⟩, ⟨Zu BK338.out⟩, ⟨Zc1 GE338.out⟩⟩
 case round =>
  clear H'
  try clear p2
  obtain ⟨x6_1, x339000_1, x339001_1, x339002_1, x339003_1, x339004_1, x339005_1, rfl, HA, HK1, BK338, HB⟩ := hrel
  cases gk with
  | zero => exact absurd HA.out (by simp [QaL.l0])
  | succ k1 =>
   have H := HA.out
   clear HA
   simp only [QaL.l0] at H
   by_cases c4 : x6_1 < (l0.length : Int)
   ·rw [if_pos c4] at H
    have c4b0 : decide (x6_1 < (l0.length : Int)) = true := decide_eq_true c4
    clear c4
    (try simp only [c4b0])
    by_cases c5 : 0 ≤ x6_1
    ·rw [if_pos c5] at H
     have c5b0 : decide (0 ≤ x6_1) = true := decide_eq_true c5
     clear c5
     have p339 : 0 ≤ (x6_1 : Int) := Ze
     have q339 : x6_1 < (l0.length : Int) := Ze
     obtain ⟨ad339, e339, hx339_0, hx339_1, hx339_2, hx339_3, hx339_4, hx339_5⟩ := at_T84 HR0.out x6_1 p339 q339
     cases e339
     replace hx339_0 := (HB.out.cell (World.block_lt_of_cell? w _ hx339_0)).trans hx339_0
     replace hx339_1 := (HB.out.cell (World.block_lt_of_cell? w _ hx339_1)).trans hx339_1
     replace hx339_2 := (HB.out.cell (World.block_lt_of_cell? w _ hx339_2)).trans hx339_2
     replace hx339_3 := (HB.out.cell (World.block_lt_of_cell? w _ hx339_3)).trans hx339_3
     replace hx339_4 := (HB.out.cell (World.block_lt_of_cell? w _ hx339_4)).trans hx339_4
     replace hx339_5 := (HB.out.cell (World.block_lt_of_cell? w _ hx339_5)).trans hx339_5
     replace p339 := eq_true p339
     replace q339 := eq_true q339
     go_upto_if 19 with (fail)
     by_cases c6 : ((rd_T84 l0 x6_1).f0).toList = a1.toList
     ·rw [if_pos c6] at H
      have c6b0 : (((rd_T84 l0 x6_1).f0).toList == a1.toList) = true := beq_iff_eq.mpr c6
      have c6b1 : (((rd_T84 l0 x6_1).f0).toList != a1.toList) = false := bne_eq_false_iff_eq.mpr c6
      clear c6
      (try simp only [c6b0, c6b1])
      simp only [Option.some.injEq, Prod.mk.injEq] at H
      obtain ⟨rfl, rfl, rfl, rfl, rfl, rfl, rfl⟩ := H
      have p340 : 0 ≤ (x6_1 : Int) := Ze
      have q340 : x6_1 < (l0.length : Int) := Ze
      obtain ⟨ad340, e340, hx340_0, hx340_1, hx340_2, hx340_3, hx340_4, hx340_5⟩ := at_T84 HR0.out x6_1 p340 q340
      obtain rfl : ad339 = ad340 := (by injection e340)
      replace hx340_0 := (HB.out.cell (World.block_lt_of_cell? w _ hx340_0)).trans hx340_0
      replace hx340_1 := (HB.out.cell (World.block_lt_of_cell? w _ hx340_1)).trans hx340_1
      replace hx340_2 := (HB.out.cell (World.block_lt_of_cell? w _ hx340_2)).trans hx340_2
      replace hx340_3 := (HB.out.cell (World.block_lt_of_cell? w _ hx340_3)).trans hx340_3
      replace hx340_4 := (HB.out.cell (World.block_lt_of_cell? w _ hx340_4)).trans hx340_4
      replace hx340_5 := (HB.out.cell (World.block_lt_of_cell? w _ hx340_5)).trans hx340_5
      replace p340 := eq_true p340
      replace q340 := eq_true q340
      have hcz7_0 : wr.cell? ⟨gb338, 0, none⟩ = some (.string x339000_1) := (Qai BK338.out 0).trans rfl
      have hcz7_1 : wr.cell? ⟨gb338, 1, none⟩ = some (.int .i64 x339001_1) := (Qai BK338.out 1).trans rfl
      have hcz7_2 : wr.cell? ⟨gb338, 2, none⟩ = some (.int .i64 x339002_1) := (Qai BK338.out 2).trans rfl
      have hcz7_3 : wr.cell? ⟨gb338, 3, none⟩ = some (.int .i64 x339003_1) := (Qai BK338.out 3).trans rfl
      have hcz7_4 : wr.cell? ⟨gb338, 4, none⟩ = some (.int .i64 x339004_1) := (Qai BK338.out 4).trans rfl
      have hcz7_5 : wr.cell? ⟨gb338, 5, none⟩ = some (.int .i64 x339005_1) := (Qai BK338.out 5).trans rfl
      have hfz7_0 := Qah BK338.out 0
      have hfz7_1 := Qah BK338.out 1
      have hfz7_2 := Qah BK338.out 2
      have hfz7_3 := Qah BK338.out 3
      have hfz7_4 := Qah BK338.out 4
      have hfz7_5 := Qah BK338.out 5
      go_wp2
      refine bodyPost_ret (Qcn rfl _ _ gb338 84 #[.string ((rd_T84 l0 x6_1).f0), .int .i64 ((rd_T84 l0 x6_1).f1), .int .i64 ((rd_T84 l0 x6_1).f2), .int .i64 ((rd_T84 l0 x6_1).f3), .int .i64 ((rd_T84 l0 x6_1).f4), .int .i64 ((rd_T84 l0 x6_1).f5)] (0, 0) _ rfl (by (with_reducible repeat (first | refine Qac ?_ _ | refine Qag ?_ | refine Qab ?_ _)); refine Qax (cs := #[.string ((rd_T84 l0 x6_1).f0), .int .i64 ((rd_T84 l0 x6_1).f1), .int .i64 ((rd_T84 l0 x6_1).f2), .int .i64 ((rd_T84 l0 x6_1).f3), .int .i64 ((rd_T84 l0 x6_1).f4), .int .i64 x339005_1]) ?_ 5 _ rfl; (with_reducible repeat (first | refine Qac ?_ _ | refine Qag ?_ | refine Qab ?_ _)); refine Qax (cs := #[.string ((rd_T84 l0 x6_1).f0), .int .i64 ((rd_T84 l0 x6_1).f1), .int .i64 ((rd_T84 l0 x6_1).f2), .int .i64 ((rd_T84 l0 x6_1).f3), .int .i64 x339004_1, .int .i64 x339005_1]) ?_ 4 _ rfl; (with_reducible repeat (first | refine Qac ?_ _ | refine Qag ?_ | refine Qab ?_ _)); refine Qax (cs := #[.string ((rd_T84 l0 x6_1).f0), .int .i64 ((rd_T84 l0 x6_1).f1), .int .i64 ((rd_T84 l0 x6_1).f2), .int .i64 x339003_1, .int .i64 x339004_1, .int .i64 x339005_1]) ?_ 3 _ rfl; (with_reducible repeat (first | refine Qac ?_ _ | refine Qag ?_ | refine Qab ?_ _)); refine Qax (cs := #[.string ((rd_T84 l0 x6_1).f0), .int .i64 ((rd_T84 l0 x6_1).f1), .int .i64 x339002_1, .int .i64 x339003_1, .int .i64 x339004_1, .int .i64 x339005_1]) ?_ 2 _ rfl; (with_reducible repeat (first | refine Qac ?_ _ | refine Qag ?_ | refine Qab ?_ _)); refine Qax (cs := #[.string ((rd_T84 l0 x6_1).f0), .int .i64 x339001_1, .int .i64 x339002_1, .int .i64 x339003_1, .int .i64 x339004_1, .int .i64 x339005_1]) ?_ 1 _ rfl; (with_reducible repeat (first | refine Qac ?_ _ | refine Qag ?_ | refine Qab ?_ _)); refine Qax (cs := #[.string x339000_1, .int .i64 x339001_1, .int .i64 x339002_1, .int .i64 x339003_1, .int .i64 x339004_1, .int .i64 x339005_1]) ?_ 0 _ rfl; (with_reducible repeat (first | refine Qac ?_ _ | refine Qag ?_ | refine Qab ?_ _)); exact BK338.out) Try.underlying84 rfl (by kernel_rfl)) rfl ?_
      exact ⟨Zq, Zc1 GE338.out⟩
     ·rw [if_neg c6] at H
      have c6b0 : (((rd_T84 l0 x6_1).f0).toList == a1.toList) = false := beq_eq_false_iff_ne.mpr c6
      have c6b1 : (((rd_T84 l0 x6_1).f0).toList != a1.toList) = true := bne_iff_ne.mpr c6
      (try simp only [c6b0, c6b1])
      have H' := Aside0.mk H
      clear H
      go_wp2
      go_roundg k1
      case measure => have := HK1.out; omega
      case rel => exact ⟨(wrap64 (x6_1 + 1)), (x339000_1), (x339001_1), (x339002_1), (x339003_1), (x339004_1), (x339005_1), (Zs), H', ⟨by have := HK1.out; omega⟩, ⟨Zu BK338.out⟩, ⟨Zc1 GE338.out⟩⟩
    ·rw [if_neg c5] at H
     exact absurd H (by simp)
   ·rw [if_neg c4] at H
    have c4b0 : decide (x6_1 < (l0.length : Int)) = false := decide_eq_false c4
    clear c4
    (try simp only [c4b0])
    simp only [Option.some.injEq, Prod.mk.injEq] at H
    obtain ⟨rfl, rfl, rfl, rfl, rfl, rfl, rfl⟩ := H
    have hcz8_0 : wr.cell? ⟨gb338, 0, none⟩ = some (.string x339000_1) := (Qai BK338.out 0).trans rfl
    have hcz8_1 : wr.cell? ⟨gb338, 1, none⟩ = some (.int .i64 x339001_1) := (Qai BK338.out 1).trans rfl
    have hcz8_2 : wr.cell? ⟨gb338, 2, none⟩ = some (.int .i64 x339002_1) := (Qai BK338.out 2).trans rfl
    have hcz8_3 : wr.cell? ⟨gb338, 3, none⟩ = some (.int .i64 x339003_1) := (Qai BK338.out 3).trans rfl
    have hcz8_4 : wr.cell? ⟨gb338, 4, none⟩ = some (.int .i64 x339004_1) := (Qai BK338.out 4).trans rfl
    have hcz8_5 : wr.cell? ⟨gb338, 5, none⟩ = some (.int .i64 x339005_1) := (Qai BK338.out 5).trans rfl
    have hfz8_0 := Qah BK338.out 0
    have hfz8_1 := Qah BK338.out 1
    have hfz8_2 := Qah BK338.out 2
    have hfz8_3 := Qah BK338.out 3
    have hfz8_4 := Qah BK338.out 4
    have hfz8_5 := Qah BK338.out 5
    go_wp2
    refine bodyPost_ret (Qcn rfl _ _ gb338 84 #[.string (⟨#[]⟩ : ByteArray), .int .i64 0, .int .i64 0, .int .i64 0, .int .i64 0, .int .i64 0] (0, 0) _ rfl (by (with_reducible repeat (first | refine Qac ?_ _ | refine Qag ?_ | refine Qab ?_ _)); refine Qax (cs := #[.string (⟨#[]⟩ : ByteArray), .int .i64 0, .int .i64 0, .int .i64 0, .int .i64 0, .int .i64 x339005_1]) ?_ 5 _ rfl; (with_reducible repeat (first | refine Qac ?_ _ | refine Qag ?_ | refine Qab ?_ _)); refine Qax (cs := #[.string (⟨#[]⟩ : ByteArray), .int .i64 0, .int .i64 0, .int .i64 0, .int .i64 x339004_1, .int .i64 x339005_1]) ?_ 4 _ rfl; (with_reducible repeat (first | refine Qac ?_ _ | refine Qag ?_ | refine Qab ?_ _)); refine Qax (cs := #[.string (⟨#[]⟩ : ByteArray), .int .i64 0, .int .i64 0, .int .i64 x339003_1, .int .i64 x339004_1, .int .i64 x339005_1]) ?_ 3 _ rfl; (with_reducible repeat (first | refine Qac ?_ _ | refine Qag ?_ | refine Qab ?_ _)); refine Qax (cs := #[.string (⟨#[]⟩ : ByteArray), .int .i64 0, .int .i64 x339002_1, .int .i64 x339003_1, .int .i64 x339004_1, .int .i64 x339005_1]) ?_ 2 _ rfl; (with_reducible repeat (first | refine Qac ?_ _ | refine Qag ?_ | refine Qab ?_ _)); refine Qax (cs := #[.string (⟨#[]⟩ : ByteArray), .int .i64 x339001_1, .int .i64 x339002_1, .int .i64 x339003_1, .int .i64 x339004_1, .int .i64 x339005_1]) ?_ 1 _ rfl; (with_reducible repeat (first | refine Qac ?_ _ | refine Qag ?_ | refine Qab ?_ _)); refine Qax (cs := #[.string x339000_1, .int .i64 x339001_1, .int .i64 x339002_1, .int .i64 x339003_1, .int .i64 x339004_1, .int .i64 x339005_1]) ?_ 0 _ rfl; (with_reducible repeat (first | refine Qac ?_ _ | refine Qag ?_ | refine Qab ?_ _)); exact BK338.out) Try.underlying84 rfl (by kernel_rfl)) rfl ?_
    exact ⟨Zq, Zc1 GE338.out⟩
def QaB.l0 : Nat → Int → Int → Int → Int → Int → Int → Option (Int × Int)
 | 0, _, _, _, _, _, _ => none
 | k + 1, x0, x1, x2, x8, x9, x10 => if x10 ≥ 0 then (if 0 ≤ (IntKind.u64.wrap (x10)) then (if (Int.tmod (shr .i64 x0 (IntKind.u64.wrap (x10))) 2) = 1 then (if x2 = 0 then (none) else (if (wrap64 ((wrap64 (2 * x8)) + (wrap64 (Int.tdiv (wrap64 ((wrap64 (2 * x9)) + x1)) x2)))) > 2305843009213693952 then (QaB.l0 k x0 x1 x2 2305843009213693952 (Int.tmod (wrap64 ((wrap64 (2 * x9)) + x1)) x2) (wrap64 (x10 - 1))) else (QaB.l0 k x0 x1 x2 (wrap64 ((wrap64 (2 * x8)) + (wrap64 (Int.tdiv (wrap64 ((wrap64 (2 * x9)) + x1)) x2)))) (Int.tmod (wrap64 ((wrap64 (2 * x9)) + x1)) x2) (wrap64 (x10 - 1))))) else (if x2 = 0 then (none) else (if (wrap64 ((wrap64 (2 * x8)) + (wrap64 (Int.tdiv (wrap64 (2 * x9)) x2)))) > 2305843009213693952 then (QaB.l0 k x0 x1 x2 2305843009213693952 (Int.tmod (wrap64 (2 * x9)) x2) (wrap64 (x10 - 1))) else (QaB.l0 k x0 x1 x2 (wrap64 ((wrap64 (2 * x8)) + (wrap64 (Int.tdiv (wrap64 (2 * x9)) x2)))) (Int.tmod (wrap64 (2 * x9)) x2) (wrap64 (x10 - 1)))))) else (none)) else (some (x8, x9))
def QaB.f (k : Nat) (a0 : Int) (a1 : Int) (a2 : Int) : Option (Int × Int) := QaB.l0 k a0 a1 a2 0 0 60
theorem QaB.mono_l : ∀ k, (∀ y0 y1 y2 y3 y4 y5, LeO (QaB.l0 k y0 y1 y2 y3 y4 y5) (QaB.l0 (k + 1) y0 y1 y2 y3 y4 y5))
 | 0 => fun _ _ _ _ _ _ r h => by simp [QaB.l0] at h
 | k + 1 => by
  have ih0 := QaB.mono_l k
  ·intro y0 y1 y2 y3 y4 y5
   unfold QaB.l0
   repeat' first
   | (with_reducible exact ih0 _ _ _ _ _ _)
   | (with_reducible exact LeO.refl _)
   | (with_reducible exact LeO.none _)
   | (with_reducible refine LeO.ite ?_ ?_)
   | (with_reducible refine LeO.bind ?_ (fun _ => ?_))
   | exact ih0 _ _ _ _ _ _
   | exact LeO.none _
   | refine LeO.ite ?_ ?_
   | refine LeO.bind ?_ (fun _ => ?_)
theorem QaB.mono : ∀ a0 a1 a2 k, LeO (QaB.f k a0 a1 a2) (QaB.f (k + 1) a0 a1 a2) := by
 intro a0 a1 a2 k
 have ih0 := QaB.mono_l k
 unfold QaB.f
 repeat' first
   | (with_reducible exact ih0 _ _ _ _ _ _)
   | (with_reducible exact LeO.refl _)
   | (with_reducible exact LeO.none _)
   | (with_reducible refine LeO.ite ?_ ?_)
   | (with_reducible refine LeO.bind ?_ (fun _ => ?_))
   | exact ih0 _ _ _ _ _ _
   | exact LeO.none _
   | refine LeO.ite ?_ ?_
   | refine LeO.bind ?_ (fun _ => ?_)
set_option maxHeartbeats 8000000 in
set_option maxRecDepth 100000 in
theorem QaB.calls (k : Nat) (a0 : Int) (a1 : Int) (a2 : Int) (r1 : Int) (r2 : Int) (w : World) (h : QaB.f k a0 a1 a2 = some (r1, r2)) :
  Calls Try.prog 94 #[.int .i64 a0, .int .i64 a1, .int .i64 a2] w fun e w' => e = .returned (.tuple #[.int .i64 r1, .int .i64 r2]) ∧ Drawn0 w w' := by
 have H : (QaB.l0 k a0 a1 a2 0 0 60) = some (r1, r2) := h
 clear h
 have H' := Aside0.mk H
 clear H
 go_enter Try.func94, Try.ntmps94
 go_wp2
 go_loopg [8, 9, 10] k (fun kq v8 v9 v10 w' => ∃ (x8_1 : Int) (x9_1 : Int) (x10_1 : Int), v8 = .int .i64 x8_1 ∧ v9 = .int .i64 x9_1 ∧ v10 = .int .i64 x10_1 ∧ Aside0 (QaB.l0 kq a0 a1 a2 x8_1 x9_1 x10_1 = some (r1, r2)) ∧ Aside0 (kq ≤ k) ∧ Drawn0 w w')
 case atStart => exact ⟨(0), (0), (60), (Zs), (Zs), (Zs), H', ⟨Nat.le_refl _⟩, by repeat (first | exact Drawn0.refl _ | apply Drawn0.step)⟩
 case round =>
  clear H'
  try clear p2
  obtain ⟨x8_1, x9_1, x10_1, rfl, rfl, rfl, HA, HK1, ⟨m1, rfl⟩⟩ := hrel
  cases gk with
  | zero => exact absurd HA.out (by simp [QaB.l0])
  | succ k1 =>
   have H := HA.out
   clear HA
   simp only [QaB.l0] at H
   by_cases c4 : x10_1 ≥ 0
   ·rw [if_pos c4] at H
    have c4b0 : decide (0 ≤ x10_1) = true := decide_eq_true c4
    clear c4
    (try simp only [c4b0])
    obtain ⟨ji5, hji5⟩ : ∃ j_ : Int, (IntKind.u64.wrap (x10_1)) = j_ := ⟨_, rfl⟩
    replace H : (if 0 ≤ (ji5) then (if (Int.tmod (shr .i64 a0 (ji5)) 2) = 1 then (if a2 = 0 then (none) else (if (wrap64 ((wrap64 (2 * x8_1)) + (wrap64 (Int.tdiv (wrap64 ((wrap64 (2 * x9_1)) + a1)) a2)))) > 2305843009213693952 then (QaB.l0 k1 a0 a1 a2 2305843009213693952 (Int.tmod (wrap64 ((wrap64 (2 * x9_1)) + a1)) a2) (wrap64 (x10_1 - 1))) else (QaB.l0 k1 a0 a1 a2 (wrap64 ((wrap64 (2 * x8_1)) + (wrap64 (Int.tdiv (wrap64 ((wrap64 (2 * x9_1)) + a1)) a2)))) (Int.tmod (wrap64 ((wrap64 (2 * x9_1)) + a1)) a2) (wrap64 (x10_1 - 1))))) else (if a2 = 0 then (none) else (if (wrap64 ((wrap64 (2 * x8_1)) + (wrap64 (Int.tdiv (wrap64 (2 * x9_1)) a2)))) > 2305843009213693952 then (QaB.l0 k1 a0 a1 a2 2305843009213693952 (Int.tmod (wrap64 (2 * x9_1)) a2) (wrap64 (x10_1 - 1))) else (QaB.l0 k1 a0 a1 a2 (wrap64 ((wrap64 (2 * x8_1)) + (wrap64 (Int.tdiv (wrap64 (2 * x9_1)) a2)))) (Int.tmod (wrap64 (2 * x9_1)) a2) (wrap64 (x10_1 - 1)))))) else (none)) = some (r1, r2) := by first | (rw [hji5] at H; exact H) | (simp only [hji5] at H ⊢; exact H)
    by_cases c6 : 0 ≤ (ji5)
    ·rw [if_pos c6] at H
     have c6b0 := eq_true c6
     have c6b1 : decide (0 ≤ (ji5)) = true := decide_eq_true c6
     clear c6
     obtain ⟨ji7, hji7⟩ : ∃ j_ : Int, (shr .i64 a0 (ji5)) = j_ := ⟨_, rfl⟩
     replace H : (if (Int.tmod (ji7) 2) = 1 then (if a2 = 0 then (none) else (if (wrap64 ((wrap64 (2 * x8_1)) + (wrap64 (Int.tdiv (wrap64 ((wrap64 (2 * x9_1)) + a1)) a2)))) > 2305843009213693952 then (QaB.l0 k1 a0 a1 a2 2305843009213693952 (Int.tmod (wrap64 ((wrap64 (2 * x9_1)) + a1)) a2) (wrap64 (x10_1 - 1))) else (QaB.l0 k1 a0 a1 a2 (wrap64 ((wrap64 (2 * x8_1)) + (wrap64 (Int.tdiv (wrap64 ((wrap64 (2 * x9_1)) + a1)) a2)))) (Int.tmod (wrap64 ((wrap64 (2 * x9_1)) + a1)) a2) (wrap64 (x10_1 - 1))))) else (if a2 = 0 then (none) else (if (wrap64 ((wrap64 (2 * x8_1)) + (wrap64 (Int.tdiv (wrap64 (2 * x9_1)) a2)))) > 2305843009213693952 then (QaB.l0 k1 a0 a1 a2 2305843009213693952 (Int.tmod (wrap64 (2 * x9_1)) a2) (wrap64 (x10_1 - 1))) else (QaB.l0 k1 a0 a1 a2 (wrap64 ((wrap64 (2 * x8_1)) + (wrap64 (Int.tdiv (wrap64 (2 * x9_1)) a2)))) (Int.tmod (wrap64 (2 * x9_1)) a2) (wrap64 (x10_1 - 1)))))) = some (r1, r2) := by first | (rw [hji7] at H; exact H) | (simp only [hji7] at H ⊢; exact H)
     have hji7_ : (a0 / 2 ^ min (ji5).toNat 64) = ji7 := hji7
     have hji7z : (ji5) ≤ 64 → (a0 / 2 ^ (ji5).toNat) = ji7 := QcE hji7
     by_cases c8 : (Int.tmod (ji7) 2) = 1
     ·rw [if_pos c8] at H
      have c8b0 : ((Int.tmod (ji7) 2) == 1) = true := beq_iff_eq.mpr c8
      have c8b1 : ((Int.tmod (ji7) 2) != 1) = false := bne_eq_false_iff_eq.mpr c8
      clear c8
      (try simp only [c8b0, c8b1])
      by_cases c9 : a2 = 0
      ·rw [if_pos c9] at H
       exact absurd H (by simp)
      ·rw [if_neg c9] at H
       have c9b0 : (a2 == 0) = false := beq_eq_false_iff_ne.mpr c9
       have c9b1 : (a2 != 0) = true := bne_iff_ne.mpr c9
       by_cases c10 : (wrap64 ((wrap64 (2 * x8_1)) + (wrap64 (Int.tdiv (wrap64 ((wrap64 (2 * x9_1)) + a1)) a2)))) > 2305843009213693952
       ·rw [if_pos c10] at H
        have c10b0 : decide (2305843009213693952 < (wrap64 ((wrap64 (2 * x8_1)) + (wrap64 (Int.tdiv (wrap64 ((wrap64 (2 * x9_1)) + a1)) a2))))) = true := decide_eq_true c10
        clear c10
        (try simp only [c10b0])
        have H' := Aside0.mk H
        clear H
        go_wp2
        go_roundg k1
        case measure => have := HK1.out; omega
        case rel => exact ⟨(2305843009213693952), (Int.tmod (wrap64 ((wrap64 (2 * x9_1)) + a1)) a2), (wrap64 (x10_1 - 1)), (Zs), (Zs), (Zs), H', ⟨by have := HK1.out; omega⟩, by repeat (first | exact Drawn0.refl _ | apply Drawn0.step)⟩
       ·rw [if_neg c10] at H
        have c10b0 : decide (2305843009213693952 < (wrap64 ((wrap64 (2 * x8_1)) + (wrap64 (Int.tdiv (wrap64 ((wrap64 (2 * x9_1)) + a1)) a2))))) = false := decide_eq_false c10
        clear c10
        (try simp only [c10b0])
        have H' := Aside0.mk H
        clear H
        go_wp2
        go_roundg k1
        case measure => have := HK1.out; omega
        case rel => exact ⟨(wrap64 ((wrap64 (2 * x8_1)) + (wrap64 (Int.tdiv (wrap64 ((wrap64 (2 * x9_1)) + a1)) a2)))), (Int.tmod (wrap64 ((wrap64 (2 * x9_1)) + a1)) a2), (wrap64 (x10_1 - 1)), (Zs), (Zs), (Zs), H', ⟨by have := HK1.out; omega⟩, by repeat (first | exact Drawn0.refl _ | apply Drawn0.step)⟩
     ·rw [if_neg c8] at H
      have c8b0 : ((Int.tmod (ji7) 2) == 1) = false := beq_eq_false_iff_ne.mpr c8
      have c8b1 : ((Int.tmod (ji7) 2) != 1) = true := bne_iff_ne.mpr c8
      (try simp only [c8b0, c8b1])
      by_cases c11 : a2 = 0
      ·rw [if_pos c11] at H
       exact absurd H (by simp)
      ·rw [if_neg c11] at H
       have c11b0 : (a2 == 0) = false := beq_eq_false_iff_ne.mpr c11
       have c11b1 : (a2 != 0) = true := bne_iff_ne.mpr c11
       by_cases c12 : (wrap64 ((wrap64 (2 * x8_1)) + (wrap64 (Int.tdiv (wrap64 (2 * x9_1)) a2)))) > 2305843009213693952
       ·rw [if_pos c12] at H
        have c12b0 : decide (2305843009213693952 < (wrap64 ((wrap64 (2 * x8_1)) + (wrap64 (Int.tdiv (wrap64 (2 * x9_1)) a2))))) = true := decide_eq_true c12
        clear c12
        (try simp only [c12b0])
        have H' := Aside0.mk H
        clear H
        go_wp2
        go_roundg k1
        case measure => have := HK1.out; omega
        case rel => exact ⟨(2305843009213693952), (Int.tmod (wrap64 (2 * x9_1)) a2), (wrap64 (x10_1 - 1)), (Zs), (Zs), (Zs), H', ⟨by have := HK1.out; omega⟩, by repeat (first | exact Drawn0.refl _ | apply Drawn0.step)⟩
       ·rw [if_neg c12] at H
        have c12b0 : decide (2305843009213693952 < (wrap64 ((wrap64 (2 * x8_1)) + (wrap64 (Int.tdiv (wrap64 (2 * x9_1)) a2))))) = false := decide_eq_false c12
        clear c12
        (try simp only [c12b0])
        have H' := Aside0.mk H
        clear H
        go_wp2
        go_roundg k1
        case measure => have := HK1.out; omega
        case rel => exact ⟨(wrap64 ((wrap64 (2 * x8_1)) + (wrap64 (Int.tdiv (wrap64 (2 * x9_1)) a2)))), (Int.tmod (wrap64 (2 * x9_1)) a2), (wrap64 (x10_1 - 1)), (Zs), (Zs), (Zs), H', ⟨by have := HK1.out; omega⟩, by repeat (first | exact Drawn0.refl _ | apply Drawn0.step)⟩
    ·rw [if_neg c6] at H
     exact absurd H (by simp)
   ·rw [if_neg c4] at H
    have c4b0 : decide (0 ≤ x10_1) = false := decide_eq_false c4
    clear c4
    (try simp only [c4b0])
    simp only [Option.some.injEq, Prod.mk.injEq] at H
    obtain ⟨rfl, rfl⟩ := H
    go_wp2
    go_ret2
    exact ⟨Zs, by repeat (first | exact Drawn0.refl _ | apply Drawn0.step)⟩
theorem Qgs (N c x : Int) (hc : 0 < c) : (2 * N + x) / c = 2 * (N / c) + (2 * (N % c) + x) / c ∧ (2 * N + x) % c = (2 * (N % c) + x) % c := by
 have h := Int.mul_ediv_add_emod N c
 have e : 2 * N + x = (2 * (N % c) + x) + c * (2 * (N / c)) := by grind
 rw [e]
 exact ⟨by rw [Int.add_mul_ediv_left _ _ (by omega)]; omega, by rw [Int.add_mul_emod_self_left]⟩
theorem Qgr (Q s q : Int) (hQ : 0 ≤ Q) (hs : 0 ≤ s) (hs' : s ≤ 2305843009213693952) (hq : q = if Q ≤ 2305843009213693952 then Q else 2305843009213693952) :
  (if wrap64 (wrap64 (2 * q) + wrap64 s) > 2305843009213693952 then 2305843009213693952 else wrap64 (wrap64 (2 * q) + wrap64 s)) = if 2 * Q + s ≤ 2305843009213693952 then 2 * Q + s else 2305843009213693952 := by
 unfold wrap64
 subst hq
 split <;> split <;> split <;> omega
theorem QfS (a b c : Int) (ha : 0 ≤ a) (ha' : a ≤ 1152921504606846976) (hb : 0 ≤ b) (hb' : b ≤ 1152921504606846976) (hc : 0 < c) (hc' : c ≤ 1152921504606846976) :
    ∀ (n : Nat) (k : Nat) (q r : Int), n ≤ 61 → n < k → q = (if a / 2 ^ n * b / c ≤ 2305843009213693952 then a / 2 ^ n * b / c else 2305843009213693952) → r = a / 2 ^ n * b % c →
      QaB.l0 k a b c q r ((n : Int) - 1) = some (if a * b / c ≤ 2305843009213693952 then a * b / c else 2305843009213693952, a * b % c) := by
  intro n
  induction n with
  | zero =>
    intro k q r _ hk hq hr
    obtain ⟨k, rfl⟩ : ∃ m, k = m + 1 := ⟨k - 1, by omega⟩
    simp only [QaB.l0]
    rw [if_neg (by omega), hq, hr]
    simp
  | succ n ih =>
    intro k q r hn hk hq hr
    obtain ⟨k, rfl⟩ : ∃ m, k = m + 1 := ⟨k - 1, by omega⟩
    have e0 : ((n + 1 : Nat) : Int) - 1 = (n : Int) := by omega
    have w0 : IntKind.u64.wrap (n : Int) = (n : Int) := by rw [IntKind.wrap_u64]; omega
    have hp : (0 : Int) < 2 ^ n := Int.pow_pos (by omega)
    have hA : 0 ≤ a / 2 ^ n := Int.ediv_nonneg ha (by omega)
    have hA2 : a / 2 ^ (n + 1) = a / 2 ^ n / 2 := by
      rw [Int.pow_succ, Int.ediv_ediv_of_nonneg (by omega)]
    have hAle : a / 2 ^ n ≤ a := Int.ediv_le_self _ ha
    have esh : shr .i64 a (n : Int) = a / 2 ^ n := by
      unfold shr
      rw [Int.toNat_natCast, Nat.min_eq_left (show n ≤ IntKind.i64.bits by show n ≤ 64; omega)]
    have hr0 := Int.emod_nonneg (a / 2 ^ (n + 1) * b) (b := c) (by omega)
    have hr1 := Int.emod_lt_of_pos (a / 2 ^ (n + 1) * b) hc
    have hQ0 : 0 ≤ a / 2 ^ (n + 1) * b / c := Int.ediv_nonneg (Int.mul_nonneg (by rw [hA2]; omega) hb) (by omega)
    generalize hA' : a / 2 ^ n = A at *
    generalize hN : a / 2 ^ (n + 1) * b = N at *
    have wr : wrap64 (2 * r) = 2 * r := by unfold wrap64; omega
    have wrb : wrap64 (wrap64 (2 * r) + b) = 2 * r + b := by unfold wrap64; omega
    have wn : wrap64 ((n : Int) - 1) = (n : Int) - 1 := by unfold wrap64; omega
    have step : ∀ x : Int, 0 ≤ x → x ≤ 1152921504606846976 → A * b = 2 * N + x → 
        (if wrap64 (wrap64 (2 * q) + wrap64 ((2 * r + x) / c)) > 2305843009213693952 then QaB.l0 k a b c 2305843009213693952 ((2 * r + x) % c) ((n : Int) - 1)
         else QaB.l0 k a b c (wrap64 (wrap64 (2 * q) + wrap64 ((2 * r + x) / c))) ((2 * r + x) % c) ((n : Int) - 1)) = some (if a * b / c ≤ 2305843009213693952 then a * b / c else 2305843009213693952, a * b % c) := by
      intro x hx0 hx1 hx
      obtain ⟨d1, d2⟩ := Qgs N c x hc
      rw [← hr] at d1 d2
      have s0 : 0 ≤ (2 * r + x) / c := Int.ediv_nonneg (by omega) (by omega)
      have s1 : (2 * r + x) / c ≤ 2305843009213693952 := by
        have : (2 * r + x) / c < 2305843009213693953 := (Int.ediv_lt_iff_lt_mul hc).2 (by omega)
        omega
      have cap := Qgr (N / c) ((2 * r + x) / c) q hQ0 s0 s1 hq
      rw [← d1, ← hx] at cap
      rw [← hx] at d2
      have := ih k (if wrap64 (wrap64 (2 * q) + wrap64 ((2 * r + x) / c)) > 2305843009213693952 then 2305843009213693952 else wrap64 (wrap64 (2 * q) + wrap64 ((2 * r + x) / c))) ((2 * r + x) % c) (by omega) (by omega) cap d2.symm
      split at this
      · rw [if_pos (by assumption)]; exact this
      · rw [if_neg (by assumption)]; exact this
    simp only [QaB.l0]
    rw [e0, if_pos (by omega), w0, if_pos (by omega), esh, Int.tmod_eq_emod_of_nonneg hA, if_neg (show ¬ c = 0 by omega), if_neg (show ¬ c = 0 by omega), wrb, wr, wn]
    rw [Int.tdiv_eq_ediv_of_nonneg (show 0 ≤ 2 * r + b by omega), Int.tmod_eq_emod_of_nonneg (show 0 ≤ 2 * r + b by omega), Int.tdiv_eq_ediv_of_nonneg (show 0 ≤ 2 * r by omega), Int.tmod_eq_emod_of_nonneg (show 0 ≤ 2 * r by omega)]
    by_cases hbit : A % 2 = 1
    · rw [if_pos hbit]
      refine step b hb hb' ?_
      rw [← hN, hA2]
      have : A = 2 * (A / 2) + 1 := by omega
      grind
    · rw [if_neg hbit]
      have := step 0 (by omega) (by omega) (by
        rw [← hN, hA2]
        have : A = 2 * (A / 2) := by omega
        grind)
      rw [Int.add_zero] at this
      exact this
theorem QaB.eq (a b c : Int) (ha : 0 ≤ a) (ha' : a ≤ 1152921504606846976) (hb : 0 ≤ b) (hb' : b ≤ 1152921504606846976) (hc : 0 < c) (hc' : c ≤ 1152921504606846976) (k : Nat) (hk : 70 ≤ k) :
  QaB.f k a b c = some (if a * b / c ≤ 2305843009213693952 then a * b / c else 2305843009213693952, a * b % c) := by
 unfold QaB.f
 have h0 : a / 2 ^ 61 = 0 := Int.ediv_eq_zero_of_lt ha (by omega)
 exact QfS a b c ha ha' hb hb' hc hc' 61 k 0 0 (by omega) (by omega) (by rw [h0]; simp) (by rw [h0]; simp)
def QbH.f (a0 : Int) (a1 : Int) (a2 : Int) (a3 : Int) (a4 : Bool) : Option (Bool) := if a3 = 2 then (some true) else (if a3 = 3 then (some a4) else (if a3 = 4 then (some (!a4)) else (if a3 = 5 then (if a1 > (wrap64 (a2 - a1)) then (some true) else (if a1 = (wrap64 (a2 - a1)) then (some ((Int.tmod a0 2) == 1)) else (some false))) else (some false))))
set_option maxHeartbeats 8000000 in
set_option maxRecDepth 100000 in
theorem QbH.calls (a0 : Int) (a1 : Int) (a2 : Int) (a3 : Int) (a4 : Bool) (r : Bool) (w : World) (h : QbH.f a0 a1 a2 a3 a4 = some r) :
  Calls Try.prog 96 #[.int .i64 a0, .int .i64 a1, .int .i64 a2, .int .i64 a3, .bool a4] w fun e w' => e = .returned (.bool r) ∧ Drawn0 w w' := by
 have H : (if a3 = 2 then (some true) else (if a3 = 3 then (some a4) else (if a3 = 4 then (some (!a4)) else (if a3 = 5 then (if a1 > (wrap64 (a2 - a1)) then (some true) else (if a1 = (wrap64 (a2 - a1)) then (some ((Int.tmod a0 2) == 1)) else (some false))) else (some false))))) = some r := h
 clear h
 by_cases c6 : a3 = 2
 ·rw [if_pos c6] at H
  have c6b0 : (a3 == 2) = true := beq_iff_eq.mpr c6
  have c6b1 : (a3 != 2) = false := bne_eq_false_iff_eq.mpr c6
  clear c6
  obtain rfl := Option.some.inj H
  go_enter Try.func96, Try.ntmps96
  go_wp2
  go_ret
  exact ⟨Zs, by repeat (first | exact Drawn0.refl _ | apply Drawn0.step)⟩
 ·rw [if_neg c6] at H
  have c6b0 : (a3 == 2) = false := beq_eq_false_iff_ne.mpr c6
  have c6b1 : (a3 != 2) = true := bne_iff_ne.mpr c6
  by_cases c7 : a3 = 3
  ·rw [if_pos c7] at H
   have c7b0 : (a3 == 3) = true := beq_iff_eq.mpr c7
   have c7b1 : (a3 != 3) = false := bne_eq_false_iff_eq.mpr c7
   clear c7
   obtain rfl := Option.some.inj H
   go_enter Try.func96, Try.ntmps96
   go_wp2
   go_ret
   exact ⟨Zs, by repeat (first | exact Drawn0.refl _ | apply Drawn0.step)⟩
  ·rw [if_neg c7] at H
   have c7b0 : (a3 == 3) = false := beq_eq_false_iff_ne.mpr c7
   have c7b1 : (a3 != 3) = true := bne_iff_ne.mpr c7
   by_cases c8 : a3 = 4
   ·rw [if_pos c8] at H
    have c8b0 : (a3 == 4) = true := beq_iff_eq.mpr c8
    have c8b1 : (a3 != 4) = false := bne_eq_false_iff_eq.mpr c8
    clear c8
    obtain rfl := Option.some.inj H
    go_enter Try.func96, Try.ntmps96
    go_wp2
    go_ret
    exact ⟨Zs, by repeat (first | exact Drawn0.refl _ | apply Drawn0.step)⟩
   ·rw [if_neg c8] at H
    have c8b0 : (a3 == 4) = false := beq_eq_false_iff_ne.mpr c8
    have c8b1 : (a3 != 4) = true := bne_iff_ne.mpr c8
    by_cases c9 : a3 = 5
    ·rw [if_pos c9] at H
     have c9b0 : (a3 == 5) = true := beq_iff_eq.mpr c9
     have c9b1 : (a3 != 5) = false := bne_eq_false_iff_eq.mpr c9
     clear c9
     by_cases c10 : a1 > (wrap64 (a2 - a1))
     ·rw [if_pos c10] at H
      have c10b0 : decide ((wrap64 (a2 - a1)) < a1) = true := decide_eq_true c10
      clear c10
      obtain rfl := Option.some.inj H
      go_enter Try.func96, Try.ntmps96
      go_wp2
      go_ret
      exact ⟨Zs, by repeat (first | exact Drawn0.refl _ | apply Drawn0.step)⟩
     ·rw [if_neg c10] at H
      have c10b0 : decide ((wrap64 (a2 - a1)) < a1) = false := decide_eq_false c10
      clear c10
      by_cases c11 : a1 = (wrap64 (a2 - a1))
      ·rw [if_pos c11] at H
       have c11b0 : (a1 == (wrap64 (a2 - a1))) = true := beq_iff_eq.mpr c11
       have c11b1 : (a1 != (wrap64 (a2 - a1))) = false := bne_eq_false_iff_eq.mpr c11
       clear c11
       obtain rfl := Option.some.inj H
       go_enter Try.func96, Try.ntmps96
       go_wp2
       go_ret
       exact ⟨Zs, by repeat (first | exact Drawn0.refl _ | apply Drawn0.step)⟩
      ·rw [if_neg c11] at H
       have c11b0 : (a1 == (wrap64 (a2 - a1))) = false := beq_eq_false_iff_ne.mpr c11
       have c11b1 : (a1 != (wrap64 (a2 - a1))) = true := bne_iff_ne.mpr c11
       obtain rfl := Option.some.inj H
       go_enter Try.func96, Try.ntmps96
       go_wp2
       go_ret
       exact ⟨Zs, by repeat (first | exact Drawn0.refl _ | apply Drawn0.step)⟩
    ·rw [if_neg c9] at H
     have c9b0 : (a3 == 5) = false := beq_eq_false_iff_ne.mpr c9
     have c9b1 : (a3 != 5) = true := bne_iff_ne.mpr c9
     obtain rfl := Option.some.inj H
     go_enter Try.func96, Try.ntmps96
     go_wp2
     go_ret
     exact ⟨Zs, by repeat (first | exact Drawn0.refl _ | apply Drawn0.step)⟩
set_option maxHeartbeats 4000000 in
set_option maxRecDepth 100000 in
theorem Qa5.bad (a0 a1 a2 a3 : Int) (w : World) (h : ¬ (mdFits a0 ∧ mdFits a1 ∧ mdFits a2 ∧ 1 ≤ a3 ∧ a3 ≤ 5)) :
  Calls Try.prog 58 #[.int .i64 a0, .int .i64 a1, .int .i64 a2, .int .i64 a3] w fun e w' => e = .returned (.tuple #[.int .i64 0, .int .i64 2]) ∧ w' = w := by
 rcases Qc2 a0 a1 a2 a3 h with h1 | h1 | ⟨⟨h1, h2⟩, h3⟩ | ⟨⟨h1, h2⟩, h3⟩ | ⟨⟨h1, h2⟩, ⟨h3, h4⟩, h5⟩ | ⟨⟨h1, h2⟩, ⟨h3, h4⟩, h5⟩ | ⟨⟨h1, h2⟩, ⟨h3, h4⟩, ⟨h5, h6⟩, h7⟩ | ⟨⟨h1, h2⟩, ⟨h3, h4⟩, ⟨h5, h6⟩, h7⟩
 all_goals
  clear h
  go_enter Try.func58, Try.ntmps58
  go_wp2
  go_ret2
  exact ⟨rfl, rfl⟩
set_option maxHeartbeats 4000000 in
set_option maxRecDepth 100000 in
theorem Qa5.z (a0 a1 a2 a3 : Int) (w : World) (h1 : -1152921504606846976 ≤ a0) (h2 : a0 ≤ 1152921504606846976) (h3 : -1152921504606846976 ≤ a1) (h4 : a1 ≤ 1152921504606846976)
  (h5 : -1152921504606846976 ≤ a2) (h6 : a2 ≤ 1152921504606846976) (hc : (a2 == 0) = true) (m1 : 1 ≤ a3) (m2 : a3 ≤ 5) :
  Calls Try.prog 58 #[.int .i64 a0, .int .i64 a1, .int .i64 a2, .int .i64 a3] w fun e w' => e = .returned (.tuple #[.int .i64 0, .int .i64 4]) ∧ Below w.heap.size w w' := by
 go_enter Try.func58, Try.ntmps58
 go_wp2_with (go_at_call 93; go_in)
 go_ret2
 exact ⟨rfl, Below.refl _ _⟩
theorem QcU (a : Int) (h1 : -1152921504606846976 ≤ a) : Qbn.f a = some (a.natAbs : Int) := by
 unfold Qbn.f wrap64
 split <;> (congr 1; omega)
def rmQ (Q R : Int) (av : Bool) : Int := if 0 < R ∧ av = true then Q + 1 else Q
def rmRes (q : Int) (bl : Bool) : Int × Int := if 1152921504606846976 < q then (0, 3) else (if bl = true then -q else q, 0)
theorem rm_end {q n er : Int} {bl : Bool} (h : rmRes q bl = (n, er)) : Ending.returned (.tuple #[.int .i64 n, .int .i64 er]) = .returned (.tuple #[.int .i64 (rmRes q bl).1, .int .i64 (rmRes q bl).2]) := by rw [h]
set_option maxHeartbeats 4000000 in
set_option maxRecDepth 100000 in
theorem Qa5.main (a0 a1 a2 a3 : Int) (w : World) (h1 : -1152921504606846976 ≤ a0) (h2 : a0 ≤ 1152921504606846976) (h3 : -1152921504606846976 ≤ a1) (h4 : a1 ≤ 1152921504606846976)
  (h5 : -1152921504606846976 ≤ a2) (h6 : a2 ≤ 1152921504606846976) (hc : (a2 == 0) = false) (m1 : 1 ≤ a3) (m2 : a3 ≤ 5) (Q R : Int) (bl av : Bool)
  (fb : (!((!(decide (a0 < 0) == decide (a1 < 0))) == decide (a2 < 0))) = bl) (hQ : Aside0 (QaB.f 70 a0.natAbs a1.natAbs a2.natAbs = some (Q, R)))
  (hav : Aside0 (QbH.f Q R a2.natAbs a3 bl = some av)) (hQ0 : 0 ≤ Q) (hQ1 : Q ≤ 2305843009213693952) :
  Calls Try.prog 58 #[.int .i64 a0, .int .i64 a1, .int .i64 a2, .int .i64 a3] w fun e w' => e = .returned (.tuple #[.int .i64 (rmRes (rmQ Q R av) bl).1, .int .i64 (rmRes (rmQ Q R av) bl).2]) ∧ Below w.heap.size w w' := by
 by_cases hR : 0 < R
 ·cases av
  ·have eq : rmQ Q R false = Q := by unfold rmQ; rw [if_neg (by simp)]
   rw [eq]; clear eq
   go_enter Try.func58, Try.ntmps58
   go_wp2_with (first | (go_at_call 93; go_in) | (go_at_call 95; refine (Qbn.calls _ _ _ (QcU _ (by omega))).mono ?_; rintro e w1 ⟨rfl, ⟨nd, rfl⟩⟩) | (go_at_call 94; refine (QaB.calls 70 _ _ _ _ _ _ hQ.out).mono ?_; rintro e w1 ⟨rfl, ⟨nd, rfl⟩⟩) | (go_at_call 96; refine (QbH.calls _ _ _ _ _ _ _ hav.out).mono ?_; rintro e w1 ⟨rfl, ⟨nd, rfl⟩⟩))
   all_goals go_ret2
   all_goals refine ⟨rm_end ?_, by repeat (first | exact Below.refl _ _ | apply Qaa | apply Qb2)⟩
   all_goals go_light
   ·exact if_pos (by omega)
   ·exact (if_neg (by omega)).trans (by rw [if_pos (by first | rfl | assumption)])
   ·exact (if_neg (by omega)).trans (by rw [if_neg (by first | (simp; done) | (simp; assumption))])
  ·have eq : rmQ Q R true = Q + 1 := by unfold rmQ; rw [if_pos ⟨hR, rfl⟩]
   rw [eq]; clear eq
   go_enter Try.func58, Try.ntmps58
   go_wp2_with (first | (go_at_call 93; go_in) | (go_at_call 95; refine (Qbn.calls _ _ _ (QcU _ (by omega))).mono ?_; rintro e w1 ⟨rfl, ⟨nd, rfl⟩⟩) | (go_at_call 94; refine (QaB.calls 70 _ _ _ _ _ _ hQ.out).mono ?_; rintro e w1 ⟨rfl, ⟨nd, rfl⟩⟩) | (go_at_call 96; refine (QbH.calls _ _ _ _ _ _ _ hav.out).mono ?_; rintro e w1 ⟨rfl, ⟨nd, rfl⟩⟩))
   all_goals go_ret2
   all_goals refine ⟨rm_end ?_, by repeat (first | exact Below.refl _ _ | apply Qaa | apply Qb2)⟩
   all_goals go_light
   ·exact if_pos (by omega)
   ·exact (if_neg (by omega)).trans (by rw [if_pos (by first | rfl | assumption)])
   ·exact (if_neg (by omega)).trans (by rw [if_neg (by first | (simp; done) | (simp; assumption))])
 ·have eq : rmQ Q R av = Q := by unfold rmQ; rw [if_neg (fun h => hR h.1)]
  rw [eq]; clear eq
  have hR' : R ≤ 0 := by omega
  clear hR
  go_enter Try.func58, Try.ntmps58
  go_wp2_with (first | (go_at_call 93; go_in) | (go_at_call 95; refine (Qbn.calls _ _ _ (QcU _ (by omega))).mono ?_; rintro e w1 ⟨rfl, ⟨nd, rfl⟩⟩) | (go_at_call 94; refine (QaB.calls 70 _ _ _ _ _ _ hQ.out).mono ?_; rintro e w1 ⟨rfl, ⟨nd, rfl⟩⟩) | (go_at_call 96; refine (QbH.calls _ _ _ _ _ _ _ hav.out).mono ?_; rintro e w1 ⟨rfl, ⟨nd, rfl⟩⟩))
  all_goals go_ret2
  all_goals refine ⟨rm_end ?_, by repeat (first | exact Below.refl _ _ | apply Qaa | apply Qb2)⟩
  all_goals go_light
  ·exact if_pos (by omega)
  ·exact (if_neg (by omega)).trans (by rw [if_pos (by first | rfl | assumption)])
  ·exact (if_neg (by omega)).trans (by rw [if_neg (by first | (simp; done) | (simp; assumption))])
theorem QfT (Q R c mode : Int) (bl : Bool) (h0 : 0 ≤ Q) (hR : 0 ≤ R) (hc : R < c) (hc' : c ≤ 1152921504606846976) (m1 : 1 ≤ mode) (m2 : mode ≤ 5) : QbH.f Q R c mode bl = some (mdAway mode bl Q R c) := by
 have hw : wrap64 (c - R) = c - R := by unfold wrap64; omega
 have ht : Int.tmod Q 2 = Q % 2 := Int.tmod_eq_emod_of_nonneg h0
 unfold QbH.f mdAway
 rw [hw, ht]
 obtain rfl | rfl | rfl | rfl | rfl : mode = 1 ∨ mode = 2 ∨ mode = 3 ∨ mode = 4 ∨ mode = 5 := by omega
 ·rfl
 ·rfl
 ·cases bl <;> rfl
 ·cases bl <;> rfl
 ·by_cases g1 : R > c - R
  ·rw [if_neg (by omega), if_neg (by omega), if_neg (by omega), if_pos rfl, if_pos g1, decide_eq_true (show c - R < R from g1)]; rfl
  ·rw [if_neg (by omega), if_neg (by omega), if_neg (by omega), if_pos rfl, if_neg g1, decide_eq_false (show ¬ c - R < R from g1)]
   by_cases g2 : R = c - R
   ·rw [if_pos g2, decide_eq_true g2]
    by_cases g3 : Q % 2 = 1
    ·rw [g3]; rfl
    ·rw [decide_eq_false g3, beq_eq_false_iff_ne.mpr g3]; rfl
   ·rw [if_neg g2, decide_eq_false g2]; rfl
def Qa5.f (a0 a1 a2 a3 : Int) : Option (Int × Int) := QaZ.f a0 a1 a2 a3
theorem Qa5.calls (a0 a1 a2 a3 r1 r2 : Int) (w : World) (h : Qa5.f a0 a1 a2 a3 = some (r1, r2)) :
  Calls Try.prog 58 #[.int .i64 a0, .int .i64 a1, .int .i64 a2, .int .i64 a3] w fun e w' => e = .returned (.tuple #[.int .i64 r1, .int .i64 r2]) ∧ Below w.heap.size w w' := by
 unfold Qa5.f QaZ.f at h
 by_cases c : mdFits a0 ∧ mdFits a1 ∧ mdFits a2 ∧ 1 ≤ a3 ∧ a3 ≤ 5
 ·rw [if_pos c] at h
  obtain ⟨⟨c1, c2⟩, ⟨c3, c4⟩, ⟨c5, c6⟩, c7, c8⟩ := c
  by_cases d : a2 = 0
  ·rw [if_pos d] at h
   have h' := Option.some.inj h
   simp only [Prod.mk.injEq] at h'
   obtain ⟨rfl, rfl⟩ := h'
   exact Qa5.z a0 a1 a2 a3 w c1 c2 c3 c4 c5 c6 (by simpa using d) c7 c8
  ·rw [if_neg d] at h
   have h' := Option.some.inj h
   have e1 : (mdRes a0 a1 a2 a3).1 = r1 := by rw [h']
   have e2 : (mdRes a0 a1 a2 a3).2 = r2 := by rw [h']
   rw [← e1, ← e2]
   have hq0 : 0 ≤ (a0.natAbs : Int) * a1.natAbs / a2.natAbs := Int.ediv_nonneg (Int.mul_nonneg (by omega) (by omega)) (by omega)
   have hr0 := Int.emod_nonneg ((a0.natAbs : Int) * a1.natAbs) (b := (a2.natAbs : Int)) (by omega)
   have hr1 := Int.emod_lt_of_pos ((a0.natAbs : Int) * a1.natAbs) (b := (a2.natAbs : Int)) (by omega)
   have eq := QaB.eq a0.natAbs a1.natAbs a2.natAbs (by omega) (by omega) (by omega) (by omega) (by omega) (by omega) 70 (by omega)
   have em : rmRes (rmQ (if (a0.natAbs : Int) * a1.natAbs / a2.natAbs ≤ 2305843009213693952 then (a0.natAbs : Int) * a1.natAbs / a2.natAbs else 2305843009213693952) ((a0.natAbs : Int) * a1.natAbs % a2.natAbs)
     (mdAway a3 (QbK a0 a1 a2) (if (a0.natAbs : Int) * a1.natAbs / a2.natAbs ≤ 2305843009213693952 then (a0.natAbs : Int) * a1.natAbs / a2.natAbs else 2305843009213693952) ((a0.natAbs : Int) * a1.natAbs % a2.natAbs) a2.natAbs)) (QbK a0 a1 a2) = mdRes a0 a1 a2 a3 := by
    by_cases g : (a0.natAbs : Int) * a1.natAbs / a2.natAbs ≤ 2305843009213693952
    ·rw [if_pos g]; rfl
    ·rw [if_neg g]
     unfold rmRes mdRes
     rw [if_pos (by unfold rmQ; split <;> omega), if_pos (by unfold mdQ; split <;> omega)]
   rw [← em]
   refine Qa5.main a0 a1 a2 a3 w c1 c2 c3 c4 c5 c6 (by simpa using d) c7 c8 _ _ _ _ rfl (Aside0.mk eq) (Aside0.mk (QfT _ _ _ _ _ ?_ hr0 hr1 (by omega) c7 c8)) ?_ ?_
   ·split <;> omega
   ·split <;> omega
   ·split <;> omega
 ·rw [if_neg c] at h
  have h' := Option.some.inj h
  simp only [Prod.mk.injEq] at h'
  obtain ⟨rfl, rfl⟩ := h'
  refine (Qa5.bad a0 a1 a2 a3 w c).mono ?_
  rintro e w' ⟨rfl, rfl⟩
  exact ⟨rfl, Below.refl _ _⟩
def Qav.l0 : Nat → ByteArray → Int → Option (Bool)
 | 0, _, _ => none
 | k + 1, x0, x3 => if x3 < (x0.size : Int) then (if 0 ≤ x3 then (if (bt x0 x3) ≥ 97 then (if ((bt x0 x3) ≤ 122) then (Qav.l0 k x0 (wrap64 (x3 + 1))) else (if x3 = 0 then (some false) else (if (bt x0 x3) < 48 then (some false) else (if (bt x0 x3) > 57 then (some false) else (Qav.l0 k x0 (wrap64 (x3 + 1))))))) else (if x3 = 0 then (some false) else (if (bt x0 x3) < 48 then (some false) else (if (bt x0 x3) > 57 then (some false) else (Qav.l0 k x0 (wrap64 (x3 + 1))))))) else (none)) else (if (x0.size : Int) > 0 then (some (decide ((x0.size : Int) ≤ 12))) else (some false))
def Qav.f (k : Nat) (a0 : ByteArray) : Option (Bool) := Qav.l0 k a0 0
theorem Qav.mono_l : ∀ k, (∀ y0 y1, LeO (Qav.l0 k y0 y1) (Qav.l0 (k + 1) y0 y1))
 | 0 => fun _ _ r h => by simp [Qav.l0] at h
 | k + 1 => by
  have ih0 := Qav.mono_l k
  ·intro y0 y1
   unfold Qav.l0
   repeat' first
   | (with_reducible exact ih0 _ _)
   | (with_reducible exact LeO.refl _)
   | (with_reducible exact LeO.none _)
   | (with_reducible refine LeO.ite ?_ ?_)
   | (with_reducible refine LeO.bind ?_ (fun _ => ?_))
   | exact ih0 _ _
   | exact LeO.none _
   | refine LeO.ite ?_ ?_
   | refine LeO.bind ?_ (fun _ => ?_)
theorem Qav.mono : ∀ a0 k, LeO (Qav.f k a0) (Qav.f (k + 1) a0) := by
 intro a0 k
 have ih0 := Qav.mono_l k
 unfold Qav.f
 repeat' first
   | (with_reducible exact ih0 _ _)
   | (with_reducible exact LeO.refl _)
   | (with_reducible exact LeO.none _)
   | (with_reducible refine LeO.ite ?_ ?_)
   | (with_reducible refine LeO.bind ?_ (fun _ => ?_))
   | exact ih0 _ _
   | exact LeO.none _
   | refine LeO.ite ?_ ?_
   | refine LeO.bind ?_ (fun _ => ?_)
set_option maxHeartbeats 8000000 in
set_option maxRecDepth 100000 in
theorem Qav.calls (k : Nat) (a0 : ByteArray) (r : Bool) (w : World) (h : Qav.f k a0 = some r) :
  Calls Try.prog 99 #[.string a0] w fun e w' => e = .returned (.bool r) ∧ Drawn0 w w' := by
 have H : (Qav.l0 k a0 0) = some r := h
 clear h
 have H' := Aside0.mk H
 clear H
 go_enter Try.func99, Try.ntmps99
 go_wp2
 go_loopg [3] k (fun kq v3 w' => ∃ (x3_1 : Int), v3 = .int .i64 x3_1 ∧ Aside0 (Qav.l0 kq a0 x3_1 = some r) ∧ Aside0 (kq ≤ k) ∧ Drawn0 w w')
 case atStart => exact ⟨(0), (Zs), H', ⟨Nat.le_refl _⟩, by repeat (first | exact Drawn0.refl _ | apply Drawn0.step)⟩
 case round =>
  clear H'
  obtain ⟨x3_1, rfl, HA, HK1, ⟨m1, rfl⟩⟩ := hrel
  cases gk with
  | zero => exact absurd HA.out (by simp [Qav.l0])
  | succ k1 =>
   have H := HA.out
   clear HA
   simp only [Qav.l0] at H
   by_cases c2 : x3_1 < (a0.size : Int)
   ·rw [if_pos c2] at H
    have c2b0 : decide (x3_1 < (a0.size : Int)) = true := decide_eq_true c2
    clear c2
    (try simp only [c2b0])
    by_cases c3 : 0 ≤ x3_1
    ·rw [if_pos c3] at H
     have c3b0 : decide (0 ≤ x3_1) = true := decide_eq_true c3
     clear c3
     by_cases c5 : (bt a0 x3_1) ≥ 97
     ·rw [if_pos c5] at H
      have c5b0 : decide (97 ≤ (bt a0 x3_1)) = true := decide_eq_true c5
      clear c5
      have p4 : 0 ≤ (x3_1 : Int) := Ze
      have q4 : x3_1 < (a0.size : Int) := Ze
      have hx4 := bt_at a0 x3_1
      replace p4 := eq_true p4
      replace q4 := eq_true q4
      have p6 : 0 ≤ (x3_1 : Int) := Ze
      have q6 : x3_1 < (a0.size : Int) := Ze
      have hx6 := bt_at a0 x3_1
      replace p6 := eq_true p6
      replace q6 := eq_true q6
      go_upto_region 5 with (fail)
      by_cases c7 : ((bt a0 x3_1) ≤ 122)
      ·rw [if_pos c7] at H
       have c7b0 : decide ((bt a0 x3_1) ≤ 122) = true := decide_eq_true c7
       clear c7
       (try simp only [c7b0])
       have H' := Aside0.mk H
       clear H
       go_wp2
       go_roundg k1
       case measure => have := HK1.out; omega
       case rel => exact ⟨(wrap64 (x3_1 + 1)), (Zs), H', ⟨by have := HK1.out; omega⟩, by repeat (first | exact Drawn0.refl _ | apply Drawn0.step)⟩
      ·rw [if_neg c7] at H
       have c7b0 : decide ((bt a0 x3_1) ≤ 122) = false := decide_eq_false c7
       clear c7
       (try simp only [c7b0])
       by_cases c8 : x3_1 = 0
       ·rw [if_pos c8] at H
        have c8b0 : (x3_1 == 0) = true := beq_iff_eq.mpr c8
        have c8b1 : (x3_1 != 0) = false := bne_eq_false_iff_eq.mpr c8
        clear c8
        obtain rfl := Option.some.inj H
        go_wp2
        go_ret
        exact ⟨Zs, by repeat (first | exact Drawn0.refl _ | apply Drawn0.step)⟩
       ·rw [if_neg c8] at H
        have c8b0 : (x3_1 == 0) = false := beq_eq_false_iff_ne.mpr c8
        have c8b1 : (x3_1 != 0) = true := bne_iff_ne.mpr c8
        by_cases c10 : (bt a0 x3_1) < 48
        ·rw [if_pos c10] at H
         have c10b0 : decide ((bt a0 x3_1) < 48) = true := decide_eq_true c10
         clear c10
         obtain rfl := Option.some.inj H
         have p9 : 0 ≤ (x3_1 : Int) := Ze
         have q9 : x3_1 < (a0.size : Int) := Ze
         have hx9 := bt_at a0 x3_1
         replace p9 := eq_true p9
         replace q9 := eq_true q9
         go_wp2
         go_ret
         exact ⟨Zs, by repeat (first | exact Drawn0.refl _ | apply Drawn0.step)⟩
        ·rw [if_neg c10] at H
         have c10b0 : decide ((bt a0 x3_1) < 48) = false := decide_eq_false c10
         clear c10
         have p9 : 0 ≤ (x3_1 : Int) := Ze
         have q9 : x3_1 < (a0.size : Int) := Ze
         have hx9 := bt_at a0 x3_1
         replace p9 := eq_true p9
         replace q9 := eq_true q9
         have p11 : 0 ≤ (x3_1 : Int) := Ze
         have q11 : x3_1 < (a0.size : Int) := Ze
         have hx11 := bt_at a0 x3_1
         replace p11 := eq_true p11
         replace q11 := eq_true q11
         go_upto_if 38 with (fail)
         by_cases c12 : (bt a0 x3_1) > 57
         ·rw [if_pos c12] at H
          have c12b0 : decide (57 < (bt a0 x3_1)) = true := decide_eq_true c12
          clear c12
          (try simp only [c12b0])
          obtain rfl := Option.some.inj H
          go_wp2
          go_ret
          exact ⟨Zs, by repeat (first | exact Drawn0.refl _ | apply Drawn0.step)⟩
         ·rw [if_neg c12] at H
          have c12b0 : decide (57 < (bt a0 x3_1)) = false := decide_eq_false c12
          clear c12
          (try simp only [c12b0])
          have H' := Aside0.mk H
          clear H
          go_wp2
          go_roundg k1
          case measure => have := HK1.out; omega
          case rel => exact ⟨(wrap64 (x3_1 + 1)), (Zs), H', ⟨by have := HK1.out; omega⟩, by repeat (first | exact Drawn0.refl _ | apply Drawn0.step)⟩
     ·rw [if_neg c5] at H
      have c5b0 : decide (97 ≤ (bt a0 x3_1)) = false := decide_eq_false c5
      clear c5
      have p4 : 0 ≤ (x3_1 : Int) := Ze
      have q4 : x3_1 < (a0.size : Int) := Ze
      have hx4 := bt_at a0 x3_1
      replace p4 := eq_true p4
      replace q4 := eq_true q4
      go_upto_region 5 with (fail)
      by_cases c13 : x3_1 = 0
      ·rw [if_pos c13] at H
       have c13b0 : (x3_1 == 0) = true := beq_iff_eq.mpr c13
       have c13b1 : (x3_1 != 0) = false := bne_eq_false_iff_eq.mpr c13
       clear c13
       (try simp only [c13b0, c13b1])
       obtain rfl := Option.some.inj H
       go_wp2
       go_ret
       exact ⟨Zs, by repeat (first | exact Drawn0.refl _ | apply Drawn0.step)⟩
      ·rw [if_neg c13] at H
       have c13b0 : (x3_1 == 0) = false := beq_eq_false_iff_ne.mpr c13
       have c13b1 : (x3_1 != 0) = true := bne_iff_ne.mpr c13
       (try simp only [c13b0, c13b1])
       by_cases c15 : (bt a0 x3_1) < 48
       ·rw [if_pos c15] at H
        have c15b0 : decide ((bt a0 x3_1) < 48) = true := decide_eq_true c15
        clear c15
        obtain rfl := Option.some.inj H
        have p14 : 0 ≤ (x3_1 : Int) := Ze
        have q14 : x3_1 < (a0.size : Int) := Ze
        have hx14 := bt_at a0 x3_1
        replace p14 := eq_true p14
        replace q14 := eq_true q14
        go_wp2
        go_ret
        exact ⟨Zs, by repeat (first | exact Drawn0.refl _ | apply Drawn0.step)⟩
       ·rw [if_neg c15] at H
        have c15b0 : decide ((bt a0 x3_1) < 48) = false := decide_eq_false c15
        clear c15
        have p14 : 0 ≤ (x3_1 : Int) := Ze
        have q14 : x3_1 < (a0.size : Int) := Ze
        have hx14 := bt_at a0 x3_1
        replace p14 := eq_true p14
        replace q14 := eq_true q14
        have p16 : 0 ≤ (x3_1 : Int) := Ze
        have q16 : x3_1 < (a0.size : Int) := Ze
        have hx16 := bt_at a0 x3_1
        replace p16 := eq_true p16
        replace q16 := eq_true q16
        go_upto_if 38 with (fail)
        by_cases c17 : (bt a0 x3_1) > 57
        ·rw [if_pos c17] at H
         have c17b0 : decide (57 < (bt a0 x3_1)) = true := decide_eq_true c17
         clear c17
         (try simp only [c17b0])
         obtain rfl := Option.some.inj H
         go_wp2
         go_ret
         exact ⟨Zs, by repeat (first | exact Drawn0.refl _ | apply Drawn0.step)⟩
        ·rw [if_neg c17] at H
         have c17b0 : decide (57 < (bt a0 x3_1)) = false := decide_eq_false c17
         clear c17
         (try simp only [c17b0])
         have H' := Aside0.mk H
         clear H
         go_wp2
         go_roundg k1
         case measure => have := HK1.out; omega
         case rel => exact ⟨(wrap64 (x3_1 + 1)), (Zs), H', ⟨by have := HK1.out; omega⟩, by repeat (first | exact Drawn0.refl _ | apply Drawn0.step)⟩
    ·rw [if_neg c3] at H
     exact absurd H (by simp)
   ·rw [if_neg c2] at H
    have c2b0 : decide (x3_1 < (a0.size : Int)) = false := decide_eq_false c2
    clear c2
    (try simp only [c2b0])
    by_cases c18 : (a0.size : Int) > 0
    ·rw [if_pos c18] at H
     have c18b0 : decide (0 < (a0.size : Int)) = true := decide_eq_true c18
     have c18b1 : decide (0 < a0.size) = true := decide_eq_true (by omega)
     clear c18
     obtain rfl := Option.some.inj H
     go_wp2
     go_ret
     exact ⟨Zs, by repeat (first | exact Drawn0.refl _ | apply Drawn0.step)⟩
    ·rw [if_neg c18] at H
     have c18b0 : decide (0 < (a0.size : Int)) = false := decide_eq_false c18
     have c18b1 : decide (0 < a0.size) = false := decide_eq_false (by omega)
     clear c18
     obtain rfl := Option.some.inj H
     go_wp2
     go_ret
     exact ⟨Zs, by repeat (first | exact Drawn0.refl _ | apply Drawn0.step)⟩
def Qbb.f (k : Nat) (a0_0 : ByteArray) (a0_1 : Int) (a0_2 : Int) (a0_3 : Int) (a0_4 : Int) (a0_5 : Int) : Option (Int) := (Qav.f k a0_0).bind fun t342 => (if t342 = true then ((Qal.f a0_1 1 3).bind fun t343 => (if t343 = true then ((Qal.f a0_2 0 7).bind fun t344 => (if t344 = true then ((Qal.f a0_3 1 68719476736).bind fun t345 => (if t345 = true then (if a0_1 = 1 then (if a0_3 = 1 then ((Qal.f a0_4 0 1000).bind fun t346 => (if t346 = true then ((Qal.f a0_5 0 1000).bind fun t347 => (if t347 = true then (some 0) else (some 2))) else (some 2))) else (some 2)) else ((Qal.f a0_4 0 1000).bind fun t348 => (if t348 = true then ((Qal.f a0_5 0 1000).bind fun t349 => (if t349 = true then (some 0) else (some 2))) else (some 2)))) else (some 2))) else (some 25))) else (some 2))) else (some 10))
theorem Qbb.mono : ∀ a0 a1 a2 a3 a4 a5 k, LeO (Qbb.f k a0 a1 a2 a3 a4 a5) (Qbb.f (k + 1) a0 a1 a2 a3 a4 a5) := by
 intro a0 a1 a2 a3 a4 a5 k
 unfold Qbb.f
 repeat' first
   | (with_reducible exact Qav.mono _ _)
   | (with_reducible exact LeO.refl _)
   | (with_reducible exact LeO.none _)
   | (with_reducible refine LeO.ite ?_ ?_)
   | (with_reducible refine LeO.bind ?_ (fun _ => ?_))
   | exact Qav.mono _ _
   | exact LeO.none _
   | refine LeO.ite ?_ ?_
   | refine LeO.bind ?_ (fun _ => ?_)
set_option maxHeartbeats 8000000 in
set_option maxRecDepth 100000 in
theorem Qbb.calls (k : Nat) (a0_0 : ByteArray) (a0_1 : Int) (a0_2 : Int) (a0_3 : Int) (a0_4 : Int) (a0_5 : Int) (r : Int) (w : World) (h : Qbb.f k a0_0 a0_1 a0_2 a0_3 a0_4 a0_5 = some r) :
  Calls Try.prog 102 #[.agg #[.string a0_0, .int .i64 a0_1, .int .i64 a0_2, .int .i64 a0_3, .int .i64 a0_4, .int .i64 a0_5]] w fun e w' => e = .returned (.int .i64 r) ∧ Below w.heap.size w w' := by
 have hu84 := Try.underlying84
 have HB := Aside0.mk (Below.refl w.heap.size w)
 have H : ((Qav.f k a0_0).bind fun t342 => (if t342 = true then ((Qal.f a0_1 1 3).bind fun t343 => (if t343 = true then ((Qal.f a0_2 0 7).bind fun t344 => (if t344 = true then ((Qal.f a0_3 1 68719476736).bind fun t345 => (if t345 = true then (if a0_1 = 1 then (if a0_3 = 1 then ((Qal.f a0_4 0 1000).bind fun t346 => (if t346 = true then ((Qal.f a0_5 0 1000).bind fun t347 => (if t347 = true then (some 0) else (some 2))) else (some 2))) else (some 2)) else ((Qal.f a0_4 0 1000).bind fun t348 => (if t348 = true then ((Qal.f a0_5 0 1000).bind fun t349 => (if t349 = true then (some 0) else (some 2))) else (some 2)))) else (some 2))) else (some 25))) else (some 2))) else (some 10))) = some r := h
 clear h
 replace H := Option.bind_eq_some_iff.mp H
 obtain ⟨t342, A20, H⟩ := H
 replace H : (if t342 = true then ((Qal.f a0_1 1 3).bind fun t343 => (if t343 = true then ((Qal.f a0_2 0 7).bind fun t344 => (if t344 = true then ((Qal.f a0_3 1 68719476736).bind fun t345 => (if t345 = true then (if a0_1 = 1 then (if a0_3 = 1 then ((Qal.f a0_4 0 1000).bind fun t346 => (if t346 = true then ((Qal.f a0_5 0 1000).bind fun t347 => (if t347 = true then (some 0) else (some 2))) else (some 2))) else (some 2)) else ((Qal.f a0_4 0 1000).bind fun t348 => (if t348 = true then ((Qal.f a0_5 0 1000).bind fun t349 => (if t349 = true then (some 0) else (some 2))) else (some 2)))) else (some 2))) else (some 25))) else (some 2))) else (some 10)) = some r := H
 have A2 := Aside0.mk A20
 clear A20
 go_enter Try.func102, Try.ntmps102
 go_upto_if 3 with (first | ((with_reducible refine QaW (N := 1) rfl ?_); refine Qa2 ?hg (N := 1) ?hd (cs := #[.string a0_0, .int .i64 a0_1, .int .i64 a0_2, .int .i64 a0_3, .int .i64 a0_4, .int .i64 a0_5]) (t := 84) ?hr ?_; (case hd => rfl); (case hg => rfl); (case hr => first | (go_simp; done) | (go_simp; rfl)); intro gb341 hg w3 hbox hb; have n0_ := Aside0.mk (Qao (Zb) hb); have n1_ := Aside0.mk (hbox); have n2_ := Aside0.mk ((by rw [hg]; exact (Qam (Zb)) : w.heap.size ≤ gb341)); have n3_ := Aside0.mk ((by rw [hg]; exact (Qam (Zb)) : w.heap.size ≤ gb341)); clear HB; have HB := n0_; have BK341 := n1_; have GW341 := n2_; have GE341 := n3_; clear n0_ n1_ n2_ n3_; clear hb hbox hg; have hcz4_0 : w3.cell? ⟨gb341, 0, none⟩ = some (.string a0_0) := (Qai BK341.out 0).trans rfl; have hcz4_1 : w3.cell? ⟨gb341, 1, none⟩ = some (.int .i64 a0_1) := (Qai BK341.out 1).trans rfl; have hcz4_2 : w3.cell? ⟨gb341, 2, none⟩ = some (.int .i64 a0_2) := (Qai BK341.out 2).trans rfl; have hcz4_3 : w3.cell? ⟨gb341, 3, none⟩ = some (.int .i64 a0_3) := (Qai BK341.out 3).trans rfl; have hcz4_4 : w3.cell? ⟨gb341, 4, none⟩ = some (.int .i64 a0_4) := (Qai BK341.out 4).trans rfl; have hcz4_5 : w3.cell? ⟨gb341, 5, none⟩ = some (.int .i64 a0_5) := (Qai BK341.out 5).trans rfl; have hfz4_0 := Qah BK341.out 0; have hfz4_1 := Qah BK341.out 1; have hfz4_2 := Qah BK341.out 2; have hfz4_3 := Qah BK341.out 3; have hfz4_4 := Qah BK341.out 4; have hfz4_5 := Qah BK341.out 5) | ((with_reducible refine Qaw (f := 99) rfl ?_); refine goesL_ (some 6) rfl rfl Try.func99 (by kernel_rfl) rfl #[.string a0_0] rfl (Zl) ?_; (with_reducible refine (Qav.calls k a0_0 t342 _ A2.out).mono ?_); rintro e w' ⟨rfl, ⟨nd, rfl⟩⟩; refine ⟨_, rfl, ?_⟩))
 (try simp only [Act.put, List.setIfInBounds_toArray, List.set_cons_zero, List.set_cons_succ])
 by_cases c5 : t342 = true
 ·subst c5
  have H1 : ((Qal.f a0_1 1 3).bind fun t343 => (if t343 = true then ((Qal.f a0_2 0 7).bind fun t344 => (if t344 = true then ((Qal.f a0_3 1 68719476736).bind fun t345 => (if t345 = true then (if a0_1 = 1 then (if a0_3 = 1 then ((Qal.f a0_4 0 1000).bind fun t346 => (if t346 = true then ((Qal.f a0_5 0 1000).bind fun t347 => (if t347 = true then (some 0) else (some 2))) else (some 2))) else (some 2)) else ((Qal.f a0_4 0 1000).bind fun t348 => (if t348 = true then ((Qal.f a0_5 0 1000).bind fun t349 => (if t349 = true then (some 0) else (some 2))) else (some 2)))) else (some 2))) else (some 25))) else (some 2))) = some r := by rw [if_pos rfl] at H; exact H
  clear H
  have H := H1
  clear H1
  replace H := Option.bind_eq_some_iff.mp H
  obtain ⟨t343, A60, H⟩ := H
  replace H : (if t343 = true then ((Qal.f a0_2 0 7).bind fun t344 => (if t344 = true then ((Qal.f a0_3 1 68719476736).bind fun t345 => (if t345 = true then (if a0_1 = 1 then (if a0_3 = 1 then ((Qal.f a0_4 0 1000).bind fun t346 => (if t346 = true then ((Qal.f a0_5 0 1000).bind fun t347 => (if t347 = true then (some 0) else (some 2))) else (some 2))) else (some 2)) else ((Qal.f a0_4 0 1000).bind fun t348 => (if t348 = true then ((Qal.f a0_5 0 1000).bind fun t349 => (if t349 = true then (some 0) else (some 2))) else (some 2)))) else (some 2))) else (some 25))) else (some 2)) = some r := H
  have A6 := Aside0.mk A60
  clear A60
  have hcz7_0 : w3.cell? ⟨gb341, 0, none⟩ = some (.string a0_0) := (Qai BK341.out 0).trans rfl
  have hcz7_1 : w3.cell? ⟨gb341, 1, none⟩ = some (.int .i64 a0_1) := (Qai BK341.out 1).trans rfl
  have hcz7_2 : w3.cell? ⟨gb341, 2, none⟩ = some (.int .i64 a0_2) := (Qai BK341.out 2).trans rfl
  have hcz7_3 : w3.cell? ⟨gb341, 3, none⟩ = some (.int .i64 a0_3) := (Qai BK341.out 3).trans rfl
  have hcz7_4 : w3.cell? ⟨gb341, 4, none⟩ = some (.int .i64 a0_4) := (Qai BK341.out 4).trans rfl
  have hcz7_5 : w3.cell? ⟨gb341, 5, none⟩ = some (.int .i64 a0_5) := (Qai BK341.out 5).trans rfl
  have hfz7_0 := Qah BK341.out 0
  have hfz7_1 := Qah BK341.out 1
  have hfz7_2 := Qah BK341.out 2
  have hfz7_3 := Qah BK341.out 3
  have hfz7_4 := Qah BK341.out 4
  have hfz7_5 := Qah BK341.out 5
  go_upto_if 8 with (first | ((with_reducible refine Qaw (f := 104) rfl ?_); refine goesL_ (some 11) rfl rfl Try.func104 (by kernel_rfl) rfl #[.int .i64 a0_1, .int .i64 1, .int .i64 3] rfl (Zl) ?_; (with_reducible refine (Qal.calls a0_1 1 3 t343 _ A6.out).mono ?_); rintro e w' ⟨rfl, ⟨nd, rfl⟩⟩; refine ⟨_, rfl, ?_⟩))
  (try simp only [Act.put, List.setIfInBounds_toArray, List.set_cons_zero, List.set_cons_succ])
  by_cases c8 : t343 = true
  ·subst c8
   have H1 : ((Qal.f a0_2 0 7).bind fun t344 => (if t344 = true then ((Qal.f a0_3 1 68719476736).bind fun t345 => (if t345 = true then (if a0_1 = 1 then (if a0_3 = 1 then ((Qal.f a0_4 0 1000).bind fun t346 => (if t346 = true then ((Qal.f a0_5 0 1000).bind fun t347 => (if t347 = true then (some 0) else (some 2))) else (some 2))) else (some 2)) else ((Qal.f a0_4 0 1000).bind fun t348 => (if t348 = true then ((Qal.f a0_5 0 1000).bind fun t349 => (if t349 = true then (some 0) else (some 2))) else (some 2)))) else (some 2))) else (some 25))) = some r := by rw [if_pos rfl] at H; exact H
   clear H
   have H := H1
   clear H1
   replace H := Option.bind_eq_some_iff.mp H
   obtain ⟨t344, A90, H⟩ := H
   replace H : (if t344 = true then ((Qal.f a0_3 1 68719476736).bind fun t345 => (if t345 = true then (if a0_1 = 1 then (if a0_3 = 1 then ((Qal.f a0_4 0 1000).bind fun t346 => (if t346 = true then ((Qal.f a0_5 0 1000).bind fun t347 => (if t347 = true then (some 0) else (some 2))) else (some 2))) else (some 2)) else ((Qal.f a0_4 0 1000).bind fun t348 => (if t348 = true then ((Qal.f a0_5 0 1000).bind fun t349 => (if t349 = true then (some 0) else (some 2))) else (some 2)))) else (some 2))) else (some 25)) = some r := H
   have A9 := Aside0.mk A90
   clear A90
   have hcz10_0 : w3.cell? ⟨gb341, 0, none⟩ = some (.string a0_0) := (Qai BK341.out 0).trans rfl
   have hcz10_1 : w3.cell? ⟨gb341, 1, none⟩ = some (.int .i64 a0_1) := (Qai BK341.out 1).trans rfl
   have hcz10_2 : w3.cell? ⟨gb341, 2, none⟩ = some (.int .i64 a0_2) := (Qai BK341.out 2).trans rfl
   have hcz10_3 : w3.cell? ⟨gb341, 3, none⟩ = some (.int .i64 a0_3) := (Qai BK341.out 3).trans rfl
   have hcz10_4 : w3.cell? ⟨gb341, 4, none⟩ = some (.int .i64 a0_4) := (Qai BK341.out 4).trans rfl
   have hcz10_5 : w3.cell? ⟨gb341, 5, none⟩ = some (.int .i64 a0_5) := (Qai BK341.out 5).trans rfl
   have hfz10_0 := Qah BK341.out 0
   have hfz10_1 := Qah BK341.out 1
   have hfz10_2 := Qah BK341.out 2
   have hfz10_3 := Qah BK341.out 3
   have hfz10_4 := Qah BK341.out 4
   have hfz10_5 := Qah BK341.out 5
   go_upto_if 13 with (first | ((with_reducible refine Qaw (f := 104) rfl ?_); refine goesL_ (some 16) rfl rfl Try.func104 (by kernel_rfl) rfl #[.int .i64 a0_2, .int .i64 0, .int .i64 7] rfl (Zl) ?_; (with_reducible refine (Qal.calls a0_2 0 7 t344 _ A9.out).mono ?_); rintro e w' ⟨rfl, ⟨nd, rfl⟩⟩; refine ⟨_, rfl, ?_⟩))
   (try simp only [Act.put, List.setIfInBounds_toArray, List.set_cons_zero, List.set_cons_succ])
   by_cases c11 : t344 = true
   ·subst c11
    have H1 : ((Qal.f a0_3 1 68719476736).bind fun t345 => (if t345 = true then (if a0_1 = 1 then (if a0_3 = 1 then ((Qal.f a0_4 0 1000).bind fun t346 => (if t346 = true then ((Qal.f a0_5 0 1000).bind fun t347 => (if t347 = true then (some 0) else (some 2))) else (some 2))) else (some 2)) else ((Qal.f a0_4 0 1000).bind fun t348 => (if t348 = true then ((Qal.f a0_5 0 1000).bind fun t349 => (if t349 = true then (some 0) else (some 2))) else (some 2)))) else (some 2))) = some r := by rw [if_pos rfl] at H; exact H
    clear H
    have H := H1
    clear H1
    replace H := Option.bind_eq_some_iff.mp H
    obtain ⟨t345, A120, H⟩ := H
    replace H : (if t345 = true then (if a0_1 = 1 then (if a0_3 = 1 then ((Qal.f a0_4 0 1000).bind fun t346 => (if t346 = true then ((Qal.f a0_5 0 1000).bind fun t347 => (if t347 = true then (some 0) else (some 2))) else (some 2))) else (some 2)) else ((Qal.f a0_4 0 1000).bind fun t348 => (if t348 = true then ((Qal.f a0_5 0 1000).bind fun t349 => (if t349 = true then (some 0) else (some 2))) else (some 2)))) else (some 2)) = some r := H
    have A12 := Aside0.mk A120
    clear A120
    by_cases c13 : t345 = true
    ·subst c13
     have H1 : (if a0_1 = 1 then (if a0_3 = 1 then ((Qal.f a0_4 0 1000).bind fun t346 => (if t346 = true then ((Qal.f a0_5 0 1000).bind fun t347 => (if t347 = true then (some 0) else (some 2))) else (some 2))) else (some 2)) else ((Qal.f a0_4 0 1000).bind fun t348 => (if t348 = true then ((Qal.f a0_5 0 1000).bind fun t349 => (if t349 = true then (some 0) else (some 2))) else (some 2)))) = some r := by rw [if_pos rfl] at H; exact H
     clear H
     have H := H1
     clear H1
     by_cases c14 : a0_1 = 1
     ·rw [if_pos c14] at H
      have c14b0 : (a0_1 == 1) = true := beq_iff_eq.mpr c14
      have c14b1 : (a0_1 != 1) = false := bne_eq_false_iff_eq.mpr c14
      clear c14
      by_cases c15 : a0_3 = 1
      ·rw [if_pos c15] at H
       have c15b0 : (a0_3 == 1) = true := beq_iff_eq.mpr c15
       have c15b1 : (a0_3 != 1) = false := bne_eq_false_iff_eq.mpr c15
       clear c15
       replace H := Option.bind_eq_some_iff.mp H
       obtain ⟨t346, A160, H⟩ := H
       replace H : (if t346 = true then ((Qal.f a0_5 0 1000).bind fun t347 => (if t347 = true then (some 0) else (some 2))) else (some 2)) = some r := H
       have A16 := Aside0.mk A160
       clear A160
       by_cases c17 : t346 = true
       ·subst c17
        have H1 : ((Qal.f a0_5 0 1000).bind fun t347 => (if t347 = true then (some 0) else (some 2))) = some r := by rw [if_pos rfl] at H; exact H
        clear H
        have H := H1
        clear H1
        replace H := Option.bind_eq_some_iff.mp H
        obtain ⟨t347, A180, H⟩ := H
        replace H : (if t347 = true then (some 0) else (some 2)) = some r := H
        have A18 := Aside0.mk A180
        clear A180
        have hcz19_0 : w3.cell? ⟨gb341, 0, none⟩ = some (.string a0_0) := (Qai BK341.out 0).trans rfl
        have hcz19_1 : w3.cell? ⟨gb341, 1, none⟩ = some (.int .i64 a0_1) := (Qai BK341.out 1).trans rfl
        have hcz19_2 : w3.cell? ⟨gb341, 2, none⟩ = some (.int .i64 a0_2) := (Qai BK341.out 2).trans rfl
        have hcz19_3 : w3.cell? ⟨gb341, 3, none⟩ = some (.int .i64 a0_3) := (Qai BK341.out 3).trans rfl
        have hcz19_4 : w3.cell? ⟨gb341, 4, none⟩ = some (.int .i64 a0_4) := (Qai BK341.out 4).trans rfl
        have hcz19_5 : w3.cell? ⟨gb341, 5, none⟩ = some (.int .i64 a0_5) := (Qai BK341.out 5).trans rfl
        have hfz19_0 := Qah BK341.out 0
        have hfz19_1 := Qah BK341.out 1
        have hfz19_2 := Qah BK341.out 2
        have hfz19_3 := Qah BK341.out 3
        have hfz19_4 := Qah BK341.out 4
        have hfz19_5 := Qah BK341.out 5
        go_upto_if 18 with (first | ((with_reducible refine Qaw (f := 104) rfl ?_); refine goesL_ (some 21) rfl rfl Try.func104 (by kernel_rfl) rfl #[.int .i64 a0_3, .int .i64 1, .int .i64 68719476736] rfl (Zl) ?_; (with_reducible refine (Qal.calls a0_3 1 68719476736 true _ A12.out).mono ?_); rintro e w' ⟨rfl, ⟨nd, rfl⟩⟩; refine ⟨_, rfl, ?_⟩) | (go_at_call 104; (with_reducible refine (Qal.calls a0_4 0 1000 true _ A16.out).mono ?_); rintro e w' ⟨rfl, ⟨nd, rfl⟩⟩) | (go_at_call 104; (with_reducible refine (Qal.calls a0_5 0 1000 t347 _ A18.out).mono ?_); rintro e w' ⟨rfl, ⟨nd, rfl⟩⟩))
        (try simp only [Act.put, List.setIfInBounds_toArray, List.set_cons_zero, List.set_cons_succ])
        by_cases c20 : t347 = true
        ·subst c20
         have H1 : (some 0) = some r := by rw [if_pos rfl] at H; exact H
         clear H
         have H := H1
         clear H1
         obtain rfl := Option.some.inj H
         go_wp2
         go_ret
         exact ⟨Zq, Zc1 GE341.out⟩
        ·replace c20 := Bool.eq_false_iff.mpr c20
         subst c20
         have H1 : (some 2) = some r := by rw [if_neg (show ¬ (false = true) by decide)] at H; exact H
         clear H
         have H := H1
         clear H1
         obtain rfl := Option.some.inj H
         go_wp2
         go_ret
         exact ⟨Zq, Zc1 GE341.out⟩
       ·replace c17 := Bool.eq_false_iff.mpr c17
        subst c17
        have H1 : (some 2) = some r := by rw [if_neg (show ¬ (false = true) by decide)] at H; exact H
        clear H
        have H := H1
        clear H1
        obtain rfl := Option.some.inj H
        have hcz21_0 : w3.cell? ⟨gb341, 0, none⟩ = some (.string a0_0) := (Qai BK341.out 0).trans rfl
        have hcz21_1 : w3.cell? ⟨gb341, 1, none⟩ = some (.int .i64 a0_1) := (Qai BK341.out 1).trans rfl
        have hcz21_2 : w3.cell? ⟨gb341, 2, none⟩ = some (.int .i64 a0_2) := (Qai BK341.out 2).trans rfl
        have hcz21_3 : w3.cell? ⟨gb341, 3, none⟩ = some (.int .i64 a0_3) := (Qai BK341.out 3).trans rfl
        have hcz21_4 : w3.cell? ⟨gb341, 4, none⟩ = some (.int .i64 a0_4) := (Qai BK341.out 4).trans rfl
        have hcz21_5 : w3.cell? ⟨gb341, 5, none⟩ = some (.int .i64 a0_5) := (Qai BK341.out 5).trans rfl
        have hfz21_0 := Qah BK341.out 0
        have hfz21_1 := Qah BK341.out 1
        have hfz21_2 := Qah BK341.out 2
        have hfz21_3 := Qah BK341.out 3
        have hfz21_4 := Qah BK341.out 4
        have hfz21_5 := Qah BK341.out 5
        go_wp2_with (first | ((with_reducible refine Qaw (f := 104) rfl ?_); refine goesL_ (some 21) rfl rfl Try.func104 (by kernel_rfl) rfl #[.int .i64 a0_3, .int .i64 1, .int .i64 68719476736] rfl (Zl) ?_; (with_reducible refine (Qal.calls a0_3 1 68719476736 true _ A12.out).mono ?_); rintro e w' ⟨rfl, ⟨nd, rfl⟩⟩; refine ⟨_, rfl, ?_⟩) | (go_at_call 104; (with_reducible refine (Qal.calls a0_4 0 1000 false _ A16.out).mono ?_); rintro e w' ⟨rfl, ⟨nd, rfl⟩⟩))
        go_ret
        exact ⟨Zq, Zc1 GE341.out⟩
      ·rw [if_neg c15] at H
       have c15b0 : (a0_3 == 1) = false := beq_eq_false_iff_ne.mpr c15
       have c15b1 : (a0_3 != 1) = true := bne_iff_ne.mpr c15
       obtain rfl := Option.some.inj H
       have hcz22_0 : w3.cell? ⟨gb341, 0, none⟩ = some (.string a0_0) := (Qai BK341.out 0).trans rfl
       have hcz22_1 : w3.cell? ⟨gb341, 1, none⟩ = some (.int .i64 a0_1) := (Qai BK341.out 1).trans rfl
       have hcz22_2 : w3.cell? ⟨gb341, 2, none⟩ = some (.int .i64 a0_2) := (Qai BK341.out 2).trans rfl
       have hcz22_3 : w3.cell? ⟨gb341, 3, none⟩ = some (.int .i64 a0_3) := (Qai BK341.out 3).trans rfl
       have hcz22_4 : w3.cell? ⟨gb341, 4, none⟩ = some (.int .i64 a0_4) := (Qai BK341.out 4).trans rfl
       have hcz22_5 : w3.cell? ⟨gb341, 5, none⟩ = some (.int .i64 a0_5) := (Qai BK341.out 5).trans rfl
       have hfz22_0 := Qah BK341.out 0
       have hfz22_1 := Qah BK341.out 1
       have hfz22_2 := Qah BK341.out 2
       have hfz22_3 := Qah BK341.out 3
       have hfz22_4 := Qah BK341.out 4
       have hfz22_5 := Qah BK341.out 5
       go_wp2_with (first | ((with_reducible refine Qaw (f := 104) rfl ?_); refine goesL_ (some 21) rfl rfl Try.func104 (by kernel_rfl) rfl #[.int .i64 a0_3, .int .i64 1, .int .i64 68719476736] rfl (Zl) ?_; (with_reducible refine (Qal.calls a0_3 1 68719476736 true _ A12.out).mono ?_); rintro e w' ⟨rfl, ⟨nd, rfl⟩⟩; refine ⟨_, rfl, ?_⟩))
       go_ret
       exact ⟨Zq, Zc1 GE341.out⟩
     ·rw [if_neg c14] at H
      have c14b0 : (a0_1 == 1) = false := beq_eq_false_iff_ne.mpr c14
      have c14b1 : (a0_1 != 1) = true := bne_iff_ne.mpr c14
      replace H := Option.bind_eq_some_iff.mp H
      obtain ⟨t348, A230, H⟩ := H
      replace H : (if t348 = true then ((Qal.f a0_5 0 1000).bind fun t349 => (if t349 = true then (some 0) else (some 2))) else (some 2)) = some r := H
      have A23 := Aside0.mk A230
      clear A230
      by_cases c24 : t348 = true
      ·subst c24
       have H1 : ((Qal.f a0_5 0 1000).bind fun t349 => (if t349 = true then (some 0) else (some 2))) = some r := by rw [if_pos rfl] at H; exact H
       clear H
       have H := H1
       clear H1
       replace H := Option.bind_eq_some_iff.mp H
       obtain ⟨t349, A250, H⟩ := H
       replace H : (if t349 = true then (some 0) else (some 2)) = some r := H
       have A25 := Aside0.mk A250
       clear A250
       have hcz26_0 : w3.cell? ⟨gb341, 0, none⟩ = some (.string a0_0) := (Qai BK341.out 0).trans rfl
       have hcz26_1 : w3.cell? ⟨gb341, 1, none⟩ = some (.int .i64 a0_1) := (Qai BK341.out 1).trans rfl
       have hcz26_2 : w3.cell? ⟨gb341, 2, none⟩ = some (.int .i64 a0_2) := (Qai BK341.out 2).trans rfl
       have hcz26_3 : w3.cell? ⟨gb341, 3, none⟩ = some (.int .i64 a0_3) := (Qai BK341.out 3).trans rfl
       have hcz26_4 : w3.cell? ⟨gb341, 4, none⟩ = some (.int .i64 a0_4) := (Qai BK341.out 4).trans rfl
       have hcz26_5 : w3.cell? ⟨gb341, 5, none⟩ = some (.int .i64 a0_5) := (Qai BK341.out 5).trans rfl
       have hfz26_0 := Qah BK341.out 0
       have hfz26_1 := Qah BK341.out 1
       have hfz26_2 := Qah BK341.out 2
       have hfz26_3 := Qah BK341.out 3
       have hfz26_4 := Qah BK341.out 4
       have hfz26_5 := Qah BK341.out 5
       go_upto_if 18 with (first | ((with_reducible refine Qaw (f := 104) rfl ?_); refine goesL_ (some 21) rfl rfl Try.func104 (by kernel_rfl) rfl #[.int .i64 a0_3, .int .i64 1, .int .i64 68719476736] rfl (Zl) ?_; (with_reducible refine (Qal.calls a0_3 1 68719476736 true _ A12.out).mono ?_); rintro e w' ⟨rfl, ⟨nd, rfl⟩⟩; refine ⟨_, rfl, ?_⟩) | (go_at_call 104; (with_reducible refine (Qal.calls a0_4 0 1000 true _ A23.out).mono ?_); rintro e w' ⟨rfl, ⟨nd, rfl⟩⟩) | (go_at_call 104; (with_reducible refine (Qal.calls a0_5 0 1000 t349 _ A25.out).mono ?_); rintro e w' ⟨rfl, ⟨nd, rfl⟩⟩))
       (try simp only [Act.put, List.setIfInBounds_toArray, List.set_cons_zero, List.set_cons_succ])
       by_cases c27 : t349 = true
       ·subst c27
        have H1 : (some 0) = some r := by rw [if_pos rfl] at H; exact H
        clear H
        have H := H1
        clear H1
        obtain rfl := Option.some.inj H
        go_wp2
        go_ret
        exact ⟨Zq, Zc1 GE341.out⟩
       ·replace c27 := Bool.eq_false_iff.mpr c27
        subst c27
        have H1 : (some 2) = some r := by rw [if_neg (show ¬ (false = true) by decide)] at H; exact H
        clear H
        have H := H1
        clear H1
        obtain rfl := Option.some.inj H
        go_wp2
        go_ret
        exact ⟨Zq, Zc1 GE341.out⟩
      ·replace c24 := Bool.eq_false_iff.mpr c24
       subst c24
       have H1 : (some 2) = some r := by rw [if_neg (show ¬ (false = true) by decide)] at H; exact H
       clear H
       have H := H1
       clear H1
       obtain rfl := Option.some.inj H
       have hcz28_0 : w3.cell? ⟨gb341, 0, none⟩ = some (.string a0_0) := (Qai BK341.out 0).trans rfl
       have hcz28_1 : w3.cell? ⟨gb341, 1, none⟩ = some (.int .i64 a0_1) := (Qai BK341.out 1).trans rfl
       have hcz28_2 : w3.cell? ⟨gb341, 2, none⟩ = some (.int .i64 a0_2) := (Qai BK341.out 2).trans rfl
       have hcz28_3 : w3.cell? ⟨gb341, 3, none⟩ = some (.int .i64 a0_3) := (Qai BK341.out 3).trans rfl
       have hcz28_4 : w3.cell? ⟨gb341, 4, none⟩ = some (.int .i64 a0_4) := (Qai BK341.out 4).trans rfl
       have hcz28_5 : w3.cell? ⟨gb341, 5, none⟩ = some (.int .i64 a0_5) := (Qai BK341.out 5).trans rfl
       have hfz28_0 := Qah BK341.out 0
       have hfz28_1 := Qah BK341.out 1
       have hfz28_2 := Qah BK341.out 2
       have hfz28_3 := Qah BK341.out 3
       have hfz28_4 := Qah BK341.out 4
       have hfz28_5 := Qah BK341.out 5
       go_wp2_with (first | ((with_reducible refine Qaw (f := 104) rfl ?_); refine goesL_ (some 21) rfl rfl Try.func104 (by kernel_rfl) rfl #[.int .i64 a0_3, .int .i64 1, .int .i64 68719476736] rfl (Zl) ?_; (with_reducible refine (Qal.calls a0_3 1 68719476736 true _ A12.out).mono ?_); rintro e w' ⟨rfl, ⟨nd, rfl⟩⟩; refine ⟨_, rfl, ?_⟩) | (go_at_call 104; (with_reducible refine (Qal.calls a0_4 0 1000 false _ A23.out).mono ?_); rintro e w' ⟨rfl, ⟨nd, rfl⟩⟩))
       go_ret
       exact ⟨Zq, Zc1 GE341.out⟩
    ·replace c13 := Bool.eq_false_iff.mpr c13
     subst c13
     have H1 : (some 2) = some r := by rw [if_neg (show ¬ (false = true) by decide)] at H; exact H
     clear H
     have H := H1
     clear H1
     obtain rfl := Option.some.inj H
     have hcz29_0 : w3.cell? ⟨gb341, 0, none⟩ = some (.string a0_0) := (Qai BK341.out 0).trans rfl
     have hcz29_1 : w3.cell? ⟨gb341, 1, none⟩ = some (.int .i64 a0_1) := (Qai BK341.out 1).trans rfl
     have hcz29_2 : w3.cell? ⟨gb341, 2, none⟩ = some (.int .i64 a0_2) := (Qai BK341.out 2).trans rfl
     have hcz29_3 : w3.cell? ⟨gb341, 3, none⟩ = some (.int .i64 a0_3) := (Qai BK341.out 3).trans rfl
     have hcz29_4 : w3.cell? ⟨gb341, 4, none⟩ = some (.int .i64 a0_4) := (Qai BK341.out 4).trans rfl
     have hcz29_5 : w3.cell? ⟨gb341, 5, none⟩ = some (.int .i64 a0_5) := (Qai BK341.out 5).trans rfl
     have hfz29_0 := Qah BK341.out 0
     have hfz29_1 := Qah BK341.out 1
     have hfz29_2 := Qah BK341.out 2
     have hfz29_3 := Qah BK341.out 3
     have hfz29_4 := Qah BK341.out 4
     have hfz29_5 := Qah BK341.out 5
     go_wp2_with (first | ((with_reducible refine Qaw (f := 104) rfl ?_); refine goesL_ (some 21) rfl rfl Try.func104 (by kernel_rfl) rfl #[.int .i64 a0_3, .int .i64 1, .int .i64 68719476736] rfl (Zl) ?_; (with_reducible refine (Qal.calls a0_3 1 68719476736 false _ A12.out).mono ?_); rintro e w' ⟨rfl, ⟨nd, rfl⟩⟩; refine ⟨_, rfl, ?_⟩))
     go_ret
     exact ⟨Zq, Zc1 GE341.out⟩
   ·replace c11 := Bool.eq_false_iff.mpr c11
    subst c11
    have H1 : (some 25) = some r := by rw [if_neg (show ¬ (false = true) by decide)] at H; exact H
    clear H
    have H := H1
    clear H1
    obtain rfl := Option.some.inj H
    go_wp2
    go_ret
    exact ⟨Zq, Zc1 GE341.out⟩
  ·replace c8 := Bool.eq_false_iff.mpr c8
   subst c8
   have H1 : (some 2) = some r := by rw [if_neg (show ¬ (false = true) by decide)] at H; exact H
   clear H
   have H := H1
   clear H1
   obtain rfl := Option.some.inj H
   go_wp2
   go_ret
   exact ⟨Zq, Zc1 GE341.out⟩
 ·replace c5 := Bool.eq_false_iff.mpr c5
  subst c5
  have H1 : (some 10) = some r := by rw [if_neg (show ¬ (false = true) by decide)] at H; exact H
  clear H
  have H := H1
  clear H1
  obtain rfl := Option.some.inj H
  go_wp2
  go_ret
  exact ⟨Zq, Zc1 GE341.out⟩
def QbQ.f (a0 : Int) : Option (Bool) := if a0 ≥ 1 then (some (decide (a0 ≤ 1152921504606846976))) else (some false)
set_option maxHeartbeats 8000000 in
set_option maxRecDepth 100000 in
theorem QbQ.calls (a0 : Int) (r : Bool) (w : World) (h : QbQ.f a0 = some r) :
  Calls Try.prog 101 #[.int .i64 a0] w fun e w' => e = .returned (.bool r) ∧ Drawn0 w w' := by
 have H : (if a0 ≥ 1 then (some (decide (a0 ≤ 1152921504606846976))) else (some false)) = some r := h
 clear h
 by_cases c2 : a0 ≥ 1
 ·rw [if_pos c2] at H
  have c2b0 : decide (1 ≤ a0) = true := decide_eq_true c2
  clear c2
  obtain rfl := Option.some.inj H
  go_enter Try.func101, Try.ntmps101
  go_wp2
  go_ret
  exact ⟨Zs, by repeat (first | exact Drawn0.refl _ | apply Drawn0.step)⟩
 ·rw [if_neg c2] at H
  have c2b0 : decide (1 ≤ a0) = false := decide_eq_false c2
  clear c2
  obtain rfl := Option.some.inj H
  go_enter Try.func101, Try.ntmps101
  go_wp2
  go_ret
  exact ⟨Zs, by repeat (first | exact Drawn0.refl _ | apply Drawn0.step)⟩
end Go.Proofs.Ytfcaaefdmabkhaa.Pr
