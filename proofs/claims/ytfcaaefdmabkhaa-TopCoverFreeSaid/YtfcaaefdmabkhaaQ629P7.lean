/- Functions' values and contracts, as the print wrote them. -/
import Derived.Test.YtfcaaefdmabkhaaQ629P0
import Derived.Test.YtfcaaefdmabkhaaQ629P3
import Derived.Test.YtfcaaefdmabkhaaQ629P6
namespace Go.Proofs.Ytfcaaefdmabkhaa.Pr
open Go.RowKit Go.Proofs.YtfcaaefdmabkhaaW.PrintWords Go.Proofs.YtfcaaefdmabkhaaW.PrintLast Go.Proofs.YtfcaaefdmabkhaaW.PrintMore
attribute [local go_sem] QaN QaP QaW QaX QaI QaJ QaO QaQ   -- for this text's walks alone
set_option linter.unusedVariables false
set_option linter.unusedSimpArgs false
def QaU.l0 : Nat → List (S50) → List (S48) → Int → Int → List (S46) → List (S84) → List (S98) → Option ((List (S50)) × Int)
 | 0, _, _, _, _, _, _, _ => none
 | k + 1, x11, x21, x22, x23, x279000, x280000, x281000 => if x23 < x22 then (if 0 ≤ x23 then (if x23 < (x21.length : Int) then ((Qbj.f ((rd_T48 x21 x23).f7)).bind fun t283 => (if t283 = true then ((Qa5.f k x279000 ((rd_T48 x21 x23).f0.f0) ((rd_T48 x21 x23).f0.f1) ((rd_T48 x21 x23).f7) x280000 x281000).bind fun bt285 => (if bt285.2 = 0 then ((Qbz.f ((rd_T48 x21 x23).f7) bt285.1).bind fun bt287 => (if bt287.2 = 0 then (if x11.length < 2513169434916 then (QaU.l0 k (x11 ++ [(⟨(⟨(rd_T48 x21 x23).f0.f0, (rd_T48 x21 x23).f0.f1⟩ : S44), (rd_T48 x21 x23).f7, bt285.1, bt287.1⟩ : S50)]) x21 x22 (wrap64 (x23 + 1)) x279000 x280000 x281000) else (none)) else (some (([] : List (S50)), bt287.2)))) else (some (([] : List (S50)), bt285.2)))) else (some (([] : List (S50)), 2)))) else (none)) else (none)) else (some (x11, 0))
def QaU.f (k : Nat) (l0 : List (S48)) (l1 : List (S46)) (l2 : List (S84)) (l3 : List (S98)) : Option ((List (S50)) × Int) := if (l0.length : Int) > 1024 then (some (([] : List (S50)), 8)) else (QaU.l0 k ([] : List (S50)) l0 (l0.length : Int) 0 l1 l2 l3)
theorem QaU.mono_l : ∀ k, (∀ y0 y1 y2 y3 y4 y5 y6, LeO (QaU.l0 k y0 y1 y2 y3 y4 y5 y6) (QaU.l0 (k + 1) y0 y1 y2 y3 y4 y5 y6))
 | 0 => fun _ _ _ _ _ _ _ r h => by simp [QaU.l0] at h
 | k + 1 => by
  have ih0 := QaU.mono_l k
  ·intro y0 y1 y2 y3 y4 y5 y6
   unfold QaU.l0
   repeat' first
   | (with_reducible exact ih0 _ _ _ _ _ _ _)
   | (with_reducible exact Qa5.mono _ _ _ _ _ _ _)
   | (with_reducible exact LeO.refl _)
   | (with_reducible exact LeO.none _)
   | (with_reducible refine LeO.ite ?_ ?_)
   | (with_reducible refine LeO.bind ?_ (fun _ => ?_))
   | exact ih0 _ _ _ _ _ _ _
   | exact Qa5.mono _ _ _ _ _ _ _
   | exact LeO.none _
   | refine LeO.ite ?_ ?_
   | refine LeO.bind ?_ (fun _ => ?_)
theorem QaU.mono : ∀ a0 a1 a2 a3 k, LeO (QaU.f k a0 a1 a2 a3) (QaU.f (k + 1) a0 a1 a2 a3) := by
 intro a0 a1 a2 a3 k
 have ih0 := QaU.mono_l k
 unfold QaU.f
 repeat' first
   | (with_reducible exact ih0 _ _ _ _ _ _ _)
   | (with_reducible exact Qa5.mono _ _ _ _ _ _ _)
   | (with_reducible exact LeO.refl _)
   | (with_reducible exact LeO.none _)
   | (with_reducible refine LeO.ite ?_ ?_)
   | (with_reducible refine LeO.bind ?_ (fun _ => ?_))
   | exact ih0 _ _ _ _ _ _ _
   | exact Qa5.mono _ _ _ _ _ _ _
   | exact LeO.none _
   | refine LeO.ite ?_ ?_
   | refine LeO.bind ?_ (fun _ => ?_)
set_option maxHeartbeats 8000000 in
set_option maxRecDepth 100000 in
theorem QaU.calls (k : Nat) (A0 : Option Addr) (c0 : Nat) (l0 : List (S48)) (A1 : Option Addr) (c1 : Nat) (l1 : List (S46)) (A2 : Option Addr) (c2 : Nat) (l2 : List (S84)) (A3 : Option Addr) (c3 : Nat) (l3 : List (S98)) (r1 : List (S50)) (r2 : Int) (w : World) (hr0 : Kd.C k48 w A0 l0.length l0) (hc0 : l0.length ≤ c0) (hr1 : Kd.C k46 w A1 l1.length l1) (hc1 : l1.length ≤ c1) (hr2 : Kd.C k84 w A2 l2.length l2) (hc2 : l2.length ≤ c2) (hr3 : Kd.C k98 w A3 l3.length l3) (hc3 : l3.length ≤ c3) (h : QaU.f k l0 l1 l2 l3 = some (r1, r2)) :
  Calls Try.prog 18 #[.slice A0 l0.length c0, .slice A1 l1.length c1, .slice A2 l2.length c2, .slice A3 l3.length c3] w fun e w' => ∃ v0_ : Value, e = .returned (.tuple #[v0_, .int .i64 r2]) ∧ Kd.R k50 50 w' w.heap.size (fun _ => True) v0_ r1 ∧ Below w.heap.size w w' := by
 have hu48 := Try.underlying48
 have hu44 := Try.underlying44
 have hu50 := Try.underlying50
 have HR0 := Aside0.mk hr0
 have HC0 := Aside0.mk hc0
 clear hr0 hc0
 have HR1 := Aside0.mk hr1
 have HC1 := Aside0.mk hc1
 clear hr1 hc1
 have HR2 := Aside0.mk hr2
 have HC2 := Aside0.mk hc2
 clear hr2 hc2
 have HR3 := Aside0.mk hr3
 have HC3 := Aside0.mk hc3
 clear hr3 hc3
 have HB := Aside0.mk (Below.refl w.heap.size w)
 have H : (if (l0.length : Int) > 1024 then (some (([] : List (S50)), 8)) else (QaU.l0 k ([] : List (S50)) l0 (l0.length : Int) 0 l1 l2 l3)) = some (r1, r2) := h
 clear h
 go_enter Try.func18, Try.ntmps18
 go_upto_if 19 with (first | ((with_reducible refine QaD (N := 5) rfl ?_); (refine gate_n (n := 65) rfl ?_); refine QaL ?hg (N := 5) ?hd (cs := #[.slice A1 l1.length c1]) (t := 30) ?hr ?_; (case hd => rfl); (case hg => rfl); (case hr => first | (go_simp; done) | (go_simp; rfl)); intro gb278 hg w5 hbox hb; have n0_ := Aside0.mk (Qaq (Zb) hb); have n1_ := Aside0.mk (hbox); have n2_ := Aside0.mk ((by rw [hg]; exact (Qan (Zb)) : w.heap.size ≤ gb278)); have n3_ := Aside0.mk ((by rw [hg]; exact (Qan (Zb)) : w.heap.size ≤ gb278)); clear HB; have HB := n0_; have BK278 := n1_; have GW278 := n2_; have GE278 := n3_; clear n0_ n1_ n2_ n3_; clear hb hbox hg) | ((with_reducible refine QaD (N := 6) rfl ?_); (refine gate_n (n := 65) rfl ?_); refine QaL ?hg (N := 6) ?hd (cs := #[.slice A2 l2.length c2]) (t := 31) ?hr ?_; (case hd => rfl); (case hg => rfl); (case hr => first | (go_simp; done) | (go_simp; rfl)); intro gb279 hg w6 hbox hb; have n0_ := Aside0.mk (Qaj (g := gb278) (o := .cells #[.slice A1 l1.length c1] 30 (0, 0)) (Zu BK278.out) hb); have n1_ := Aside0.mk (Qaq (Zc1 GE278.out) hb); have n2_ := Aside0.mk (hbox); have n3_ := Aside0.mk ((by rw [hg]; exact (Qan (Zc1 GE278.out)) : w.heap.size ≤ gb279)); have n4_ := Aside0.mk ((by rw [hg]; exact (Qan (Zc1 GE278.out)) : w.heap.size ≤ gb279)); have n5_ := Aside0.mk ((by rw [hg]; exact Nat.ne_of_lt (blk_lt (g := gb278) (o := .cells #[.slice A1 l1.length c1] 30 (0, 0)) (Zu BK278.out)) : gb278 ≠ gb279)); have n6_ := Aside0.mk ((by rw [hg]; exact Nat.ne_of_gt (blk_lt (g := gb278) (o := .cells #[.slice A1 l1.length c1] 30 (0, 0)) (Zu BK278.out)) : gb279 ≠ gb278)); clear BK278; clear HB; have BK278 := n0_; have HB := n1_; have BK279 := n2_; have GW279 := n3_; have GE279 := n4_; have NB278_279 := n5_; have NB279_278 := n6_; clear n0_ n1_ n2_ n3_ n4_ n5_ n6_; clear hb hbox hg) | ((with_reducible refine QaD (N := 7) rfl ?_); (refine gate_n (n := 65) rfl ?_); refine QaL ?hg (N := 7) ?hd (cs := #[.slice A3 l3.length c3]) (t := 32) ?hr ?_; (case hd => rfl); (case hg => rfl); (case hr => first | (go_simp; done) | (go_simp; rfl)); intro gb280 hg w7 hbox hb; have n0_ := Aside0.mk (Qaj (g := gb278) (o := .cells #[.slice A1 l1.length c1] 30 (0, 0)) (Zu BK278.out) hb); have n1_ := Aside0.mk (Qaj (g := gb279) (o := .cells #[.slice A2 l2.length c2] 31 (0, 0)) (Zu BK279.out) hb); have n2_ := Aside0.mk (Qaq (Zc2 GE278.out GE279.out) hb); have n3_ := Aside0.mk (hbox); have n4_ := Aside0.mk ((by rw [hg]; exact (Qan (Zc2 GE278.out GE279.out)) : w.heap.size ≤ gb280)); have n5_ := Aside0.mk ((by rw [hg]; exact (Qan (Zc2 GE278.out GE279.out)) : w.heap.size ≤ gb280)); have n6_ := Aside0.mk ((by rw [hg]; exact Nat.ne_of_lt (blk_lt (g := gb278) (o := .cells #[.slice A1 l1.length c1] 30 (0, 0)) (Zu BK278.out)) : gb278 ≠ gb280)); have n7_ := Aside0.mk ((by rw [hg]; exact Nat.ne_of_gt (blk_lt (g := gb278) (o := .cells #[.slice A1 l1.length c1] 30 (0, 0)) (Zu BK278.out)) : gb280 ≠ gb278)); have n8_ := Aside0.mk ((by rw [hg]; exact Nat.ne_of_lt (blk_lt (g := gb279) (o := .cells #[.slice A2 l2.length c2] 31 (0, 0)) (Zu BK279.out)) : gb279 ≠ gb280)); have n9_ := Aside0.mk ((by rw [hg]; exact Nat.ne_of_gt (blk_lt (g := gb279) (o := .cells #[.slice A2 l2.length c2] 31 (0, 0)) (Zu BK279.out)) : gb280 ≠ gb279)); clear BK278; clear BK279; clear HB; have BK278 := n0_; have BK279 := n1_; have HB := n2_; have BK280 := n3_; have GW280 := n4_; have GE280 := n5_; have NB278_280 := n6_; have NB280_278 := n7_; have NB279_280 := n8_; have NB280_279 := n9_; clear n0_ n1_ n2_ n3_ n4_ n5_ n6_ n7_ n8_ n9_; clear hb hbox hg))
 (try simp only [Act.put, List.setIfInBounds_toArray, List.set_cons_zero, List.set_cons_succ])
 by_cases c8 : (l0.length : Int) > 1024
 ·rw [if_pos c8] at H
  have c8b0 : decide (1024 < (l0.length : Int)) = true := decide_eq_true c8
  have c8b1 : decide (1024 < l0.length) = true := decide_eq_true (by omega)
  clear c8
  (try simp only [c8b0, c8b1])
  simp only [Option.some.injEq, Prod.mk.injEq] at H
  obtain ⟨rfl, rfl⟩ := H
  go_wp2
  go_ret2
  exact ⟨_, Zq, by first | exact Kd.R_nil _ _ _ _ _ | exact Kd.N_nil _ _ _ _ _ | exact Kd.V_nil _ _ _ _ _ | exact Kd.Q_nil _ _ _ _ _ | exact Kd.S_nil _ _ _ _ _, Zc3 GE278.out GE279.out GE280.out⟩
 ·rw [if_neg c8] at H
  have c8b0 : decide (1024 < (l0.length : Int)) = false := decide_eq_false c8
  have c8b1 : decide (1024 < l0.length) = false := decide_eq_false (by omega)
  clear c8
  (try simp only [c8b0, c8b1])
  have H' := Aside0.mk H
  clear H
  go_wp2
  go_loopg [11, 23] k (fun kq v11 v23 w' => ∃ (x11_1 : List (S50)) (x23_1 : Int), v23 = .int .i64 x23_1 ∧ Aside0 (QaU.l0 kq x11_1 l0 (l0.length : Int) x23_1 l1 l2 l3 = some (r1, r2)) ∧ Aside0 (kq ≤ k) ∧ Aside0 (Kd.R k50 50 w' w.heap.size (fun _ => True) v11 x11_1) ∧ Aside0 (w'.heap[gb278]? = some (.cells #[(.slice A1 l1.length c1)] 30 (0, 0))) ∧ Aside0 (w'.heap[gb279]? = some (.cells #[(.slice A2 l2.length c2)] 31 (0, 0))) ∧ Aside0 (w'.heap[gb280]? = some (.cells #[(.slice A3 l3.length c3)] 32 (0, 0))) ∧ Aside0 (Below w.heap.size w w'))
  case atStart => exact ⟨(([] : List (S50))), (0), (Zs), H', ⟨Nat.le_refl _⟩, ⟨by first | exact Kd.R_nil _ _ _ _ _ | exact Kd.N_nil _ _ _ _ _ | exact Kd.V_nil _ _ _ _ _ | exact Kd.Q_nil _ _ _ _ _ | exact Kd.S_nil _ _ _ _ _⟩, ⟨Zu BK278.out⟩, ⟨Zu BK279.out⟩, ⟨Zu BK280.out⟩, ⟨Zc3 GE278.out GE279.out GE280.out⟩⟩
  case round =>
   clear H'
   try clear c1
   try clear c2
   try clear p2
   try clear c3
   try clear c8
   try clear c8b0
   try clear c8b1
   obtain ⟨x11_1, x23_1, rfl, HA, HK1, HO_11, BK278, BK279, BK280, HB⟩ := hrel
   cases gk with
   | zero => exact absurd HA.out (by simp [QaU.l0])
   | succ k1 =>
    have H := HA.out
    clear HA
    simp only [QaU.l0] at H
    by_cases c9 : x23_1 < (l0.length : Int)
    ·rw [if_pos c9] at H
     have c9b0 : decide (x23_1 < (l0.length : Int)) = true := decide_eq_true c9
     clear c9
     (try simp only [c9b0])
     by_cases c10 : 0 ≤ x23_1
     ·rw [if_pos c10] at H
      have c10b0 : decide (0 ≤ x23_1) = true := decide_eq_true c10
      clear c10
      by_cases c11 : x23_1 < (l0.length : Int)
      ·rw [if_pos c11] at H
       have c11b0 : decide (x23_1 < (l0.length : Int)) = true := decide_eq_true c11
       clear c11
       replace H := Option.bind_eq_some_iff.mp H
       obtain ⟨t283, A120, H⟩ := H
       replace H : (if t283 = true then ((Qa5.f k1 l1 ((rd_T48 l0 x23_1).f0.f0) ((rd_T48 l0 x23_1).f0.f1) ((rd_T48 l0 x23_1).f7) l2 l3).bind fun bt285 => (if bt285.2 = 0 then ((Qbz.f ((rd_T48 l0 x23_1).f7) bt285.1).bind fun bt287 => (if bt287.2 = 0 then (if x11_1.length < 2513169434916 then (QaU.l0 k1 (x11_1 ++ [(⟨(⟨(rd_T48 l0 x23_1).f0.f0, (rd_T48 l0 x23_1).f0.f1⟩ : S44), (rd_T48 l0 x23_1).f7, bt285.1, bt287.1⟩ : S50)]) l0 (l0.length : Int) (wrap64 (x23_1 + 1)) l1 l2 l3) else (none)) else (some (([] : List (S50)), bt287.2)))) else (some (([] : List (S50)), bt285.2)))) else (some (([] : List (S50)), 2))) = some (r1, r2) := H
       have A12 := Aside0.mk A120
       clear A120
       have p281 : 0 ≤ (x23_1 : Int) := Ze
       have q281 : x23_1 < (l0.length : Int) := Ze
       obtain ⟨ad281, e281, hx281_0, hx281_1, hx281_2, hx281_3, hx281_4, hx281_5, hx281_6, hx281_7, hx281_8⟩ := at_T48 HR0.out x23_1 p281 q281
       cases e281
       replace hx281_0 := (HB.out.cell (World.block_lt_of_cell? w _ hx281_0)).trans hx281_0
       replace hx281_1 := (HB.out.cell (World.block_lt_of_cell? w _ hx281_1)).trans hx281_1
       replace hx281_2 := (HB.out.cell (World.block_lt_of_cell? w _ hx281_2)).trans hx281_2
       replace hx281_3 := (HB.out.cell (World.block_lt_of_cell? w _ hx281_3)).trans hx281_3
       replace hx281_4 := (HB.out.cell (World.block_lt_of_cell? w _ hx281_4)).trans hx281_4
       replace hx281_5 := (HB.out.cell (World.block_lt_of_cell? w _ hx281_5)).trans hx281_5
       replace hx281_6 := (HB.out.cell (World.block_lt_of_cell? w _ hx281_6)).trans hx281_6
       replace hx281_7 := (HB.out.cell (World.block_lt_of_cell? w _ hx281_7)).trans hx281_7
       replace hx281_8 := (HB.out.cell (World.block_lt_of_cell? w _ hx281_8)).trans hx281_8
       replace p281 := eq_true p281
       replace q281 := eq_true q281
       go_upto_if 30 with (first | ((with_reducible refine QaD (N := 13) rfl ?_); (refine gate_n (n := 65) rfl ?_); refine QaL ?hg (N := 13) ?hd (cs := #[.string (⟨#[]⟩ : ByteArray), .string (⟨#[]⟩ : ByteArray), .int .i64 0, .int .i64 0, .int .i64 0, .int .i64 0, .int .i64 0, .int .i64 0, .int .i64 0]) (t := 48) ?hr ?_; (case hd => rfl); (case hg => rfl); (case hr => first | (go_simp; done) | (go_simp; rfl)); intro gb282 hg w13 hbox hb; have n0_ := Aside0.mk (Kd.R_below (Zr HO_11.out) hb); have n1_ := Aside0.mk (Qaj (g := gb278) (o := .cells #[.slice A1 l1.length c1] 30 (0, 0)) (Zu BK278.out) hb); have n2_ := Aside0.mk (Qaj (g := gb279) (o := .cells #[.slice A2 l2.length c2] 31 (0, 0)) (Zu BK279.out) hb); have n3_ := Aside0.mk (Qaj (g := gb280) (o := .cells #[.slice A3 l3.length c3] 32 (0, 0)) (Zu BK280.out) hb); have n4_ := Aside0.mk (Qaq (Zc3 GE278.out GE279.out GE280.out) hb); have n5_ := Aside0.mk (hbox); have n6_ := Aside0.mk ((by rw [hg]; exact (Qan (Zc3 GE278.out GE279.out GE280.out)) : w.heap.size ≤ gb282)); have n7_ := Aside0.mk ((by rw [hg]; exact (Qan (Zc3 GE278.out GE279.out GE280.out)) : w.heap.size ≤ gb282)); have n8_ := Aside0.mk ((by rw [hg]; exact Nat.ne_of_lt (blk_lt (g := gb278) (o := .cells #[.slice A1 l1.length c1] 30 (0, 0)) (Zu BK278.out)) : gb278 ≠ gb282)); have n9_ := Aside0.mk ((by rw [hg]; exact Nat.ne_of_gt (blk_lt (g := gb278) (o := .cells #[.slice A1 l1.length c1] 30 (0, 0)) (Zu BK278.out)) : gb282 ≠ gb278)); have n10_ := Aside0.mk ((by rw [hg]; exact Nat.ne_of_lt (blk_lt (g := gb279) (o := .cells #[.slice A2 l2.length c2] 31 (0, 0)) (Zu BK279.out)) : gb279 ≠ gb282)); have n11_ := Aside0.mk ((by rw [hg]; exact Nat.ne_of_gt (blk_lt (g := gb279) (o := .cells #[.slice A2 l2.length c2] 31 (0, 0)) (Zu BK279.out)) : gb282 ≠ gb279)); have n12_ := Aside0.mk ((by rw [hg]; exact Nat.ne_of_lt (blk_lt (g := gb280) (o := .cells #[.slice A3 l3.length c3] 32 (0, 0)) (Zu BK280.out)) : gb280 ≠ gb282)); have n13_ := Aside0.mk ((by rw [hg]; exact Nat.ne_of_gt (blk_lt (g := gb280) (o := .cells #[.slice A3 l3.length c3] 32 (0, 0)) (Zu BK280.out)) : gb282 ≠ gb280)); clear HO_11; clear BK278; clear BK279; clear BK280; clear HB; have HO_11 := n0_; have BK278 := n1_; have BK279 := n2_; have BK280 := n3_; have HB := n4_; have BK282 := n5_; have GW282 := n6_; have GE282 := n7_; have NB278_282 := n8_; have NB282_278 := n9_; have NB279_282 := n10_; have NB282_279 := n11_; have NB280_282 := n12_; have NB282_280 := n13_; clear n0_ n1_ n2_ n3_ n4_ n5_ n6_ n7_ n8_ n9_ n10_ n11_ n12_ n13_; clear hb hbox hg; have hnb14 := NB282_278.out; have hnc14 := NB278_282.out; have hnb15 := NB282_279.out; have hnc15 := NB279_282.out; have hnb16 := NB282_280.out; have hnc16 := NB280_282.out; have hcz17_0 : w13.cell? ⟨gb282, 0, none⟩ = some (.string (⟨#[]⟩ : ByteArray)) := (Qah BK282.out 0).trans rfl; have hcz17_1 : w13.cell? ⟨gb282, 1, none⟩ = some (.string (⟨#[]⟩ : ByteArray)) := (Qah BK282.out 1).trans rfl; have hcz17_2 : w13.cell? ⟨gb282, 2, none⟩ = some (.int .i64 0) := (Qah BK282.out 2).trans rfl; have hcz17_3 : w13.cell? ⟨gb282, 3, none⟩ = some (.int .i64 0) := (Qah BK282.out 3).trans rfl; have hcz17_4 : w13.cell? ⟨gb282, 4, none⟩ = some (.int .i64 0) := (Qah BK282.out 4).trans rfl; have hcz17_5 : w13.cell? ⟨gb282, 5, none⟩ = some (.int .i64 0) := (Qah BK282.out 5).trans rfl; have hcz17_6 : w13.cell? ⟨gb282, 6, none⟩ = some (.int .i64 0) := (Qah BK282.out 6).trans rfl; have hcz17_7 : w13.cell? ⟨gb282, 7, none⟩ = some (.int .i64 0) := (Qah BK282.out 7).trans rfl; have hcz17_8 : w13.cell? ⟨gb282, 8, none⟩ = some (.int .i64 0) := (Qah BK282.out 8).trans rfl; have hfz17_0 := Qaf BK282.out 0; have hfz17_1 := Qaf BK282.out 1; have hfz17_2 := Qaf BK282.out 2; have hfz17_3 := Qaf BK282.out 3; have hfz17_4 := Qaf BK282.out 4; have hfz17_5 := Qaf BK282.out 5; have hfz17_6 := Qaf BK282.out 6; have hfz17_7 := Qaf BK282.out 7; have hfz17_8 := Qaf BK282.out 8) | ((with_reducible refine Qay (f := 51) rfl ?_); refine goesL_ (some 29) rfl rfl Try.func51 (by kernel_rfl) rfl #[.int .i64 ((rd_T48 l0 x23_1).f7)] rfl (Zl) ?_; (with_reducible refine (Qbj.calls ((rd_T48 l0 x23_1).f7) t283 _ A12.out).mono ?_); rintro e w' ⟨rfl, ⟨nd, rfl⟩⟩; refine ⟨_, rfl, ?_⟩))
       (try simp only [Act.put, List.setIfInBounds_toArray, List.set_cons_zero, List.set_cons_succ])
       by_cases c18 : t283 = true
       ·subst c18
        have H1 : ((Qa5.f k1 l1 ((rd_T48 l0 x23_1).f0.f0) ((rd_T48 l0 x23_1).f0.f1) ((rd_T48 l0 x23_1).f7) l2 l3).bind fun bt285 => (if bt285.2 = 0 then ((Qbz.f ((rd_T48 l0 x23_1).f7) bt285.1).bind fun bt287 => (if bt287.2 = 0 then (if x11_1.length < 2513169434916 then (QaU.l0 k1 (x11_1 ++ [(⟨(⟨(rd_T48 l0 x23_1).f0.f0, (rd_T48 l0 x23_1).f0.f1⟩ : S44), (rd_T48 l0 x23_1).f7, bt285.1, bt287.1⟩ : S50)]) l0 (l0.length : Int) (wrap64 (x23_1 + 1)) l1 l2 l3) else (none)) else (some (([] : List (S50)), bt287.2)))) else (some (([] : List (S50)), bt285.2)))) = some (r1, r2) := by rw [if_pos rfl] at H; exact H
        clear H
        have H := H1
        clear H1
        replace H := Option.bind_eq_some_iff.mp H
        obtain ⟨⟨t285, t286⟩, A190, H⟩ := H
        replace H : (if t286 = 0 then ((Qbz.f ((rd_T48 l0 x23_1).f7) t285).bind fun bt287 => (if bt287.2 = 0 then (if x11_1.length < 2513169434916 then (QaU.l0 k1 (x11_1 ++ [(⟨(⟨(rd_T48 l0 x23_1).f0.f0, (rd_T48 l0 x23_1).f0.f1⟩ : S44), (rd_T48 l0 x23_1).f7, t285, bt287.1⟩ : S50)]) l0 (l0.length : Int) (wrap64 (x23_1 + 1)) l1 l2 l3) else (none)) else (some (([] : List (S50)), bt287.2)))) else (some (([] : List (S50)), t286))) = some (r1, r2) := H
        have A19 := Aside0.mk A190
        clear A190
        have hnb20 := NB282_278.out
        have hnc20 := NB278_282.out
        have hnb21 := NB282_279.out
        have hnc21 := NB279_282.out
        have hnb22 := NB282_280.out
        have hnc22 := NB280_282.out
        have hcz23_0 : w13.cell? ⟨gb282, 0, none⟩ = some (.string (⟨#[]⟩ : ByteArray)) := (Qah BK282.out 0).trans rfl
        have hcz23_1 : w13.cell? ⟨gb282, 1, none⟩ = some (.string (⟨#[]⟩ : ByteArray)) := (Qah BK282.out 1).trans rfl
        have hcz23_2 : w13.cell? ⟨gb282, 2, none⟩ = some (.int .i64 0) := (Qah BK282.out 2).trans rfl
        have hcz23_3 : w13.cell? ⟨gb282, 3, none⟩ = some (.int .i64 0) := (Qah BK282.out 3).trans rfl
        have hcz23_4 : w13.cell? ⟨gb282, 4, none⟩ = some (.int .i64 0) := (Qah BK282.out 4).trans rfl
        have hcz23_5 : w13.cell? ⟨gb282, 5, none⟩ = some (.int .i64 0) := (Qah BK282.out 5).trans rfl
        have hcz23_6 : w13.cell? ⟨gb282, 6, none⟩ = some (.int .i64 0) := (Qah BK282.out 6).trans rfl
        have hcz23_7 : w13.cell? ⟨gb282, 7, none⟩ = some (.int .i64 0) := (Qah BK282.out 7).trans rfl
        have hcz23_8 : w13.cell? ⟨gb282, 8, none⟩ = some (.int .i64 0) := (Qah BK282.out 8).trans rfl
        have hfz23_0 := Qaf BK282.out 0
        have hfz23_1 := Qaf BK282.out 1
        have hfz23_2 := Qaf BK282.out 2
        have hfz23_3 := Qaf BK282.out 3
        have hfz23_4 := Qaf BK282.out 4
        have hfz23_5 := Qaf BK282.out 5
        have hfz23_6 := Qaf BK282.out 6
        have hfz23_7 := Qaf BK282.out 7
        have hfz23_8 := Qaf BK282.out 8
        go_upto_region 11 with (first | (go_at_call 52; go_in) | ((with_reducible refine QaD (N := 5) rfl ?_); (refine gate_n (n := 17) rfl ?_); refine QaL ?hg (N := 5) ?hd (cs := #[.string ((rd_T48 l0 x23_1).f0.f0), .string ((rd_T48 l0 x23_1).f0.f1)]) (t := 44) ?hr ?_; (case hd => rfl); (case hg => rfl); (case hr => first | (go_simp; done) | (go_simp; rfl)); intro gb284 hg w24 hbox hb; have n0_ := Aside0.mk (Kd.R_below (by (with_reducible repeat (first | apply Kd.R_alloc | apply Kd.R_drewN | apply Kd.R_drew)); exact (Kd.R_mono (Kd.R_far (p := ⟨gb282, 8, none⟩) (Kd.R_far (p := ⟨gb282, 7, none⟩) (Kd.R_far (p := ⟨gb282, 6, none⟩) (Kd.R_far (p := ⟨gb282, 5, none⟩) (Kd.R_far (p := ⟨gb282, 4, none⟩) (Kd.R_far (p := ⟨gb282, 3, none⟩) (Kd.R_far (p := ⟨gb282, 2, none⟩) (Kd.R_far (p := ⟨gb282, 1, none⟩) (Kd.R_far (p := ⟨gb282, 0, none⟩) (Kd.R_types HO_11.out BK282.out (by decide)) (fun _ hk => hk.2) (.string ((rd_T48 l0 x23_1).f0.f0))) (fun _ hk => hk.2) (.string ((rd_T48 l0 x23_1).f0.f1))) (fun _ hk => hk.2) (.int .i64 ((rd_T48 l0 x23_1).f1))) (fun _ hk => hk.2) (.int .i64 ((rd_T48 l0 x23_1).f2))) (fun _ hk => hk.2) (.int .i64 ((rd_T48 l0 x23_1).f3))) (fun _ hk => hk.2) (.int .i64 ((rd_T48 l0 x23_1).f4))) (fun _ hk => hk.2) (.int .i64 ((rd_T48 l0 x23_1).f5))) (fun _ hk => hk.2) (.int .i64 ((rd_T48 l0 x23_1).f6))) (fun _ hk => hk.2) (.int .i64 ((rd_T48 l0 x23_1).f7))) (fun _ h_ => h_.1))) hb); have n1_ := Aside0.mk (Qaj (g := gb278) (o := .cells #[.slice A1 l1.length c1] 30 (0, 0)) (by (with_reducible repeat (first | refine Qab ?_ _ | refine Qad ?_ | refine Qaa ?_ _)); refine Qam ?_ NB278_282.out _; (with_reducible repeat (first | refine Qab ?_ _ | refine Qad ?_ | refine Qaa ?_ _)); refine Qam ?_ NB278_282.out _; (with_reducible repeat (first | refine Qab ?_ _ | refine Qad ?_ | refine Qaa ?_ _)); refine Qam ?_ NB278_282.out _; (with_reducible repeat (first | refine Qab ?_ _ | refine Qad ?_ | refine Qaa ?_ _)); refine Qam ?_ NB278_282.out _; (with_reducible repeat (first | refine Qab ?_ _ | refine Qad ?_ | refine Qaa ?_ _)); refine Qam ?_ NB278_282.out _; (with_reducible repeat (first | refine Qab ?_ _ | refine Qad ?_ | refine Qaa ?_ _)); refine Qam ?_ NB278_282.out _; (with_reducible repeat (first | refine Qab ?_ _ | refine Qad ?_ | refine Qaa ?_ _)); refine Qam ?_ NB278_282.out _; (with_reducible repeat (first | refine Qab ?_ _ | refine Qad ?_ | refine Qaa ?_ _)); refine Qam ?_ NB278_282.out _; (with_reducible repeat (first | refine Qab ?_ _ | refine Qad ?_ | refine Qaa ?_ _)); refine Qam ?_ NB278_282.out _; (with_reducible repeat (first | refine Qab ?_ _ | refine Qad ?_ | refine Qaa ?_ _)); exact BK278.out) hb); have n2_ := Aside0.mk (Qaj (g := gb279) (o := .cells #[.slice A2 l2.length c2] 31 (0, 0)) (by (with_reducible repeat (first | refine Qab ?_ _ | refine Qad ?_ | refine Qaa ?_ _)); refine Qam ?_ NB279_282.out _; (with_reducible repeat (first | refine Qab ?_ _ | refine Qad ?_ | refine Qaa ?_ _)); refine Qam ?_ NB279_282.out _; (with_reducible repeat (first | refine Qab ?_ _ | refine Qad ?_ | refine Qaa ?_ _)); refine Qam ?_ NB279_282.out _; (with_reducible repeat (first | refine Qab ?_ _ | refine Qad ?_ | refine Qaa ?_ _)); refine Qam ?_ NB279_282.out _; (with_reducible repeat (first | refine Qab ?_ _ | refine Qad ?_ | refine Qaa ?_ _)); refine Qam ?_ NB279_282.out _; (with_reducible repeat (first | refine Qab ?_ _ | refine Qad ?_ | refine Qaa ?_ _)); refine Qam ?_ NB279_282.out _; (with_reducible repeat (first | refine Qab ?_ _ | refine Qad ?_ | refine Qaa ?_ _)); refine Qam ?_ NB279_282.out _; (with_reducible repeat (first | refine Qab ?_ _ | refine Qad ?_ | refine Qaa ?_ _)); refine Qam ?_ NB279_282.out _; (with_reducible repeat (first | refine Qab ?_ _ | refine Qad ?_ | refine Qaa ?_ _)); refine Qam ?_ NB279_282.out _; (with_reducible repeat (first | refine Qab ?_ _ | refine Qad ?_ | refine Qaa ?_ _)); exact BK279.out) hb); have n3_ := Aside0.mk (Qaj (g := gb280) (o := .cells #[.slice A3 l3.length c3] 32 (0, 0)) (by (with_reducible repeat (first | refine Qab ?_ _ | refine Qad ?_ | refine Qaa ?_ _)); refine Qam ?_ NB280_282.out _; (with_reducible repeat (first | refine Qab ?_ _ | refine Qad ?_ | refine Qaa ?_ _)); refine Qam ?_ NB280_282.out _; (with_reducible repeat (first | refine Qab ?_ _ | refine Qad ?_ | refine Qaa ?_ _)); refine Qam ?_ NB280_282.out _; (with_reducible repeat (first | refine Qab ?_ _ | refine Qad ?_ | refine Qaa ?_ _)); refine Qam ?_ NB280_282.out _; (with_reducible repeat (first | refine Qab ?_ _ | refine Qad ?_ | refine Qaa ?_ _)); refine Qam ?_ NB280_282.out _; (with_reducible repeat (first | refine Qab ?_ _ | refine Qad ?_ | refine Qaa ?_ _)); refine Qam ?_ NB280_282.out _; (with_reducible repeat (first | refine Qab ?_ _ | refine Qad ?_ | refine Qaa ?_ _)); refine Qam ?_ NB280_282.out _; (with_reducible repeat (first | refine Qab ?_ _ | refine Qad ?_ | refine Qaa ?_ _)); refine Qam ?_ NB280_282.out _; (with_reducible repeat (first | refine Qab ?_ _ | refine Qad ?_ | refine Qaa ?_ _)); refine Qam ?_ NB280_282.out _; (with_reducible repeat (first | refine Qab ?_ _ | refine Qad ?_ | refine Qaa ?_ _)); exact BK280.out) hb); have n4_ := Aside0.mk (Qaj (g := gb282) (o := .cells #[.string ((rd_T48 l0 x23_1).f0.f0), .string ((rd_T48 l0 x23_1).f0.f1), .int .i64 ((rd_T48 l0 x23_1).f1), .int .i64 ((rd_T48 l0 x23_1).f2), .int .i64 ((rd_T48 l0 x23_1).f3), .int .i64 ((rd_T48 l0 x23_1).f4), .int .i64 ((rd_T48 l0 x23_1).f5), .int .i64 ((rd_T48 l0 x23_1).f6), .int .i64 ((rd_T48 l0 x23_1).f7)] 48 (0, 0)) (by (with_reducible repeat (first | refine Qab ?_ _ | refine Qad ?_ | refine Qaa ?_ _)); refine Qas (cs := #[.string ((rd_T48 l0 x23_1).f0.f0), .string ((rd_T48 l0 x23_1).f0.f1), .int .i64 ((rd_T48 l0 x23_1).f1), .int .i64 ((rd_T48 l0 x23_1).f2), .int .i64 ((rd_T48 l0 x23_1).f3), .int .i64 ((rd_T48 l0 x23_1).f4), .int .i64 ((rd_T48 l0 x23_1).f5), .int .i64 ((rd_T48 l0 x23_1).f6), .int .i64 0]) ?_ 8 _ rfl; (with_reducible repeat (first | refine Qab ?_ _ | refine Qad ?_ | refine Qaa ?_ _)); refine Qas (cs := #[.string ((rd_T48 l0 x23_1).f0.f0), .string ((rd_T48 l0 x23_1).f0.f1), .int .i64 ((rd_T48 l0 x23_1).f1), .int .i64 ((rd_T48 l0 x23_1).f2), .int .i64 ((rd_T48 l0 x23_1).f3), .int .i64 ((rd_T48 l0 x23_1).f4), .int .i64 ((rd_T48 l0 x23_1).f5), .int .i64 0, .int .i64 0]) ?_ 7 _ rfl; (with_reducible repeat (first | refine Qab ?_ _ | refine Qad ?_ | refine Qaa ?_ _)); refine Qas (cs := #[.string ((rd_T48 l0 x23_1).f0.f0), .string ((rd_T48 l0 x23_1).f0.f1), .int .i64 ((rd_T48 l0 x23_1).f1), .int .i64 ((rd_T48 l0 x23_1).f2), .int .i64 ((rd_T48 l0 x23_1).f3), .int .i64 ((rd_T48 l0 x23_1).f4), .int .i64 0, .int .i64 0, .int .i64 0]) ?_ 6 _ rfl; (with_reducible repeat (first | refine Qab ?_ _ | refine Qad ?_ | refine Qaa ?_ _)); refine Qas (cs := #[.string ((rd_T48 l0 x23_1).f0.f0), .string ((rd_T48 l0 x23_1).f0.f1), .int .i64 ((rd_T48 l0 x23_1).f1), .int .i64 ((rd_T48 l0 x23_1).f2), .int .i64 ((rd_T48 l0 x23_1).f3), .int .i64 0, .int .i64 0, .int .i64 0, .int .i64 0]) ?_ 5 _ rfl; (with_reducible repeat (first | refine Qab ?_ _ | refine Qad ?_ | refine Qaa ?_ _)); refine Qas (cs := #[.string ((rd_T48 l0 x23_1).f0.f0), .string ((rd_T48 l0 x23_1).f0.f1), .int .i64 ((rd_T48 l0 x23_1).f1), .int .i64 ((rd_T48 l0 x23_1).f2), .int .i64 0, .int .i64 0, .int .i64 0, .int .i64 0, .int .i64 0]) ?_ 4 _ rfl; (with_reducible repeat (first | refine Qab ?_ _ | refine Qad ?_ | refine Qaa ?_ _)); refine Qas (cs := #[.string ((rd_T48 l0 x23_1).f0.f0), .string ((rd_T48 l0 x23_1).f0.f1), .int .i64 ((rd_T48 l0 x23_1).f1), .int .i64 0, .int .i64 0, .int .i64 0, .int .i64 0, .int .i64 0, .int .i64 0]) ?_ 3 _ rfl; (with_reducible repeat (first | refine Qab ?_ _ | refine Qad ?_ | refine Qaa ?_ _)); refine Qas (cs := #[.string ((rd_T48 l0 x23_1).f0.f0), .string ((rd_T48 l0 x23_1).f0.f1), .int .i64 0, .int .i64 0, .int .i64 0, .int .i64 0, .int .i64 0, .int .i64 0, .int .i64 0]) ?_ 2 _ rfl; (with_reducible repeat (first | refine Qab ?_ _ | refine Qad ?_ | refine Qaa ?_ _)); refine Qas (cs := #[.string ((rd_T48 l0 x23_1).f0.f0), .string (⟨#[]⟩ : ByteArray), .int .i64 0, .int .i64 0, .int .i64 0, .int .i64 0, .int .i64 0, .int .i64 0, .int .i64 0]) ?_ 1 _ rfl; (with_reducible repeat (first | refine Qab ?_ _ | refine Qad ?_ | refine Qaa ?_ _)); refine Qas (cs := #[.string (⟨#[]⟩ : ByteArray), .string (⟨#[]⟩ : ByteArray), .int .i64 0, .int .i64 0, .int .i64 0, .int .i64 0, .int .i64 0, .int .i64 0, .int .i64 0]) ?_ 0 _ rfl; (with_reducible repeat (first | refine Qab ?_ _ | refine Qad ?_ | refine Qaa ?_ _)); exact BK282.out) hb); have n5_ := Aside0.mk (Qaq (Zc4 GE278.out GE279.out GE280.out GE282.out) hb); have n6_ := Aside0.mk (hbox); have n7_ := Aside0.mk ((by rw [hg]; exact (Qan (Zc4 GE278.out GE279.out GE280.out GE282.out)) : w.heap.size ≤ gb284)); have n8_ := Aside0.mk ((by rw [hg]; exact (Qan (Zc4 GE278.out GE279.out GE280.out GE282.out)) : w.heap.size ≤ gb284)); have n9_ := Aside0.mk ((by rw [hg]; exact Nat.ne_of_lt (blk_lt (g := gb278) (o := .cells #[.slice A1 l1.length c1] 30 (0, 0)) (by (with_reducible repeat (first | refine Qab ?_ _ | refine Qad ?_ | refine Qaa ?_ _)); refine Qam ?_ NB278_282.out _; (with_reducible repeat (first | refine Qab ?_ _ | refine Qad ?_ | refine Qaa ?_ _)); refine Qam ?_ NB278_282.out _; (with_reducible repeat (first | refine Qab ?_ _ | refine Qad ?_ | refine Qaa ?_ _)); refine Qam ?_ NB278_282.out _; (with_reducible repeat (first | refine Qab ?_ _ | refine Qad ?_ | refine Qaa ?_ _)); refine Qam ?_ NB278_282.out _; (with_reducible repeat (first | refine Qab ?_ _ | refine Qad ?_ | refine Qaa ?_ _)); refine Qam ?_ NB278_282.out _; (with_reducible repeat (first | refine Qab ?_ _ | refine Qad ?_ | refine Qaa ?_ _)); refine Qam ?_ NB278_282.out _; (with_reducible repeat (first | refine Qab ?_ _ | refine Qad ?_ | refine Qaa ?_ _)); refine Qam ?_ NB278_282.out _; (with_reducible repeat (first | refine Qab ?_ _ | refine Qad ?_ | refine Qaa ?_ _)); refine Qam ?_ NB278_282.out _; (with_reducible repeat (first | refine Qab ?_ _ | refine Qad ?_ | refine Qaa ?_ _)); refine Qam ?_ NB278_282.out _; (with_reducible repeat (first | refine Qab ?_ _ | refine Qad ?_ | refine Qaa ?_ _)); exact BK278.out)) : gb278 ≠ gb284)); have n10_ := Aside0.mk ((by rw [hg]; exact Nat.ne_of_gt (blk_lt (g := gb278) (o := .cells #[.slice A1 l1.length c1] 30 (0, 0)) (by (with_reducible repeat (first | refine Qab ?_ _ | refine Qad ?_ | refine Qaa ?_ _)); refine Qam ?_ NB278_282.out _; (with_reducible repeat (first | refine Qab ?_ _ | refine Qad ?_ | refine Qaa ?_ _)); refine Qam ?_ NB278_282.out _; (with_reducible repeat (first | refine Qab ?_ _ | refine Qad ?_ | refine Qaa ?_ _)); refine Qam ?_ NB278_282.out _; (with_reducible repeat (first | refine Qab ?_ _ | refine Qad ?_ | refine Qaa ?_ _)); refine Qam ?_ NB278_282.out _; (with_reducible repeat (first | refine Qab ?_ _ | refine Qad ?_ | refine Qaa ?_ _)); refine Qam ?_ NB278_282.out _; (with_reducible repeat (first | refine Qab ?_ _ | refine Qad ?_ | refine Qaa ?_ _)); refine Qam ?_ NB278_282.out _; (with_reducible repeat (first | refine Qab ?_ _ | refine Qad ?_ | refine Qaa ?_ _)); refine Qam ?_ NB278_282.out _; (with_reducible repeat (first | refine Qab ?_ _ | refine Qad ?_ | refine Qaa ?_ _)); refine Qam ?_ NB278_282.out _; (with_reducible repeat (first | refine Qab ?_ _ | refine Qad ?_ | refine Qaa ?_ _)); refine Qam ?_ NB278_282.out _; (with_reducible repeat (first | refine Qab ?_ _ | refine Qad ?_ | refine Qaa ?_ _)); exact BK278.out)) : gb284 ≠ gb278)); have n11_ := Aside0.mk ((by rw [hg]; exact Nat.ne_of_lt (blk_lt (g := gb279) (o := .cells #[.slice A2 l2.length c2] 31 (0, 0)) (by (with_reducible repeat (first | refine Qab ?_ _ | refine Qad ?_ | refine Qaa ?_ _)); refine Qam ?_ NB279_282.out _; (with_reducible repeat (first | refine Qab ?_ _ | refine Qad ?_ | refine Qaa ?_ _)); refine Qam ?_ NB279_282.out _; (with_reducible repeat (first | refine Qab ?_ _ | refine Qad ?_ | refine Qaa ?_ _)); refine Qam ?_ NB279_282.out _; (with_reducible repeat (first | refine Qab ?_ _ | refine Qad ?_ | refine Qaa ?_ _)); refine Qam ?_ NB279_282.out _; (with_reducible repeat (first | refine Qab ?_ _ | refine Qad ?_ | refine Qaa ?_ _)); refine Qam ?_ NB279_282.out _; (with_reducible repeat (first | refine Qab ?_ _ | refine Qad ?_ | refine Qaa ?_ _)); refine Qam ?_ NB279_282.out _; (with_reducible repeat (first | refine Qab ?_ _ | refine Qad ?_ | refine Qaa ?_ _)); refine Qam ?_ NB279_282.out _; (with_reducible repeat (first | refine Qab ?_ _ | refine Qad ?_ | refine Qaa ?_ _)); refine Qam ?_ NB279_282.out _; (with_reducible repeat (first | refine Qab ?_ _ | refine Qad ?_ | refine Qaa ?_ _)); refine Qam ?_ NB279_282.out _; (with_reducible repeat (first | refine Qab ?_ _ | refine Qad ?_ | refine Qaa ?_ _)); exact BK279.out)) : gb279 ≠ gb284)); have n12_ := Aside0.mk ((by rw [hg]; exact Nat.ne_of_gt (blk_lt (g := gb279) (o := .cells #[.slice A2 l2.length c2] 31 (0, 0)) (by (with_reducible repeat (first | refine Qab ?_ _ | refine Qad ?_ | refine Qaa ?_ _)); refine Qam ?_ NB279_282.out _; (with_reducible repeat (first | refine Qab ?_ _ | refine Qad ?_ | refine Qaa ?_ _)); refine Qam ?_ NB279_282.out _; (with_reducible repeat (first | refine Qab ?_ _ | refine Qad ?_ | refine Qaa ?_ _)); refine Qam ?_ NB279_282.out _; (with_reducible repeat (first | refine Qab ?_ _ | refine Qad ?_ | refine Qaa ?_ _)); refine Qam ?_ NB279_282.out _; (with_reducible repeat (first | refine Qab ?_ _ | refine Qad ?_ | refine Qaa ?_ _)); refine Qam ?_ NB279_282.out _; (with_reducible repeat (first | refine Qab ?_ _ | refine Qad ?_ | refine Qaa ?_ _)); refine Qam ?_ NB279_282.out _; (with_reducible repeat (first | refine Qab ?_ _ | refine Qad ?_ | refine Qaa ?_ _)); refine Qam ?_ NB279_282.out _; (with_reducible repeat (first | refine Qab ?_ _ | refine Qad ?_ | refine Qaa ?_ _)); refine Qam ?_ NB279_282.out _; (with_reducible repeat (first | refine Qab ?_ _ | refine Qad ?_ | refine Qaa ?_ _)); refine Qam ?_ NB279_282.out _; (with_reducible repeat (first | refine Qab ?_ _ | refine Qad ?_ | refine Qaa ?_ _)); exact BK279.out)) : gb284 ≠ gb279)); have n13_ := Aside0.mk ((by rw [hg]; exact Nat.ne_of_lt (blk_lt (g := gb280) (o := .cells #[.slice A3 l3.length c3] 32 (0, 0)) (by (with_reducible repeat (first | refine Qab ?_ _ | refine Qad ?_ | refine Qaa ?_ _)); refine Qam ?_ NB280_282.out _; (with_reducible repeat (first | refine Qab ?_ _ | refine Qad ?_ | refine Qaa ?_ _)); refine Qam ?_ NB280_282.out _; (with_reducible repeat (first | refine Qab ?_ _ | refine Qad ?_ | refine Qaa ?_ _)); refine Qam ?_ NB280_282.out _; (with_reducible repeat (first | refine Qab ?_ _ | refine Qad ?_ | refine Qaa ?_ _)); refine Qam ?_ NB280_282.out _; (with_reducible repeat (first | refine Qab ?_ _ | refine Qad ?_ | refine Qaa ?_ _)); refine Qam ?_ NB280_282.out _; (with_reducible repeat (first | refine Qab ?_ _ | refine Qad ?_ | refine Qaa ?_ _)); refine Qam ?_ NB280_282.out _; (with_reducible repeat (first | refine Qab ?_ _ | refine Qad ?_ | refine Qaa ?_ _)); refine Qam ?_ NB280_282.out _; (with_reducible repeat (first | refine Qab ?_ _ | refine Qad ?_ | refine Qaa ?_ _)); refine Qam ?_ NB280_282.out _; (with_reducible repeat (first | refine Qab ?_ _ | refine Qad ?_ | refine Qaa ?_ _)); refine Qam ?_ NB280_282.out _; (with_reducible repeat (first | refine Qab ?_ _ | refine Qad ?_ | refine Qaa ?_ _)); exact BK280.out)) : gb280 ≠ gb284)); have n14_ := Aside0.mk ((by rw [hg]; exact Nat.ne_of_gt (blk_lt (g := gb280) (o := .cells #[.slice A3 l3.length c3] 32 (0, 0)) (by (with_reducible repeat (first | refine Qab ?_ _ | refine Qad ?_ | refine Qaa ?_ _)); refine Qam ?_ NB280_282.out _; (with_reducible repeat (first | refine Qab ?_ _ | refine Qad ?_ | refine Qaa ?_ _)); refine Qam ?_ NB280_282.out _; (with_reducible repeat (first | refine Qab ?_ _ | refine Qad ?_ | refine Qaa ?_ _)); refine Qam ?_ NB280_282.out _; (with_reducible repeat (first | refine Qab ?_ _ | refine Qad ?_ | refine Qaa ?_ _)); refine Qam ?_ NB280_282.out _; (with_reducible repeat (first | refine Qab ?_ _ | refine Qad ?_ | refine Qaa ?_ _)); refine Qam ?_ NB280_282.out _; (with_reducible repeat (first | refine Qab ?_ _ | refine Qad ?_ | refine Qaa ?_ _)); refine Qam ?_ NB280_282.out _; (with_reducible repeat (first | refine Qab ?_ _ | refine Qad ?_ | refine Qaa ?_ _)); refine Qam ?_ NB280_282.out _; (with_reducible repeat (first | refine Qab ?_ _ | refine Qad ?_ | refine Qaa ?_ _)); refine Qam ?_ NB280_282.out _; (with_reducible repeat (first | refine Qab ?_ _ | refine Qad ?_ | refine Qaa ?_ _)); refine Qam ?_ NB280_282.out _; (with_reducible repeat (first | refine Qab ?_ _ | refine Qad ?_ | refine Qaa ?_ _)); exact BK280.out)) : gb284 ≠ gb280)); have n15_ := Aside0.mk ((by rw [hg]; exact Nat.ne_of_lt (blk_lt (g := gb282) (o := .cells #[.string ((rd_T48 l0 x23_1).f0.f0), .string ((rd_T48 l0 x23_1).f0.f1), .int .i64 ((rd_T48 l0 x23_1).f1), .int .i64 ((rd_T48 l0 x23_1).f2), .int .i64 ((rd_T48 l0 x23_1).f3), .int .i64 ((rd_T48 l0 x23_1).f4), .int .i64 ((rd_T48 l0 x23_1).f5), .int .i64 ((rd_T48 l0 x23_1).f6), .int .i64 ((rd_T48 l0 x23_1).f7)] 48 (0, 0)) (by (with_reducible repeat (first | refine Qab ?_ _ | refine Qad ?_ | refine Qaa ?_ _)); refine Qas (cs := #[.string ((rd_T48 l0 x23_1).f0.f0), .string ((rd_T48 l0 x23_1).f0.f1), .int .i64 ((rd_T48 l0 x23_1).f1), .int .i64 ((rd_T48 l0 x23_1).f2), .int .i64 ((rd_T48 l0 x23_1).f3), .int .i64 ((rd_T48 l0 x23_1).f4), .int .i64 ((rd_T48 l0 x23_1).f5), .int .i64 ((rd_T48 l0 x23_1).f6), .int .i64 0]) ?_ 8 _ rfl; (with_reducible repeat (first | refine Qab ?_ _ | refine Qad ?_ | refine Qaa ?_ _)); refine Qas (cs := #[.string ((rd_T48 l0 x23_1).f0.f0), .string ((rd_T48 l0 x23_1).f0.f1), .int .i64 ((rd_T48 l0 x23_1).f1), .int .i64 ((rd_T48 l0 x23_1).f2), .int .i64 ((rd_T48 l0 x23_1).f3), .int .i64 ((rd_T48 l0 x23_1).f4), .int .i64 ((rd_T48 l0 x23_1).f5), .int .i64 0, .int .i64 0]) ?_ 7 _ rfl; (with_reducible repeat (first | refine Qab ?_ _ | refine Qad ?_ | refine Qaa ?_ _)); refine Qas (cs := #[.string ((rd_T48 l0 x23_1).f0.f0), .string ((rd_T48 l0 x23_1).f0.f1), .int .i64 ((rd_T48 l0 x23_1).f1), .int .i64 ((rd_T48 l0 x23_1).f2), .int .i64 ((rd_T48 l0 x23_1).f3), .int .i64 ((rd_T48 l0 x23_1).f4), .int .i64 0, .int .i64 0, .int .i64 0]) ?_ 6 _ rfl; (with_reducible repeat (first | refine Qab ?_ _ | refine Qad ?_ | refine Qaa ?_ _)); refine Qas (cs := #[.string ((rd_T48 l0 x23_1).f0.f0), .string ((rd_T48 l0 x23_1).f0.f1), .int .i64 ((rd_T48 l0 x23_1).f1), .int .i64 ((rd_T48 l0 x23_1).f2), .int .i64 ((rd_T48 l0 x23_1).f3), .int .i64 0, .int .i64 0, .int .i64 0, .int .i64 0]) ?_ 5 _ rfl; (with_reducible repeat (first | refine Qab ?_ _ | refine Qad ?_ | refine Qaa ?_ _)); refine Qas (cs := #[.string ((rd_T48 l0 x23_1).f0.f0), .string ((rd_T48 l0 x23_1).f0.f1), .int .i64 ((rd_T48 l0 x23_1).f1), .int .i64 ((rd_T48 l0 x23_1).f2), .int .i64 0, .int .i64 0, .int .i64 0, .int .i64 0, .int .i64 0]) ?_ 4 _ rfl; (with_reducible repeat (first | refine Qab ?_ _ | refine Qad ?_ | refine Qaa ?_ _)); refine Qas (cs := #[.string ((rd_T48 l0 x23_1).f0.f0), .string ((rd_T48 l0 x23_1).f0.f1), .int .i64 ((rd_T48 l0 x23_1).f1), .int .i64 0, .int .i64 0, .int .i64 0, .int .i64 0, .int .i64 0, .int .i64 0]) ?_ 3 _ rfl; (with_reducible repeat (first | refine Qab ?_ _ | refine Qad ?_ | refine Qaa ?_ _)); refine Qas (cs := #[.string ((rd_T48 l0 x23_1).f0.f0), .string ((rd_T48 l0 x23_1).f0.f1), .int .i64 0, .int .i64 0, .int .i64 0, .int .i64 0, .int .i64 0, .int .i64 0, .int .i64 0]) ?_ 2 _ rfl; (with_reducible repeat (first | refine Qab ?_ _ | refine Qad ?_ | refine Qaa ?_ _)); refine Qas (cs := #[.string ((rd_T48 l0 x23_1).f0.f0), .string (⟨#[]⟩ : ByteArray), .int .i64 0, .int .i64 0, .int .i64 0, .int .i64 0, .int .i64 0, .int .i64 0, .int .i64 0]) ?_ 1 _ rfl; (with_reducible repeat (first | refine Qab ?_ _ | refine Qad ?_ | refine Qaa ?_ _)); refine Qas (cs := #[.string (⟨#[]⟩ : ByteArray), .string (⟨#[]⟩ : ByteArray), .int .i64 0, .int .i64 0, .int .i64 0, .int .i64 0, .int .i64 0, .int .i64 0, .int .i64 0]) ?_ 0 _ rfl; (with_reducible repeat (first | refine Qab ?_ _ | refine Qad ?_ | refine Qaa ?_ _)); exact BK282.out)) : gb282 ≠ gb284)); have n16_ := Aside0.mk ((by rw [hg]; exact Nat.ne_of_gt (blk_lt (g := gb282) (o := .cells #[.string ((rd_T48 l0 x23_1).f0.f0), .string ((rd_T48 l0 x23_1).f0.f1), .int .i64 ((rd_T48 l0 x23_1).f1), .int .i64 ((rd_T48 l0 x23_1).f2), .int .i64 ((rd_T48 l0 x23_1).f3), .int .i64 ((rd_T48 l0 x23_1).f4), .int .i64 ((rd_T48 l0 x23_1).f5), .int .i64 ((rd_T48 l0 x23_1).f6), .int .i64 ((rd_T48 l0 x23_1).f7)] 48 (0, 0)) (by (with_reducible repeat (first | refine Qab ?_ _ | refine Qad ?_ | refine Qaa ?_ _)); refine Qas (cs := #[.string ((rd_T48 l0 x23_1).f0.f0), .string ((rd_T48 l0 x23_1).f0.f1), .int .i64 ((rd_T48 l0 x23_1).f1), .int .i64 ((rd_T48 l0 x23_1).f2), .int .i64 ((rd_T48 l0 x23_1).f3), .int .i64 ((rd_T48 l0 x23_1).f4), .int .i64 ((rd_T48 l0 x23_1).f5), .int .i64 ((rd_T48 l0 x23_1).f6), .int .i64 0]) ?_ 8 _ rfl; (with_reducible repeat (first | refine Qab ?_ _ | refine Qad ?_ | refine Qaa ?_ _)); refine Qas (cs := #[.string ((rd_T48 l0 x23_1).f0.f0), .string ((rd_T48 l0 x23_1).f0.f1), .int .i64 ((rd_T48 l0 x23_1).f1), .int .i64 ((rd_T48 l0 x23_1).f2), .int .i64 ((rd_T48 l0 x23_1).f3), .int .i64 ((rd_T48 l0 x23_1).f4), .int .i64 ((rd_T48 l0 x23_1).f5), .int .i64 0, .int .i64 0]) ?_ 7 _ rfl; (with_reducible repeat (first | refine Qab ?_ _ | refine Qad ?_ | refine Qaa ?_ _)); refine Qas (cs := #[.string ((rd_T48 l0 x23_1).f0.f0), .string ((rd_T48 l0 x23_1).f0.f1), .int .i64 ((rd_T48 l0 x23_1).f1), .int .i64 ((rd_T48 l0 x23_1).f2), .int .i64 ((rd_T48 l0 x23_1).f3), .int .i64 ((rd_T48 l0 x23_1).f4), .int .i64 0, .int .i64 0, .int .i64 0]) ?_ 6 _ rfl; (with_reducible repeat (first | refine Qab ?_ _ | refine Qad ?_ | refine Qaa ?_ _)); refine Qas (cs := #[.string ((rd_T48 l0 x23_1).f0.f0), .string ((rd_T48 l0 x23_1).f0.f1), .int .i64 ((rd_T48 l0 x23_1).f1), .int .i64 ((rd_T48 l0 x23_1).f2), .int .i64 ((rd_T48 l0 x23_1).f3), .int .i64 0, .int .i64 0, .int .i64 0, .int .i64 0]) ?_ 5 _ rfl; (with_reducible repeat (first | refine Qab ?_ _ | refine Qad ?_ | refine Qaa ?_ _)); refine Qas (cs := #[.string ((rd_T48 l0 x23_1).f0.f0), .string ((rd_T48 l0 x23_1).f0.f1), .int .i64 ((rd_T48 l0 x23_1).f1), .int .i64 ((rd_T48 l0 x23_1).f2), .int .i64 0, .int .i64 0, .int .i64 0, .int .i64 0, .int .i64 0]) ?_ 4 _ rfl; (with_reducible repeat (first | refine Qab ?_ _ | refine Qad ?_ | refine Qaa ?_ _)); refine Qas (cs := #[.string ((rd_T48 l0 x23_1).f0.f0), .string ((rd_T48 l0 x23_1).f0.f1), .int .i64 ((rd_T48 l0 x23_1).f1), .int .i64 0, .int .i64 0, .int .i64 0, .int .i64 0, .int .i64 0, .int .i64 0]) ?_ 3 _ rfl; (with_reducible repeat (first | refine Qab ?_ _ | refine Qad ?_ | refine Qaa ?_ _)); refine Qas (cs := #[.string ((rd_T48 l0 x23_1).f0.f0), .string ((rd_T48 l0 x23_1).f0.f1), .int .i64 0, .int .i64 0, .int .i64 0, .int .i64 0, .int .i64 0, .int .i64 0, .int .i64 0]) ?_ 2 _ rfl; (with_reducible repeat (first | refine Qab ?_ _ | refine Qad ?_ | refine Qaa ?_ _)); refine Qas (cs := #[.string ((rd_T48 l0 x23_1).f0.f0), .string (⟨#[]⟩ : ByteArray), .int .i64 0, .int .i64 0, .int .i64 0, .int .i64 0, .int .i64 0, .int .i64 0, .int .i64 0]) ?_ 1 _ rfl; (with_reducible repeat (first | refine Qab ?_ _ | refine Qad ?_ | refine Qaa ?_ _)); refine Qas (cs := #[.string (⟨#[]⟩ : ByteArray), .string (⟨#[]⟩ : ByteArray), .int .i64 0, .int .i64 0, .int .i64 0, .int .i64 0, .int .i64 0, .int .i64 0, .int .i64 0]) ?_ 0 _ rfl; (with_reducible repeat (first | refine Qab ?_ _ | refine Qad ?_ | refine Qaa ?_ _)); exact BK282.out)) : gb284 ≠ gb282)); clear HO_11; clear BK278; clear BK279; clear BK280; clear BK282; clear HB; have HO_11 := n0_; have BK278 := n1_; have BK279 := n2_; have BK280 := n3_; have BK282 := n4_; have HB := n5_; have BK284 := n6_; have GW284 := n7_; have GE284 := n8_; have NB278_284 := n9_; have NB284_278 := n10_; have NB279_284 := n11_; have NB284_279 := n12_; have NB280_284 := n13_; have NB284_280 := n14_; have NB282_284 := n15_; have NB284_282 := n16_; clear n0_ n1_ n2_ n3_ n4_ n5_ n6_ n7_ n8_ n9_ n10_ n11_ n12_ n13_ n14_ n15_ n16_; clear hb hbox hg; have hnb25 := NB278_279.out; have hnc25 := NB279_278.out; have hnb26 := NB278_280.out; have hnc26 := NB280_278.out; have hnb27 := NB278_284.out; have hnc27 := NB284_278.out; have hcz28_0 : w24.cell? ⟨gb278, 0, none⟩ = some (.slice A1 l1.length c1) := (Qah BK278.out 0).trans rfl; have hfz28_0 := Qaf BK278.out 0; have hnb29 := NB284_279.out; have hnc29 := NB279_284.out; have hnb30 := NB284_280.out; have hnc30 := NB280_284.out; have hnb31 := NB284_282.out; have hnc31 := NB282_284.out; have hcz32_0 : w24.cell? ⟨gb284, 0, none⟩ = some (.string ((rd_T48 l0 x23_1).f0.f0)) := (Qah BK284.out 0).trans rfl; have hcz32_1 : w24.cell? ⟨gb284, 1, none⟩ = some (.string ((rd_T48 l0 x23_1).f0.f1)) := (Qah BK284.out 1).trans rfl; have hfz32_0 := Qaf BK284.out 0; have hfz32_1 := Qaf BK284.out 1; have hnb33 := NB279_280.out; have hnc33 := NB280_279.out; have hcz34_0 : w24.cell? ⟨gb279, 0, none⟩ = some (.slice A2 l2.length c2) := (Qah BK279.out 0).trans rfl; have hfz34_0 := Qaf BK279.out 0; have hcz35_0 : w24.cell? ⟨gb280, 0, none⟩ = some (.slice A3 l3.length c3) := (Qah BK280.out 0).trans rfl; have hfz35_0 := Qaf BK280.out 0) | ((with_reducible refine Qay (f := 30) rfl ?_); refine goesL_ (some 14) rfl rfl Try.func30 (by kernel_rfl) rfl #[.slice A1 l1.length c1, .agg #[.string ((rd_T48 l0 x23_1).f0.f0), .string ((rd_T48 l0 x23_1).f0.f1)], .int .i64 ((rd_T48 l0 x23_1).f7), .slice A2 l2.length c2, .slice A3 l3.length c3] rfl (Zl) ?_; (with_reducible refine (Qa5.calls k1 _ _ l1 ((rd_T48 l0 x23_1).f0.f0) ((rd_T48 l0 x23_1).f0.f1) ((rd_T48 l0 x23_1).f7) _ _ l2 _ _ l3 t285 t286 _ ?side1 ?side2 ?side3 ?side4 ?side5 ?side6 A19.out).mono ?_); (case side1 => exact Zv (Kd.C_below HR1.out HB.out)); (case side2 => exact HC1.out); (case side3 => exact Zv (Kd.C_below HR2.out HB.out)); (case side4 => exact HC2.out); (case side5 => exact Zv (Kd.C_below HR3.out HB.out)); (case side6 => exact HC3.out); rintro e w36 ⟨rfl, hb⟩; refine ⟨_, rfl, ?_⟩; have n0_ := Aside0.mk (Kd.R_below (Zr HO_11.out) hb); have n1_ := Aside0.mk (Qaj (g := gb278) (o := .cells #[.slice A1 l1.length c1] 30 (0, 0)) (Zu BK278.out) hb); have n2_ := Aside0.mk (Qaj (g := gb279) (o := .cells #[.slice A2 l2.length c2] 31 (0, 0)) (Zu BK279.out) hb); have n3_ := Aside0.mk (Qaj (g := gb280) (o := .cells #[.slice A3 l3.length c3] 32 (0, 0)) (Zu BK280.out) hb); have n4_ := Aside0.mk (Qaj (g := gb282) (o := .cells #[.string ((rd_T48 l0 x23_1).f0.f0), .string ((rd_T48 l0 x23_1).f0.f1), .int .i64 ((rd_T48 l0 x23_1).f1), .int .i64 ((rd_T48 l0 x23_1).f2), .int .i64 ((rd_T48 l0 x23_1).f3), .int .i64 ((rd_T48 l0 x23_1).f4), .int .i64 ((rd_T48 l0 x23_1).f5), .int .i64 ((rd_T48 l0 x23_1).f6), .int .i64 ((rd_T48 l0 x23_1).f7)] 48 (0, 0)) (Zu BK282.out) hb); have n5_ := Aside0.mk (Qaj (g := gb284) (o := .cells #[.string ((rd_T48 l0 x23_1).f0.f0), .string ((rd_T48 l0 x23_1).f0.f1)] 44 (0, 0)) (Zu BK284.out) hb); have n6_ := Aside0.mk (Qaq (Zc5 GE278.out GE279.out GE280.out GE282.out GE284.out) hb); clear HO_11; clear BK278; clear BK279; clear BK280; clear BK282; clear BK284; clear HB; have HO_11 := n0_; have BK278 := n1_; have BK279 := n2_; have BK280 := n3_; have BK282 := n4_; have BK284 := n5_; have HB := n6_; clear n0_ n1_ n2_ n3_ n4_ n5_ n6_; (try clear hb); (try clear hb2); (try clear hk); (try clear hi)))
        (try simp only [Act.put, List.setIfInBounds_toArray, List.set_cons_zero, List.set_cons_succ])
        by_cases c37 : t286 = 0
        ·rw [if_pos c37] at H
         have c37b0 : (t286 == 0) = true := beq_iff_eq.mpr c37
         have c37b1 : (t286 != 0) = false := bne_eq_false_iff_eq.mpr c37
         clear c37
         (try simp only [c37b0, c37b1])
         replace H := Option.bind_eq_some_iff.mp H
         obtain ⟨⟨t287, t288⟩, A380, H⟩ := H
         replace H : (if t288 = 0 then (if x11_1.length < 2513169434916 then (QaU.l0 k1 (x11_1 ++ [(⟨(⟨(rd_T48 l0 x23_1).f0.f0, (rd_T48 l0 x23_1).f0.f1⟩ : S44), (rd_T48 l0 x23_1).f7, t285, t287⟩ : S50)]) l0 (l0.length : Int) (wrap64 (x23_1 + 1)) l1 l2 l3) else (none)) else (some (([] : List (S50)), t288))) = some (r1, r2) := H
         have A38 := Aside0.mk A380
         clear A380
         have hnb39 := NB282_278.out
         have hnc39 := NB278_282.out
         have hnb40 := NB282_279.out
         have hnc40 := NB279_282.out
         have hnb41 := NB282_280.out
         have hnc41 := NB280_282.out
         have hnb42 := NB282_284.out
         have hnc42 := NB284_282.out
         have hcz43_0 : w36.cell? ⟨gb282, 0, none⟩ = some (.string ((rd_T48 l0 x23_1).f0.f0)) := (Qah BK282.out 0).trans rfl
         have hcz43_1 : w36.cell? ⟨gb282, 1, none⟩ = some (.string ((rd_T48 l0 x23_1).f0.f1)) := (Qah BK282.out 1).trans rfl
         have hcz43_2 : w36.cell? ⟨gb282, 2, none⟩ = some (.int .i64 ((rd_T48 l0 x23_1).f1)) := (Qah BK282.out 2).trans rfl
         have hcz43_3 : w36.cell? ⟨gb282, 3, none⟩ = some (.int .i64 ((rd_T48 l0 x23_1).f2)) := (Qah BK282.out 3).trans rfl
         have hcz43_4 : w36.cell? ⟨gb282, 4, none⟩ = some (.int .i64 ((rd_T48 l0 x23_1).f3)) := (Qah BK282.out 4).trans rfl
         have hcz43_5 : w36.cell? ⟨gb282, 5, none⟩ = some (.int .i64 ((rd_T48 l0 x23_1).f4)) := (Qah BK282.out 5).trans rfl
         have hcz43_6 : w36.cell? ⟨gb282, 6, none⟩ = some (.int .i64 ((rd_T48 l0 x23_1).f5)) := (Qah BK282.out 6).trans rfl
         have hcz43_7 : w36.cell? ⟨gb282, 7, none⟩ = some (.int .i64 ((rd_T48 l0 x23_1).f6)) := (Qah BK282.out 7).trans rfl
         have hcz43_8 : w36.cell? ⟨gb282, 8, none⟩ = some (.int .i64 ((rd_T48 l0 x23_1).f7)) := (Qah BK282.out 8).trans rfl
         have hfz43_0 := Qaf BK282.out 0
         have hfz43_1 := Qaf BK282.out 1
         have hfz43_2 := Qaf BK282.out 2
         have hfz43_3 := Qaf BK282.out 3
         have hfz43_4 := Qaf BK282.out 4
         have hfz43_5 := Qaf BK282.out 5
         have hfz43_6 := Qaf BK282.out 6
         have hfz43_7 := Qaf BK282.out 7
         have hfz43_8 := Qaf BK282.out 8
         go_upto_if 51 with (first | ((with_reducible refine Qay (f := 15) rfl ?_); refine goesL_ (some 47) rfl rfl Try.func15 (by kernel_rfl) rfl #[.int .i64 ((rd_T48 l0 x23_1).f7), .int .i64 t285] rfl (Zl) ?_; (with_reducible refine (Qbz.calls ((rd_T48 l0 x23_1).f7) t285 t287 t288 _ A38.out).mono ?_); rintro e w44 ⟨rfl, hb⟩; refine ⟨_, rfl, ?_⟩; have n0_ := Aside0.mk (Kd.R_below (Zr HO_11.out) hb); have n1_ := Aside0.mk (Qaj (g := gb278) (o := .cells #[.slice A1 l1.length c1] 30 (0, 0)) (Zu BK278.out) hb); have n2_ := Aside0.mk (Qaj (g := gb279) (o := .cells #[.slice A2 l2.length c2] 31 (0, 0)) (Zu BK279.out) hb); have n3_ := Aside0.mk (Qaj (g := gb280) (o := .cells #[.slice A3 l3.length c3] 32 (0, 0)) (Zu BK280.out) hb); have n4_ := Aside0.mk (Qaj (g := gb282) (o := .cells #[.string ((rd_T48 l0 x23_1).f0.f0), .string ((rd_T48 l0 x23_1).f0.f1), .int .i64 ((rd_T48 l0 x23_1).f1), .int .i64 ((rd_T48 l0 x23_1).f2), .int .i64 ((rd_T48 l0 x23_1).f3), .int .i64 ((rd_T48 l0 x23_1).f4), .int .i64 ((rd_T48 l0 x23_1).f5), .int .i64 ((rd_T48 l0 x23_1).f6), .int .i64 ((rd_T48 l0 x23_1).f7)] 48 (0, 0)) (Zu BK282.out) hb); have n5_ := Aside0.mk (Qaj (g := gb284) (o := .cells #[.string ((rd_T48 l0 x23_1).f0.f0), .string ((rd_T48 l0 x23_1).f0.f1)] 44 (0, 0)) (Zu BK284.out) hb); have n6_ := Aside0.mk (Qaq (Zc5 GE278.out GE279.out GE280.out GE282.out GE284.out) hb); clear HO_11; clear BK278; clear BK279; clear BK280; clear BK282; clear BK284; clear HB; have HO_11 := n0_; have BK278 := n1_; have BK279 := n2_; have BK280 := n3_; have BK282 := n4_; have BK284 := n5_; have HB := n6_; clear n0_ n1_ n2_ n3_ n4_ n5_ n6_; (try clear hb); (try clear hb2); (try clear hk); (try clear hi)))
         (try simp only [Act.put, List.setIfInBounds_toArray, List.set_cons_zero, List.set_cons_succ])
         by_cases c45 : t288 = 0
         ·rw [if_pos c45] at H
          have c45b0 : (t288 == 0) = true := beq_iff_eq.mpr c45
          have c45b1 : (t288 != 0) = false := bne_eq_false_iff_eq.mpr c45
          clear c45
          (try simp only [c45b0, c45b1])
          by_cases c46 : x11_1.length < 2513169434916
          ·rw [if_pos c46] at H
           have LMc46 := Aside0.mk c46
           clear c46
           obtain ⟨y289, hy289⟩ : ∃ y_ : List (S50), y_ = (x11_1 ++ [(⟨(⟨(rd_T48 l0 x23_1).f0.f0, (rd_T48 l0 x23_1).f0.f1⟩ : S44), (rd_T48 l0 x23_1).f7, t285, t287⟩ : S50)]) := ⟨_, rfl⟩
           replace H : (QaU.l0 k1 y289 l0 (l0.length : Int) (wrap64 (x23_1 + 1)) l1 l2 l3) = some (r1, r2) := by first | (rw [hy289]; with_reducible exact H) | (have H2_ := (Option.bind_some _ _).symm.trans H; rw [hy289]; with_reducible exact H2_) | (have H2_ := (Option.bind_some _ _).symm.trans H; with_reducible exact H2_) | with_reducible exact H | (rw [hy289]; exact H) | exact H
           have Ny289 := Aside0.mk hy289
           clear hy289
           have H' := Aside0.mk H
           clear H
           have hnb47 := NB282_278.out
           have hnc47 := NB278_282.out
           have hnb48 := NB282_279.out
           have hnc48 := NB279_282.out
           have hnb49 := NB282_280.out
           have hnc49 := NB280_282.out
           have hnb50 := NB282_284.out
           have hnc50 := NB284_282.out
           have hcz51_0 : w44.cell? ⟨gb282, 0, none⟩ = some (.string ((rd_T48 l0 x23_1).f0.f0)) := (Qah BK282.out 0).trans rfl
           have hcz51_1 : w44.cell? ⟨gb282, 1, none⟩ = some (.string ((rd_T48 l0 x23_1).f0.f1)) := (Qah BK282.out 1).trans rfl
           have hcz51_2 : w44.cell? ⟨gb282, 2, none⟩ = some (.int .i64 ((rd_T48 l0 x23_1).f1)) := (Qah BK282.out 2).trans rfl
           have hcz51_3 : w44.cell? ⟨gb282, 3, none⟩ = some (.int .i64 ((rd_T48 l0 x23_1).f2)) := (Qah BK282.out 3).trans rfl
           have hcz51_4 : w44.cell? ⟨gb282, 4, none⟩ = some (.int .i64 ((rd_T48 l0 x23_1).f3)) := (Qah BK282.out 4).trans rfl
           have hcz51_5 : w44.cell? ⟨gb282, 5, none⟩ = some (.int .i64 ((rd_T48 l0 x23_1).f4)) := (Qah BK282.out 5).trans rfl
           have hcz51_6 : w44.cell? ⟨gb282, 6, none⟩ = some (.int .i64 ((rd_T48 l0 x23_1).f5)) := (Qah BK282.out 6).trans rfl
           have hcz51_7 : w44.cell? ⟨gb282, 7, none⟩ = some (.int .i64 ((rd_T48 l0 x23_1).f6)) := (Qah BK282.out 7).trans rfl
           have hcz51_8 : w44.cell? ⟨gb282, 8, none⟩ = some (.int .i64 ((rd_T48 l0 x23_1).f7)) := (Qah BK282.out 8).trans rfl
           have hfz51_0 := Qaf BK282.out 0
           have hfz51_1 := Qaf BK282.out 1
           have hfz51_2 := Qaf BK282.out 2
           have hfz51_3 := Qaf BK282.out 3
           have hfz51_4 := Qaf BK282.out 4
           have hfz51_5 := Qaf BK282.out 5
           have hfz51_6 := Qaf BK282.out 6
           have hfz51_7 := Qaf BK282.out 7
           have hfz51_8 := Qaf BK282.out 8
           go_wp2_with (first | ((with_reducible refine QbH (b := .append) (xs := #[.tmp 53, .tmp 61]) rfl ?_); at_builtin; refine Kd.R_append k50 (w0 := w) w.heap.size rfl (.tmp 53) (.tmp 61) 35 50 (.agg #[(.string ⟨#[]⟩), (.string ⟨#[]⟩), (.int .i64 0), (.int .i64 0), (.int .i64 0)]) 56 rfl Try.underlying35 info50 rfl (by decide) (by omega) u11 x11_1 (⟨(⟨(rd_T48 l0 x23_1).f0.f0, (rd_T48 l0 x23_1).f0.f1⟩ : S44), (rd_T48 l0 x23_1).f7, t285, t287⟩ : S50) [.string ((rd_T48 l0 x23_1).f0.f0), .string ((rd_T48 l0 x23_1).f0.f1), .int .i64 ((rd_T48 l0 x23_1).f7), .int .i64 t285, .int .i64 t287] (fun _ => True) (fun _ => False) rfl rfl ?aP (fun _ hk => hk.elim) ?aF ?aO ?aB ?aS ?aL ?_; (case aP => exact QfU _ _ _ (⟨(⟨(rd_T48 l0 x23_1).f0.f0, (rd_T48 l0 x23_1).f0.f1⟩ : S44), (rd_T48 l0 x23_1).f7, t285, t287⟩ : S50)); (case aB => exact (Zc5 GE278.out GE279.out GE280.out GE282.out GE284.out)); (case aF => exact (fun _ _ => trivial)); (case aO => exact (Zr HO_11.out)); (case aS => exact (Qan (Zc5 GE278.out GE279.out GE280.out GE282.out GE284.out))); (case aL => have := LMc46.out; omega); intro v290 w52 ho hb hg hat; rw [← Ny289.out] at ho; have n0_ := Aside0.mk (Qa1 (g := gb278) (o := .cells #[.slice A1 l1.length c1] 30 (0, 0)) (Zu BK278.out) hg (Kd.R_ne HO_11.out BK278.out (by decide))); have n1_ := Aside0.mk (Qa1 (g := gb279) (o := .cells #[.slice A2 l2.length c2] 31 (0, 0)) (Zu BK279.out) hg (Kd.R_ne HO_11.out BK279.out (by decide))); have n2_ := Aside0.mk (Qa1 (g := gb280) (o := .cells #[.slice A3 l3.length c3] 32 (0, 0)) (Zu BK280.out) hg (Kd.R_ne HO_11.out BK280.out (by decide))); have n3_ := Aside0.mk (Qa1 (g := gb282) (o := .cells #[.string ((rd_T48 l0 x23_1).f0.f0), .string ((rd_T48 l0 x23_1).f0.f1), .int .i64 ((rd_T48 l0 x23_1).f1), .int .i64 ((rd_T48 l0 x23_1).f2), .int .i64 ((rd_T48 l0 x23_1).f3), .int .i64 ((rd_T48 l0 x23_1).f4), .int .i64 ((rd_T48 l0 x23_1).f5), .int .i64 ((rd_T48 l0 x23_1).f6), .int .i64 ((rd_T48 l0 x23_1).f7)] 48 (0, 0)) (Zu BK282.out) hg (Kd.R_ne HO_11.out BK282.out (by decide))); have n4_ := Aside0.mk (Qa1 (g := gb284) (o := .cells #[.string ((rd_T48 l0 x23_1).f0.f0), .string ((rd_T48 l0 x23_1).f0.f1)] 44 (0, 0)) (Zu BK284.out) hg (Kd.R_ne HO_11.out BK284.out (by decide))); have n5_ := Aside0.mk (hb); have n6_ := Aside0.mk (ho); clear BK278; clear BK279; clear BK280; clear BK282; clear BK284; clear HB; clear HO_11; have BK278 := n0_; have BK279 := n1_; have BK280 := n2_; have BK282 := n3_; have BK284 := n4_; have HB := n5_; have HO291 := n6_; clear n0_ n1_ n2_ n3_ n4_ n5_ n6_; clear ho hb hg hat))
           go_roundg k1
           case measure => have := HK1.out; omega
           case rel => exact ⟨(y289), (wrap64 (x23_1 + 1)), (Zs), H', ⟨by have := HK1.out; omega⟩, ⟨Zr HO291.out⟩, ⟨Zu BK278.out⟩, ⟨Zu BK279.out⟩, ⟨Zu BK280.out⟩, ⟨Zc5 GE278.out GE279.out GE280.out GE282.out GE284.out⟩⟩
          ·rw [if_neg c46] at H
           exact absurd H (by simp)
         ·rw [if_neg c45] at H
          have c45b0 : (t288 == 0) = false := beq_eq_false_iff_ne.mpr c45
          have c45b1 : (t288 != 0) = true := bne_iff_ne.mpr c45
          (try simp only [c45b0, c45b1])
          simp only [Option.some.injEq, Prod.mk.injEq] at H
          obtain ⟨rfl, rfl⟩ := H
          go_wp2
          go_ret2
          exact ⟨_, Zq, by first | exact Kd.R_nil _ _ _ _ _ | exact Kd.N_nil _ _ _ _ _ | exact Kd.V_nil _ _ _ _ _ | exact Kd.Q_nil _ _ _ _ _ | exact Kd.S_nil _ _ _ _ _, Zc5 GE278.out GE279.out GE280.out GE282.out GE284.out⟩
        ·rw [if_neg c37] at H
         have c37b0 : (t286 == 0) = false := beq_eq_false_iff_ne.mpr c37
         have c37b1 : (t286 != 0) = true := bne_iff_ne.mpr c37
         (try simp only [c37b0, c37b1])
         simp only [Option.some.injEq, Prod.mk.injEq] at H
         obtain ⟨rfl, rfl⟩ := H
         go_wp2
         go_ret2
         exact ⟨_, Zq, by first | exact Kd.R_nil _ _ _ _ _ | exact Kd.N_nil _ _ _ _ _ | exact Kd.V_nil _ _ _ _ _ | exact Kd.Q_nil _ _ _ _ _ | exact Kd.S_nil _ _ _ _ _, Zc5 GE278.out GE279.out GE280.out GE282.out GE284.out⟩
       ·replace c18 := Bool.eq_false_iff.mpr c18
        subst c18
        have H1 : (some (([] : List (S50)), 2)) = some (r1, r2) := by rw [if_neg (show ¬ (false = true) by decide)] at H; exact H
        clear H
        have H := H1
        clear H1
        simp only [Option.some.injEq, Prod.mk.injEq] at H
        obtain ⟨rfl, rfl⟩ := H
        go_wp2
        go_ret2
        exact ⟨_, Zq, by first | exact Kd.R_nil _ _ _ _ _ | exact Kd.N_nil _ _ _ _ _ | exact Kd.V_nil _ _ _ _ _ | exact Kd.Q_nil _ _ _ _ _ | exact Kd.S_nil _ _ _ _ _, Zc4 GE278.out GE279.out GE280.out GE282.out⟩
      ·rw [if_neg c11] at H
       exact absurd H (by simp)
     ·rw [if_neg c10] at H
      exact absurd H (by simp)
    ·rw [if_neg c9] at H
     have c9b0 : decide (x23_1 < (l0.length : Int)) = false := decide_eq_false c9
     clear c9
     (try simp only [c9b0])
     simp only [Option.some.injEq, Prod.mk.injEq] at H
     obtain ⟨rfl, rfl⟩ := H
     go_wp2
     go_ret2
     exact ⟨_, Zq, Zr HO_11.out, Zc3 GE278.out GE279.out GE280.out⟩
def QaE.f (k : Nat) (a0_0 : ByteArray) (a0_1 : ByteArray) (a0_2 : Int) (a0_3 : Int) (a0_4 : Int) (a0_5 : Int) (a0_6 : Int) (a0_7 : Int) (a0_8 : Int) (l0_9 : List (S46)) (l0_10 : List (S84)) (l0_11 : List (S98)) (a0_12 : ByteArray) (l1 : List (S46)) : Option (ByteArray × ByteArray × Int × Int × Int × Bool) := (QaU.f k (([(⟨(⟨a0_0, a0_1⟩ : S44), a0_2, a0_3, a0_4, a0_5, a0_6, a0_7, a0_8⟩ : S48)] : List (S48))) l1 l0_10 l0_11).bind fun bt945 => (if bt945.2 = 0 then (if (bt945.1.length : Int) = 1 then (if 0 < (bt945.1.length : Int) then (some ((rd_T50 bt945.1 0).f0.f0, (rd_T50 bt945.1 0).f0.f1, (rd_T50 bt945.1 0).f1, (rd_T50 bt945.1 0).f2, (rd_T50 bt945.1 0).f3, true)) else (none)) else (some ((⟨#[]⟩ : ByteArray), (⟨#[]⟩ : ByteArray), 0, 0, 0, false))) else (some ((⟨#[]⟩ : ByteArray), (⟨#[]⟩ : ByteArray), 0, 0, 0, false)))
theorem QaE.mono : ∀ a0 a1 a2 a3 a4 a5 a6 a7 a8 a9 a10 a11 a12 a13 k, LeO (QaE.f k a0 a1 a2 a3 a4 a5 a6 a7 a8 a9 a10 a11 a12 a13) (QaE.f (k + 1) a0 a1 a2 a3 a4 a5 a6 a7 a8 a9 a10 a11 a12 a13) := by
 intro a0 a1 a2 a3 a4 a5 a6 a7 a8 a9 a10 a11 a12 a13 k
 unfold QaE.f
 repeat' first
   | (with_reducible exact QaU.mono _ _ _ _ _)
   | (with_reducible exact LeO.refl _)
   | (with_reducible exact LeO.none _)
   | (with_reducible refine LeO.ite ?_ ?_)
   | (with_reducible refine LeO.bind ?_ (fun _ => ?_))
   | exact QaU.mono _ _ _ _ _
   | exact LeO.none _
   | refine LeO.ite ?_ ?_
   | refine LeO.bind ?_ (fun _ => ?_)
set_option maxHeartbeats 8000000 in
set_option maxRecDepth 100000 in
theorem QaE.calls (k : Nat) (a0_0 : ByteArray) (a0_1 : ByteArray) (a0_2 : Int) (a0_3 : Int) (a0_4 : Int) (a0_5 : Int) (a0_6 : Int) (a0_7 : Int) (a0_8 : Int) (A0_9 : Option Addr) (c0_9 : Nat) (l0_9 : List (S46)) (A0_10 : Option Addr) (c0_10 : Nat) (l0_10 : List (S84)) (A0_11 : Option Addr) (c0_11 : Nat) (l0_11 : List (S98)) (a0_12 : ByteArray) (A1 : Option Addr) (c1 : Nat) (l1 : List (S46)) (r1 : ByteArray) (r2 : ByteArray) (r3 : Int) (r4 : Int) (r5 : Int) (r6 : Bool) (w : World) (hr0_9 : Kd.C k46 w A0_9 l0_9.length l0_9) (hc0_9 : l0_9.length ≤ c0_9) (hr0_10 : Kd.C k84 w A0_10 l0_10.length l0_10) (hc0_10 : l0_10.length ≤ c0_10) (hr0_11 : Kd.C k98 w A0_11 l0_11.length l0_11) (hc0_11 : l0_11.length ≤ c0_11) (hr1 : Kd.C k46 w A1 l1.length l1) (hc1 : l1.length ≤ c1) (h : QaE.f k a0_0 a0_1 a0_2 a0_3 a0_4 a0_5 a0_6 a0_7 a0_8 l0_9 l0_10 l0_11 a0_12 l1 = some (r1, r2, r3, r4, r5, r6)) :
  Calls Try.prog 45 #[.agg #[.string a0_0, .string a0_1, .int .i64 a0_2, .int .i64 a0_3, .int .i64 a0_4, .int .i64 a0_5, .int .i64 a0_6, .int .i64 a0_7, .int .i64 a0_8, .slice A0_9 l0_9.length c0_9, .slice A0_10 l0_10.length c0_10, .slice A0_11 l0_11.length c0_11, .string a0_12], .slice A1 l1.length c1] w fun e w' => e = .returned (.tuple #[.agg #[.string r1, .string r2, .int .i64 r3, .int .i64 r4, .int .i64 r5], .bool r6]) ∧ Below w.heap.size w w' := by
 have hu89 := Try.underlying89
 have hu50 := Try.underlying50
 have hu48 := Try.underlying48
 have HR0_9 := Aside0.mk hr0_9
 have HC0_9 := Aside0.mk hc0_9
 clear hr0_9 hc0_9
 have HR0_10 := Aside0.mk hr0_10
 have HC0_10 := Aside0.mk hc0_10
 clear hr0_10 hc0_10
 have HR0_11 := Aside0.mk hr0_11
 have HC0_11 := Aside0.mk hc0_11
 clear hr0_11 hc0_11
 have HR1 := Aside0.mk hr1
 have HC1 := Aside0.mk hc1
 clear hr1 hc1
 have HB := Aside0.mk (Below.refl w.heap.size w)
 have H : ((QaU.f k (([(⟨(⟨a0_0, a0_1⟩ : S44), a0_2, a0_3, a0_4, a0_5, a0_6, a0_7, a0_8⟩ : S48)] : List (S48))) l1 l0_10 l0_11).bind fun bt945 => (if bt945.2 = 0 then (if (bt945.1.length : Int) = 1 then (if 0 < (bt945.1.length : Int) then (some ((rd_T50 bt945.1 0).f0.f0, (rd_T50 bt945.1 0).f0.f1, (rd_T50 bt945.1 0).f1, (rd_T50 bt945.1 0).f2, (rd_T50 bt945.1 0).f3, true)) else (none)) else (some ((⟨#[]⟩ : ByteArray), (⟨#[]⟩ : ByteArray), 0, 0, 0, false))) else (some ((⟨#[]⟩ : ByteArray), (⟨#[]⟩ : ByteArray), 0, 0, 0, false)))) = some (r1, r2, r3, r4, r5, r6) := h
 clear h
 obtain ⟨y942, hy942⟩ : ∃ y_ : List (S48), y_ = (([(⟨(⟨a0_0, a0_1⟩ : S44), a0_2, a0_3, a0_4, a0_5, a0_6, a0_7, a0_8⟩ : S48)] : List (S48))) := ⟨_, rfl⟩
 replace H : ((QaU.f k y942 l1 l0_10 l0_11).bind fun bt945 => (if bt945.2 = 0 then (if (bt945.1.length : Int) = 1 then (if 0 < (bt945.1.length : Int) then (some ((rd_T50 bt945.1 0).f0.f0, (rd_T50 bt945.1 0).f0.f1, (rd_T50 bt945.1 0).f1, (rd_T50 bt945.1 0).f2, (rd_T50 bt945.1 0).f3, true)) else (none)) else (some ((⟨#[]⟩ : ByteArray), (⟨#[]⟩ : ByteArray), 0, 0, 0, false))) else (some ((⟨#[]⟩ : ByteArray), (⟨#[]⟩ : ByteArray), 0, 0, 0, false)))) = some (r1, r2, r3, r4, r5, r6) := by first | (rw [hy942]; with_reducible exact H) | (have H2_ := (Option.bind_some _ _).symm.trans H; rw [hy942]; with_reducible exact H2_) | (have H2_ := (Option.bind_some _ _).symm.trans H; with_reducible exact H2_) | with_reducible exact H | (rw [hy942]; exact H) | exact H
 have Ny942 := Aside0.mk hy942
 clear hy942
 replace H := Option.bind_eq_some_iff.mp H
 obtain ⟨⟨t945, t946⟩, A30, H⟩ := H
 replace H : (if t946 = 0 then (if (t945.length : Int) = 1 then (if 0 < (t945.length : Int) then (some ((rd_T50 t945 0).f0.f0, (rd_T50 t945 0).f0.f1, (rd_T50 t945 0).f1, (rd_T50 t945 0).f2, (rd_T50 t945 0).f3, true)) else (none)) else (some ((⟨#[]⟩ : ByteArray), (⟨#[]⟩ : ByteArray), 0, 0, 0, false))) else (some ((⟨#[]⟩ : ByteArray), (⟨#[]⟩ : ByteArray), 0, 0, 0, false))) = some (r1, r2, r3, r4, r5, r6) := H
 have A3 := Aside0.mk A30
 clear A30
 go_enter Try.func45, Try.ntmps45
 go_upto_region 2 with (first | ((with_reducible refine QaD (N := 2) rfl ?_); (try (refine Qbf (by rfl) ?_; dsimp only)); refine QaL ?hg (N := 2) ?hd (cs := #[.string a0_0, .string a0_1, .int .i64 a0_2, .int .i64 a0_3, .int .i64 a0_4, .int .i64 a0_5, .int .i64 a0_6, .int .i64 a0_7, .int .i64 a0_8, .slice A0_9 l0_9.length c0_9, .slice A0_10 l0_10.length c0_10, .slice A0_11 l0_11.length c0_11, .string a0_12]) (t := 89) ?hr ?_; (case hd => rfl); (case hg => rfl); (case hr => first | (go_simp; done) | (go_simp; rfl)); intro gb940 hg w4 hbox hb; have n0_ := Aside0.mk (Qaq (Zb) hb); have n1_ := Aside0.mk (hbox); have n2_ := Aside0.mk ((by rw [hg]; exact (Qan (Zb)) : w.heap.size ≤ gb940)); have n3_ := Aside0.mk ((by rw [hg]; exact (Qan (Zb)) : w.heap.size ≤ gb940)); clear HB; have HB := n0_; have BK940 := n1_; have GW940 := n2_; have GE940 := n3_; clear n0_ n1_ n2_ n3_; clear hb hbox hg) | ((with_reducible refine QaD (N := 4) rfl ?_); (try (refine Qbf (by rfl) ?_; dsimp only)); refine QaL ?hg (N := 4) ?hd (cs := #[.string (⟨#[]⟩ : ByteArray), .string (⟨#[]⟩ : ByteArray), .int .i64 0, .int .i64 0, .int .i64 0]) (t := 50) ?hr ?_; (case hd => rfl); (case hg => rfl); (case hr => first | (go_simp; done) | (go_simp; rfl)); intro gb941 hg w5 hbox hb; have n0_ := Aside0.mk (Qaj (g := gb940) (o := .cells #[.string a0_0, .string a0_1, .int .i64 a0_2, .int .i64 a0_3, .int .i64 a0_4, .int .i64 a0_5, .int .i64 a0_6, .int .i64 a0_7, .int .i64 a0_8, .slice A0_9 l0_9.length c0_9, .slice A0_10 l0_10.length c0_10, .slice A0_11 l0_11.length c0_11, .string a0_12] 89 (0, 0)) (Zu BK940.out) hb); have n1_ := Aside0.mk (Qaq (Zc1 GE940.out) hb); have n2_ := Aside0.mk (hbox); have n3_ := Aside0.mk ((by rw [hg]; exact (Qan (Zc1 GE940.out)) : w.heap.size ≤ gb941)); have n4_ := Aside0.mk ((by rw [hg]; exact (Qan (Zc1 GE940.out)) : w.heap.size ≤ gb941)); have n5_ := Aside0.mk ((by rw [hg]; exact Nat.ne_of_lt (blk_lt (g := gb940) (o := .cells #[.string a0_0, .string a0_1, .int .i64 a0_2, .int .i64 a0_3, .int .i64 a0_4, .int .i64 a0_5, .int .i64 a0_6, .int .i64 a0_7, .int .i64 a0_8, .slice A0_9 l0_9.length c0_9, .slice A0_10 l0_10.length c0_10, .slice A0_11 l0_11.length c0_11, .string a0_12] 89 (0, 0)) (Zu BK940.out)) : gb940 ≠ gb941)); have n6_ := Aside0.mk ((by rw [hg]; exact Nat.ne_of_gt (blk_lt (g := gb940) (o := .cells #[.string a0_0, .string a0_1, .int .i64 a0_2, .int .i64 a0_3, .int .i64 a0_4, .int .i64 a0_5, .int .i64 a0_6, .int .i64 a0_7, .int .i64 a0_8, .slice A0_9 l0_9.length c0_9, .slice A0_10 l0_10.length c0_10, .slice A0_11 l0_11.length c0_11, .string a0_12] 89 (0, 0)) (Zu BK940.out)) : gb941 ≠ gb940)); clear BK940; clear HB; have BK940 := n0_; have HB := n1_; have BK941 := n2_; have GW941 := n3_; have GE941 := n4_; have NB940_941 := n5_; have NB941_940 := n6_; clear n0_ n1_ n2_ n3_ n4_ n5_ n6_; clear hb hbox hg; have hnb6 := NB940_941.out; have hnc6 := NB941_940.out; have hcz7_0 : w5.cell? ⟨gb940, 0, none⟩ = some (.string a0_0) := (Qah BK940.out 0).trans rfl; have hcz7_1 : w5.cell? ⟨gb940, 1, none⟩ = some (.string a0_1) := (Qah BK940.out 1).trans rfl; have hcz7_2 : w5.cell? ⟨gb940, 2, none⟩ = some (.int .i64 a0_2) := (Qah BK940.out 2).trans rfl; have hcz7_3 : w5.cell? ⟨gb940, 3, none⟩ = some (.int .i64 a0_3) := (Qah BK940.out 3).trans rfl; have hcz7_4 : w5.cell? ⟨gb940, 4, none⟩ = some (.int .i64 a0_4) := (Qah BK940.out 4).trans rfl; have hcz7_5 : w5.cell? ⟨gb940, 5, none⟩ = some (.int .i64 a0_5) := (Qah BK940.out 5).trans rfl; have hcz7_6 : w5.cell? ⟨gb940, 6, none⟩ = some (.int .i64 a0_6) := (Qah BK940.out 6).trans rfl; have hcz7_7 : w5.cell? ⟨gb940, 7, none⟩ = some (.int .i64 a0_7) := (Qah BK940.out 7).trans rfl; have hcz7_8 : w5.cell? ⟨gb940, 8, none⟩ = some (.int .i64 a0_8) := (Qah BK940.out 8).trans rfl; have hcz7_9 : w5.cell? ⟨gb940, 9, none⟩ = some (.slice A0_9 l0_9.length c0_9) := (Qah BK940.out 9).trans rfl; have hcz7_10 : w5.cell? ⟨gb940, 10, none⟩ = some (.slice A0_10 l0_10.length c0_10) := (Qah BK940.out 10).trans rfl; have hcz7_11 : w5.cell? ⟨gb940, 11, none⟩ = some (.slice A0_11 l0_11.length c0_11) := (Qah BK940.out 11).trans rfl; have hcz7_12 : w5.cell? ⟨gb940, 12, none⟩ = some (.string a0_12) := (Qah BK940.out 12).trans rfl; have hfz7_0 := Qaf BK940.out 0; have hfz7_1 := Qaf BK940.out 1; have hfz7_2 := Qaf BK940.out 2; have hfz7_3 := Qaf BK940.out 3; have hfz7_4 := Qaf BK940.out 4; have hfz7_5 := Qaf BK940.out 5; have hfz7_6 := Qaf BK940.out 6; have hfz7_7 := Qaf BK940.out 7; have hfz7_8 := Qaf BK940.out 8; have hfz7_9 := Qaf BK940.out 9; have hfz7_10 := Qaf BK940.out 10; have hfz7_11 := Qaf BK940.out 11; have hfz7_12 := Qaf BK940.out 12) | ((with_reducible refine QaD (N := 11) rfl ?_); (try (refine Qbf (by rfl) ?_; dsimp only)); refine Kd.R_lit k48 _ 48 ?hg (N := 11) ?hd (xs := ([(⟨(⟨a0_0, a0_1⟩ : S44), a0_2, a0_3, a0_4, a0_5, a0_6, a0_7, a0_8⟩ : S48)] : List (S48))) (inner := [.string a0_0, .string a0_1, .int .i64 a0_2, .int .i64 a0_3, .int .i64 a0_4, .int .i64 a0_5, .int .i64 a0_6, .int .i64 a0_7, .int .i64 a0_8]) (ok := fun _ => True) (okp := fun _ => True) ?hr ?hp (fun _ hk => hk) trivial (Below.refl _ _) (Nat.le_refl _) (by simp) ?_; (case hd => rfl); (case hg => rfl); (case hr => first | (go_simp; done) | (go_simp; rfl)); (case hp => exact (Reps.c9 (show Kd.M k48 _ _ _ (⟨(⟨a0_0, a0_1⟩ : S44), a0_2, a0_3, a0_4, a0_5, a0_6, a0_7, a0_8⟩ : S48) [.string a0_0, .string a0_1, .int .i64 a0_2, .int .i64 a0_3, .int .i64 a0_4, .int .i64 a0_5, .int .i64 a0_6, .int .i64 a0_7, .int .i64 a0_8] from (QcN _ _ _ (⟨(⟨a0_0, a0_1⟩ : S44), a0_2, a0_3, a0_4, a0_5, a0_6, a0_7, a0_8⟩ : S48) )) (Reps.none _ _))); intro v943 w8 ho9 hb hg_ hnew_; clear hg_ hnew_; (first | rw [← Ny942.out] at ho9 | (simp only [Int.reduceToNat] at ho9; rw [← Ny942.out] at ho9)); have n0_ := Aside0.mk (Kd.R_lower ho9 (Qan (Zc2 GE940.out GE941.out))); have n1_ := Aside0.mk (Qaj (g := gb940) (o := .cells #[.string a0_0, .string a0_1, .int .i64 a0_2, .int .i64 a0_3, .int .i64 a0_4, .int .i64 a0_5, .int .i64 a0_6, .int .i64 a0_7, .int .i64 a0_8, .slice A0_9 l0_9.length c0_9, .slice A0_10 l0_10.length c0_10, .slice A0_11 l0_11.length c0_11, .string a0_12] 89 (0, 0)) (Zu BK940.out) hb); have n2_ := Aside0.mk (Qaj (g := gb941) (o := .cells #[.string (⟨#[]⟩ : ByteArray), .string (⟨#[]⟩ : ByteArray), .int .i64 0, .int .i64 0, .int .i64 0] 50 (0, 0)) (Zu BK941.out) hb); have n3_ := Aside0.mk (Qaq (Zc2 GE940.out GE941.out) hb); clear BK940; clear BK941; clear HB; have HO944 := n0_; have BK940 := n1_; have BK941 := n2_; have HB := n3_; clear n0_ n1_ n2_ n3_; clear hb ho9; have hcz10_0 : w8.cell? ⟨gb940, 0, none⟩ = some (.string a0_0) := (Qah BK940.out 0).trans rfl; have hcz10_1 : w8.cell? ⟨gb940, 1, none⟩ = some (.string a0_1) := (Qah BK940.out 1).trans rfl; have hcz10_2 : w8.cell? ⟨gb940, 2, none⟩ = some (.int .i64 a0_2) := (Qah BK940.out 2).trans rfl; have hcz10_3 : w8.cell? ⟨gb940, 3, none⟩ = some (.int .i64 a0_3) := (Qah BK940.out 3).trans rfl; have hcz10_4 : w8.cell? ⟨gb940, 4, none⟩ = some (.int .i64 a0_4) := (Qah BK940.out 4).trans rfl; have hcz10_5 : w8.cell? ⟨gb940, 5, none⟩ = some (.int .i64 a0_5) := (Qah BK940.out 5).trans rfl; have hcz10_6 : w8.cell? ⟨gb940, 6, none⟩ = some (.int .i64 a0_6) := (Qah BK940.out 6).trans rfl; have hcz10_7 : w8.cell? ⟨gb940, 7, none⟩ = some (.int .i64 a0_7) := (Qah BK940.out 7).trans rfl; have hcz10_8 : w8.cell? ⟨gb940, 8, none⟩ = some (.int .i64 a0_8) := (Qah BK940.out 8).trans rfl; have hcz10_9 : w8.cell? ⟨gb940, 9, none⟩ = some (.slice A0_9 l0_9.length c0_9) := (Qah BK940.out 9).trans rfl; have hcz10_10 : w8.cell? ⟨gb940, 10, none⟩ = some (.slice A0_10 l0_10.length c0_10) := (Qah BK940.out 10).trans rfl; have hcz10_11 : w8.cell? ⟨gb940, 11, none⟩ = some (.slice A0_11 l0_11.length c0_11) := (Qah BK940.out 11).trans rfl; have hcz10_12 : w8.cell? ⟨gb940, 12, none⟩ = some (.string a0_12) := (Qah BK940.out 12).trans rfl; have hfz10_0 := Qaf BK940.out 0; have hfz10_1 := Qaf BK940.out 1; have hfz10_2 := Qaf BK940.out 2; have hfz10_3 := Qaf BK940.out 3; have hfz10_4 := Qaf BK940.out 4; have hfz10_5 := Qaf BK940.out 5; have hfz10_6 := Qaf BK940.out 6; have hfz10_7 := Qaf BK940.out 7; have hfz10_8 := Qaf BK940.out 8; have hfz10_9 := Qaf BK940.out 9; have hfz10_10 := Qaf BK940.out 10; have hfz10_11 := Qaf BK940.out 11; have hfz10_12 := Qaf BK940.out 12; obtain ⟨Ao11, co11, eo11⟩ := Kd.R_slice HO944.out; subst eo11) | ((with_reducible refine Qay (f := 18) rfl ?_); refine goesL_ (some 17) rfl rfl Try.func18 (by kernel_rfl) rfl #[.slice Ao11 y942.length co11, .slice A1 l1.length c1, .slice A0_10 l0_10.length c0_10, .slice A0_11 l0_11.length c0_11] rfl (Zl) ?_; (with_reducible refine (QaU.calls k _ _ y942 _ _ l1 _ _ l0_10 _ _ l0_11 t945 t946 _ ?side1 ?side2 ?side3 ?side4 ?side5 ?side6 ?side7 ?side8 A3.out).mono ?_); (case side1 => repeat (first | exact (Kd.R_reads' HO944.out).2.2 | (with_reducible refine Kd.C_alloc ?_ _) | (with_reducible refine Kd.C_drewN ?_ _) | (with_reducible refine Kd.C_drew ?_))); (case side2 => exact (Kd.R_reads' HO944.out).2.1); (case side3 => exact Zv (Kd.C_below HR1.out HB.out)); (case side4 => exact HC1.out); (case side5 => exact Zv (Kd.C_below HR0_10.out HB.out)); (case side6 => exact HC0_10.out); (case side7 => exact Zv (Kd.C_below HR0_11.out HB.out)); (case side8 => exact HC0_11.out); rintro e w12 ⟨v947, rfl, ho0, hb⟩; refine ⟨_, rfl, ?_⟩; have n0_ := Aside0.mk (Kd.R_below (Zr HO944.out) hb); have n1_ := Aside0.mk (Kd.R_lower (Kd.R_newB ho0 (g := gb941) (o := .cells #[.string (⟨#[]⟩ : ByteArray), .string (⟨#[]⟩ : ByteArray), .int .i64 0, .int .i64 0, .int .i64 0] 50 (0, 0)) (Zu BK941.out)) (Qan (Zc2 GE940.out GE941.out))); have n2_ := Aside0.mk (Qaj (g := gb940) (o := .cells #[.string a0_0, .string a0_1, .int .i64 a0_2, .int .i64 a0_3, .int .i64 a0_4, .int .i64 a0_5, .int .i64 a0_6, .int .i64 a0_7, .int .i64 a0_8, .slice A0_9 l0_9.length c0_9, .slice A0_10 l0_10.length c0_10, .slice A0_11 l0_11.length c0_11, .string a0_12] 89 (0, 0)) (Zu BK940.out) hb); have n3_ := Aside0.mk (Qaj (g := gb941) (o := .cells #[.string (⟨#[]⟩ : ByteArray), .string (⟨#[]⟩ : ByteArray), .int .i64 0, .int .i64 0, .int .i64 0] 50 (0, 0)) (Zu BK941.out) hb); have n4_ := Aside0.mk (Qaq (Zc2 GE940.out GE941.out) hb); clear HO944; clear BK940; clear BK941; clear HB; have HO944 := n0_; have HO948 := n1_; have BK940 := n2_; have BK941 := n3_; have HB := n4_; clear n0_ n1_ n2_ n3_ n4_; (try clear hb); (try clear hb2); (try clear hk); (try clear hi); (try clear ho0)))
 (try simp only [Act.put, List.setIfInBounds_toArray, List.set_cons_zero, List.set_cons_succ])
 by_cases c13 : t946 = 0
 ·rw [if_pos c13] at H
  have c13b0 : (t946 == 0) = true := beq_iff_eq.mpr c13
  have c13b1 : (t946 != 0) = false := bne_eq_false_iff_eq.mpr c13
  clear c13
  (try simp only [c13b0, c13b1])
  obtain ⟨Ao14, co14, eo14⟩ := Kd.R_slice HO948.out
  subst eo14
  go_upto_if 26 with (fail)
  by_cases c15 : (t945.length : Int) = 1
  ·rw [if_pos c15] at H
   have c15b0 : ((t945.length : Int) == 1) = true := beq_iff_eq.mpr c15
   have c15b1 : ((t945.length : Int) != 1) = false := bne_eq_false_iff_eq.mpr c15
   clear c15
   (try simp only [c15b0, c15b1])
   by_cases c16 : 0 < (t945.length : Int)
   ·rw [if_pos c16] at H
    have c16b0 : decide (0 < (t945.length : Int)) = true := decide_eq_true c16
    have c16b1 : decide (0 < t945.length) = true := decide_eq_true (by omega)
    clear c16
    simp only [Option.some.injEq, Prod.mk.injEq] at H
    obtain ⟨rfl, rfl, rfl, rfl, rfl, rfl⟩ := H
    have p949 : 0 ≤ (0 : Int) := (by omega)
    have q949 : 0 < (t945.length : Int) := Ze
    obtain ⟨ad949, e949, hx949_0, hx949_1, hx949_2, hx949_3, hx949_4⟩ := at_T50 (Kd.R_reads' HO948.out).2.2 0 p949 q949
    cases e949
    have qi949 : (0 < t945.length) = True := eq_true (by omega)
    (try rw [show ((0 : Int)).toNat = 0 from rfl] at hx949_0)
    (try rw [show 0 * 5 = 0 from rfl] at hx949_0)
    (try rw [Addr.add_zero'] at hx949_0)
    (try rw [show ((0 : Int)).toNat = 0 from rfl] at hx949_1)
    (try rw [show 0 * 5 = 0 from rfl] at hx949_1)
    (try rw [Addr.add_zero'] at hx949_1)
    (try rw [show ((0 : Int)).toNat = 0 from rfl] at hx949_2)
    (try rw [show 0 * 5 = 0 from rfl] at hx949_2)
    (try rw [Addr.add_zero'] at hx949_2)
    (try rw [show ((0 : Int)).toNat = 0 from rfl] at hx949_3)
    (try rw [show 0 * 5 = 0 from rfl] at hx949_3)
    (try rw [Addr.add_zero'] at hx949_3)
    (try rw [show ((0 : Int)).toNat = 0 from rfl] at hx949_4)
    (try rw [show 0 * 5 = 0 from rfl] at hx949_4)
    (try rw [Addr.add_zero'] at hx949_4)
    replace p949 := eq_true p949
    replace q949 := eq_true q949
    have hnb17 := NB941_940.out
    have hnc17 := NB940_941.out
    have hcz18_0 : w12.cell? ⟨gb941, 0, none⟩ = some (.string (⟨#[]⟩ : ByteArray)) := (Qah BK941.out 0).trans rfl
    have hcz18_1 : w12.cell? ⟨gb941, 1, none⟩ = some (.string (⟨#[]⟩ : ByteArray)) := (Qah BK941.out 1).trans rfl
    have hcz18_2 : w12.cell? ⟨gb941, 2, none⟩ = some (.int .i64 0) := (Qah BK941.out 2).trans rfl
    have hcz18_3 : w12.cell? ⟨gb941, 3, none⟩ = some (.int .i64 0) := (Qah BK941.out 3).trans rfl
    have hcz18_4 : w12.cell? ⟨gb941, 4, none⟩ = some (.int .i64 0) := (Qah BK941.out 4).trans rfl
    have hfz18_0 := Qaf BK941.out 0
    have hfz18_1 := Qaf BK941.out 1
    have hfz18_2 := Qaf BK941.out 2
    have hfz18_3 := Qaf BK941.out 3
    have hfz18_4 := Qaf BK941.out 4
    go_wp2
    refine bodyPost_ret (QbS rfl _ _ gb941 50 #[.string ((rd_T50 t945 0).f0.f0), .string ((rd_T50 t945 0).f0.f1), .int .i64 ((rd_T50 t945 0).f1), .int .i64 ((rd_T50 t945 0).f2), .int .i64 ((rd_T50 t945 0).f3)] (0, 0) _ rfl (by (with_reducible repeat (first | refine Qab ?_ _ | refine Qad ?_ | refine Qaa ?_ _)); refine Qas (cs := #[.string ((rd_T50 t945 0).f0.f0), .string ((rd_T50 t945 0).f0.f1), .int .i64 ((rd_T50 t945 0).f1), .int .i64 ((rd_T50 t945 0).f2), .int .i64 0]) ?_ 4 _ rfl; (with_reducible repeat (first | refine Qab ?_ _ | refine Qad ?_ | refine Qaa ?_ _)); refine Qas (cs := #[.string ((rd_T50 t945 0).f0.f0), .string ((rd_T50 t945 0).f0.f1), .int .i64 ((rd_T50 t945 0).f1), .int .i64 0, .int .i64 0]) ?_ 3 _ rfl; (with_reducible repeat (first | refine Qab ?_ _ | refine Qad ?_ | refine Qaa ?_ _)); refine Qas (cs := #[.string ((rd_T50 t945 0).f0.f0), .string ((rd_T50 t945 0).f0.f1), .int .i64 0, .int .i64 0, .int .i64 0]) ?_ 2 _ rfl; (with_reducible repeat (first | refine Qab ?_ _ | refine Qad ?_ | refine Qaa ?_ _)); refine Qas (cs := #[.string ((rd_T50 t945 0).f0.f0), .string (⟨#[]⟩ : ByteArray), .int .i64 0, .int .i64 0, .int .i64 0]) ?_ 1 _ rfl; (with_reducible repeat (first | refine Qab ?_ _ | refine Qad ?_ | refine Qaa ?_ _)); refine Qas (cs := #[.string (⟨#[]⟩ : ByteArray), .string (⟨#[]⟩ : ByteArray), .int .i64 0, .int .i64 0, .int .i64 0]) ?_ 0 _ rfl; (with_reducible repeat (first | refine Qab ?_ _ | refine Qad ?_ | refine Qaa ?_ _)); exact BK941.out) Try.underlying50 rfl (by kernel_rfl)) rfl ?_
    exact ⟨Zq, Zc2 GE940.out GE941.out⟩
   ·rw [if_neg c16] at H
    exact absurd H (by simp)
  ·rw [if_neg c15] at H
   have c15b0 : ((t945.length : Int) == 1) = false := beq_eq_false_iff_ne.mpr c15
   have c15b1 : ((t945.length : Int) != 1) = true := bne_iff_ne.mpr c15
   (try simp only [c15b0, c15b1])
   simp only [Option.some.injEq, Prod.mk.injEq] at H
   obtain ⟨rfl, rfl, rfl, rfl, rfl, rfl⟩ := H
   have hnb19 := NB941_940.out
   have hnc19 := NB940_941.out
   have hcz20_0 : w12.cell? ⟨gb941, 0, none⟩ = some (.string (⟨#[]⟩ : ByteArray)) := (Qah BK941.out 0).trans rfl
   have hcz20_1 : w12.cell? ⟨gb941, 1, none⟩ = some (.string (⟨#[]⟩ : ByteArray)) := (Qah BK941.out 1).trans rfl
   have hcz20_2 : w12.cell? ⟨gb941, 2, none⟩ = some (.int .i64 0) := (Qah BK941.out 2).trans rfl
   have hcz20_3 : w12.cell? ⟨gb941, 3, none⟩ = some (.int .i64 0) := (Qah BK941.out 3).trans rfl
   have hcz20_4 : w12.cell? ⟨gb941, 4, none⟩ = some (.int .i64 0) := (Qah BK941.out 4).trans rfl
   have hfz20_0 := Qaf BK941.out 0
   have hfz20_1 := Qaf BK941.out 1
   have hfz20_2 := Qaf BK941.out 2
   have hfz20_3 := Qaf BK941.out 3
   have hfz20_4 := Qaf BK941.out 4
   go_wp2
   refine bodyPost_ret (QbS rfl _ _ gb941 50 #[.string (⟨#[]⟩ : ByteArray), .string (⟨#[]⟩ : ByteArray), .int .i64 0, .int .i64 0, .int .i64 0] (0, 0) _ rfl (by (with_reducible repeat (first | refine Qab ?_ _ | refine Qad ?_ | refine Qaa ?_ _)); refine Qas (cs := #[.string (⟨#[]⟩ : ByteArray), .string (⟨#[]⟩ : ByteArray), .int .i64 0, .int .i64 0, .int .i64 0]) ?_ 4 _ rfl; (with_reducible repeat (first | refine Qab ?_ _ | refine Qad ?_ | refine Qaa ?_ _)); refine Qas (cs := #[.string (⟨#[]⟩ : ByteArray), .string (⟨#[]⟩ : ByteArray), .int .i64 0, .int .i64 0, .int .i64 0]) ?_ 3 _ rfl; (with_reducible repeat (first | refine Qab ?_ _ | refine Qad ?_ | refine Qaa ?_ _)); refine Qas (cs := #[.string (⟨#[]⟩ : ByteArray), .string (⟨#[]⟩ : ByteArray), .int .i64 0, .int .i64 0, .int .i64 0]) ?_ 2 _ rfl; (with_reducible repeat (first | refine Qab ?_ _ | refine Qad ?_ | refine Qaa ?_ _)); refine Qas (cs := #[.string (⟨#[]⟩ : ByteArray), .string (⟨#[]⟩ : ByteArray), .int .i64 0, .int .i64 0, .int .i64 0]) ?_ 1 _ rfl; (with_reducible repeat (first | refine Qab ?_ _ | refine Qad ?_ | refine Qaa ?_ _)); refine Qas (cs := #[.string (⟨#[]⟩ : ByteArray), .string (⟨#[]⟩ : ByteArray), .int .i64 0, .int .i64 0, .int .i64 0]) ?_ 0 _ rfl; (with_reducible repeat (first | refine Qab ?_ _ | refine Qad ?_ | refine Qaa ?_ _)); exact BK941.out) Try.underlying50 rfl (by kernel_rfl)) rfl ?_
   exact ⟨Zq, Zc2 GE940.out GE941.out⟩
 ·rw [if_neg c13] at H
  have c13b0 : (t946 == 0) = false := beq_eq_false_iff_ne.mpr c13
  have c13b1 : (t946 != 0) = true := bne_iff_ne.mpr c13
  (try simp only [c13b0, c13b1])
  simp only [Option.some.injEq, Prod.mk.injEq] at H
  obtain ⟨rfl, rfl, rfl, rfl, rfl, rfl⟩ := H
  have hnb21 := NB941_940.out
  have hnc21 := NB940_941.out
  have hcz22_0 : w12.cell? ⟨gb941, 0, none⟩ = some (.string (⟨#[]⟩ : ByteArray)) := (Qah BK941.out 0).trans rfl
  have hcz22_1 : w12.cell? ⟨gb941, 1, none⟩ = some (.string (⟨#[]⟩ : ByteArray)) := (Qah BK941.out 1).trans rfl
  have hcz22_2 : w12.cell? ⟨gb941, 2, none⟩ = some (.int .i64 0) := (Qah BK941.out 2).trans rfl
  have hcz22_3 : w12.cell? ⟨gb941, 3, none⟩ = some (.int .i64 0) := (Qah BK941.out 3).trans rfl
  have hcz22_4 : w12.cell? ⟨gb941, 4, none⟩ = some (.int .i64 0) := (Qah BK941.out 4).trans rfl
  have hfz22_0 := Qaf BK941.out 0
  have hfz22_1 := Qaf BK941.out 1
  have hfz22_2 := Qaf BK941.out 2
  have hfz22_3 := Qaf BK941.out 3
  have hfz22_4 := Qaf BK941.out 4
  go_wp2
  refine bodyPost_ret (QbS rfl _ _ gb941 50 #[.string (⟨#[]⟩ : ByteArray), .string (⟨#[]⟩ : ByteArray), .int .i64 0, .int .i64 0, .int .i64 0] (0, 0) _ rfl (by (with_reducible repeat (first | refine Qab ?_ _ | refine Qad ?_ | refine Qaa ?_ _)); refine Qas (cs := #[.string (⟨#[]⟩ : ByteArray), .string (⟨#[]⟩ : ByteArray), .int .i64 0, .int .i64 0, .int .i64 0]) ?_ 4 _ rfl; (with_reducible repeat (first | refine Qab ?_ _ | refine Qad ?_ | refine Qaa ?_ _)); refine Qas (cs := #[.string (⟨#[]⟩ : ByteArray), .string (⟨#[]⟩ : ByteArray), .int .i64 0, .int .i64 0, .int .i64 0]) ?_ 3 _ rfl; (with_reducible repeat (first | refine Qab ?_ _ | refine Qad ?_ | refine Qaa ?_ _)); refine Qas (cs := #[.string (⟨#[]⟩ : ByteArray), .string (⟨#[]⟩ : ByteArray), .int .i64 0, .int .i64 0, .int .i64 0]) ?_ 2 _ rfl; (with_reducible repeat (first | refine Qab ?_ _ | refine Qad ?_ | refine Qaa ?_ _)); refine Qas (cs := #[.string (⟨#[]⟩ : ByteArray), .string (⟨#[]⟩ : ByteArray), .int .i64 0, .int .i64 0, .int .i64 0]) ?_ 1 _ rfl; (with_reducible repeat (first | refine Qab ?_ _ | refine Qad ?_ | refine Qaa ?_ _)); refine Qas (cs := #[.string (⟨#[]⟩ : ByteArray), .string (⟨#[]⟩ : ByteArray), .int .i64 0, .int .i64 0, .int .i64 0]) ?_ 0 _ rfl; (with_reducible repeat (first | refine Qab ?_ _ | refine Qad ?_ | refine Qaa ?_ _)); exact BK941.out) Try.underlying50 rfl (by kernel_rfl)) rfl ?_
  exact ⟨Zq, Zc2 GE940.out GE941.out⟩
end Go.Proofs.Ytfcaaefdmabkhaa.Pr
