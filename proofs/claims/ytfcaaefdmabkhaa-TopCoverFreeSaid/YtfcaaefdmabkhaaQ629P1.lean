/- Functions' values and contracts, as the print wrote them. -/
import Derived.Test.YtfcaaefdmabkhaaQ629P0
namespace Go.Proofs.Ytfcaaefdmabkhaa.Pr
open Go.RowKit Go.Proofs.YtfcaaefdmabkhaaW.PrintWords Go.Proofs.YtfcaaefdmabkhaaW.PrintLast Go.Proofs.YtfcaaefdmabkhaaW.PrintMore
attribute [local go_sem] QaN QaP QaW QaX QaI QaJ QaO QaQ   -- for this text's walks alone
set_option linter.unusedVariables false
set_option linter.unusedSimpArgs false
attribute [local go_sem high] eqA44
def QaR.l0 : Nat → ByteArray → List (S46) → Int → Int → ByteArray → ByteArray → Option (Int)
 | 0, _, _, _, _, _, _ => none
 | k + 1, x2, x9, x10, x11, x609000, x609001 => if x11 < x10 then (if 0 ≤ x11 then (if x11 < (x9.length : Int) then (if ((((rd_T46 x9 x11).f0.f0).toList) == x609000.toList && ((((rd_T46 x9 x11).f0.f1).toList) == x609001.toList)) = true then (if ((rd_T46 x9 x11).f1).toList = x2.toList then (some ((rd_T46 x9 x11).f2)) else (QaR.l0 k x2 x9 x10 (wrap64 (x11 + 1)) x609000 x609001)) else (QaR.l0 k x2 x9 x10 (wrap64 (x11 + 1)) x609000 x609001)) else (none)) else (none)) else (some 0)
def QaR.f (k : Nat) (l0 : List (S46)) (a1_0 : ByteArray) (a1_1 : ByteArray) (a2 : ByteArray) : Option (Int) := QaR.l0 k a2 l0 (l0.length : Int) 0 a1_0 a1_1
theorem QaR.mono_l : ∀ k, (∀ y0 y1 y2 y3 y4 y5, LeO (QaR.l0 k y0 y1 y2 y3 y4 y5) (QaR.l0 (k + 1) y0 y1 y2 y3 y4 y5))
 | 0 => fun _ _ _ _ _ _ r h => by simp [QaR.l0] at h
 | k + 1 => by
  have ih0 := QaR.mono_l k
  ·intro y0 y1 y2 y3 y4 y5
   unfold QaR.l0
   repeat' first
   | (with_reducible exact ih0 _ _ _ _ _ _)
   | (with_reducible exact LeO.refl _)
   | (with_reducible exact LeO.none _)
   | (with_reducible refine LeO.ite ?_ ?_)
   | (with_reducible refine LeO.bind ?_ (fun _ => ?_))
   | exact ih0 _ _ _ _ _ _
   | exact LeO.none _
   | refine LeO.ite ?_ ?_
   | refine LeO.bind ?_ (fun _ => ?_)
theorem QaR.mono : ∀ a0 a1 a2 a3 k, LeO (QaR.f k a0 a1 a2 a3) (QaR.f (k + 1) a0 a1 a2 a3) := by
 intro a0 a1 a2 a3 k
 have ih0 := QaR.mono_l k
 unfold QaR.f
 repeat' first
   | (with_reducible exact ih0 _ _ _ _ _ _)
   | (with_reducible exact LeO.refl _)
   | (with_reducible exact LeO.none _)
   | (with_reducible refine LeO.ite ?_ ?_)
   | (with_reducible refine LeO.bind ?_ (fun _ => ?_))
   | exact ih0 _ _ _ _ _ _
   | exact LeO.none _
   | refine LeO.ite ?_ ?_
   | refine LeO.bind ?_ (fun _ => ?_)
set_option maxHeartbeats 8000000 in
set_option maxRecDepth 100000 in
theorem QaR.calls (k : Nat) (A0 : Option Addr) (c0 : Nat) (l0 : List (S46)) (a1_0 : ByteArray) (a1_1 : ByteArray) (a2 : ByteArray) (r : Int) (w : World) (hr0 : Kd.C k46 w A0 l0.length l0) (hc0 : l0.length ≤ c0) (h : QaR.f k l0 a1_0 a1_1 a2 = some r) :
  Calls Try.prog 46 #[.slice A0 l0.length c0, .agg #[.string a1_0, .string a1_1], .string a2] w fun e w' => e = .returned (.int .i64 r) ∧ Below w.heap.size w w' := by
 have hu44 := Try.underlying44
 have hu46 := Try.underlying46
 have HR0 := Aside0.mk hr0
 have HC0 := Aside0.mk hc0
 clear hr0 hc0
 have HB := Aside0.mk (Below.refl w.heap.size w)
 have H : (QaR.l0 k a2 l0 (l0.length : Int) 0 a1_0 a1_1) = some r := h
 clear h
 have H' := Aside0.mk H
 clear H
 go_enter Try.func46, Try.ntmps46
 go_wp2_with (first | ((with_reducible refine QaD (N := 4) rfl ?_); refine QaL ?hg (N := 4) ?hd (cs := #[.string a1_0, .string a1_1]) (t := 44) ?hr ?_; (case hd => rfl); (case hg => rfl); (case hr => first | (go_simp; done) | (go_simp; rfl)); intro gb608 hg w4 hbox hb; have n0_ := Aside0.mk (Qaq (Zb) hb); have n1_ := Aside0.mk (hbox); have n2_ := Aside0.mk ((by rw [hg]; exact (Qan (Zb)) : w.heap.size ≤ gb608)); have n3_ := Aside0.mk ((by rw [hg]; exact (Qan (Zb)) : w.heap.size ≤ gb608)); clear HB; have HB := n0_; have BK608 := n1_; have GW608 := n2_; have GE608 := n3_; clear n0_ n1_ n2_ n3_; clear hb hbox hg))
 go_loopg [11] k (fun kq v11 w' => ∃ (x11_1 : Int), v11 = .int .i64 x11_1 ∧ Aside0 (QaR.l0 kq a2 l0 (l0.length : Int) x11_1 a1_0 a1_1 = some r) ∧ Aside0 (kq ≤ k) ∧ Aside0 (w'.heap[gb608]? = some (.cells #[.string a1_0, .string a1_1] 44 (0, 0))) ∧ Aside0 (Below w.heap.size w w'))
 case atStart => exact ⟨(0), (Zs), H', ⟨Nat.le_refl _⟩, ⟨Zu BK608.out⟩, ⟨Zc1 GE608.out⟩⟩
 case round =>
  clear H'
  try clear p2
  try clear c4
  obtain ⟨x11_1, rfl, HA, HK1, BK608, HB⟩ := hrel
  cases gk with
  | zero => exact absurd HA.out (by simp [QaR.l0])
  | succ k1 =>
   have H := HA.out
   clear HA
   simp only [QaR.l0] at H
   by_cases c5 : x11_1 < (l0.length : Int)
   ·rw [if_pos c5] at H
    have c5b0 : decide (x11_1 < (l0.length : Int)) = true := decide_eq_true c5
    clear c5
    (try simp only [c5b0])
    by_cases c6 : 0 ≤ x11_1
    ·rw [if_pos c6] at H
     have c6b0 : decide (0 ≤ x11_1) = true := decide_eq_true c6
     clear c6
     by_cases c7 : x11_1 < (l0.length : Int)
     ·rw [if_pos c7] at H
      have c7b0 : decide (x11_1 < (l0.length : Int)) = true := decide_eq_true c7
      clear c7
      have p609 : 0 ≤ (x11_1 : Int) := Ze
      have q609 : x11_1 < (l0.length : Int) := Ze
      obtain ⟨ad609, e609, hx609_0, hx609_1, hx609_2, hx609_3⟩ := at_T46 HR0.out x11_1 p609 q609
      cases e609
      replace hx609_0 := (HB.out.cell (World.block_lt_of_cell? w _ hx609_0)).trans hx609_0
      replace hx609_1 := (HB.out.cell (World.block_lt_of_cell? w _ hx609_1)).trans hx609_1
      replace hx609_2 := (HB.out.cell (World.block_lt_of_cell? w _ hx609_2)).trans hx609_2
      replace hx609_3 := (HB.out.cell (World.block_lt_of_cell? w _ hx609_3)).trans hx609_3
      replace p609 := eq_true p609
      replace q609 := eq_true q609
      go_upto_region 4 with (first | ((with_reducible refine QaD (N := 8) rfl ?_); refine QaL ?hg (N := 8) ?hd (cs := #[.string (⟨#[]⟩ : ByteArray), .string (⟨#[]⟩ : ByteArray), .string (⟨#[]⟩ : ByteArray), .int .i64 0]) (t := 46) ?hr ?_; (case hd => rfl); (case hg => rfl); (case hr => first | (go_simp; done) | (go_simp; rfl)); intro gb610 hg w8 hbox hb; have n0_ := Aside0.mk (Qaj (g := gb608) (o := .cells #[.string a1_0, .string a1_1] 44 (0, 0)) (Zu BK608.out) hb); have n1_ := Aside0.mk (Qaq (Zc1 GE608.out) hb); have n2_ := Aside0.mk (hbox); have n3_ := Aside0.mk ((by rw [hg]; exact (Qan (Zc1 GE608.out)) : w.heap.size ≤ gb610)); have n4_ := Aside0.mk ((by rw [hg]; exact (Qan (Zc1 GE608.out)) : w.heap.size ≤ gb610)); have n5_ := Aside0.mk ((by rw [hg]; exact Nat.ne_of_lt (blk_lt (g := gb608) (o := .cells #[.string a1_0, .string a1_1] 44 (0, 0)) (Zu BK608.out)) : gb608 ≠ gb610)); have n6_ := Aside0.mk ((by rw [hg]; exact Nat.ne_of_gt (blk_lt (g := gb608) (o := .cells #[.string a1_0, .string a1_1] 44 (0, 0)) (Zu BK608.out)) : gb610 ≠ gb608)); clear BK608; clear HB; have BK608 := n0_; have HB := n1_; have BK610 := n2_; have GW610 := n3_; have GE610 := n4_; have NB608_610 := n5_; have NB610_608 := n6_; clear n0_ n1_ n2_ n3_ n4_ n5_ n6_; clear hb hbox hg; have hnb9 := NB610_608.out; have hnc9 := NB608_610.out; have hcz10_0 : w8.cell? ⟨gb610, 0, none⟩ = some (.string (⟨#[]⟩ : ByteArray)) := (Qah BK610.out 0).trans rfl; have hcz10_1 : w8.cell? ⟨gb610, 1, none⟩ = some (.string (⟨#[]⟩ : ByteArray)) := (Qah BK610.out 1).trans rfl; have hcz10_2 : w8.cell? ⟨gb610, 2, none⟩ = some (.string (⟨#[]⟩ : ByteArray)) := (Qah BK610.out 2).trans rfl; have hcz10_3 : w8.cell? ⟨gb610, 3, none⟩ = some (.int .i64 0) := (Qah BK610.out 3).trans rfl; have hfz10_0 := Qaf BK610.out 0; have hfz10_1 := Qaf BK610.out 1; have hfz10_2 := Qaf BK610.out 2; have hfz10_3 := Qaf BK610.out 3))
      (try simp only [Act.put, List.setIfInBounds_toArray, List.set_cons_zero, List.set_cons_succ])
      by_cases c11 : ((((rd_T46 l0 x11_1).f0.f0).toList) == a1_0.toList && ((((rd_T46 l0 x11_1).f0.f1).toList) == a1_1.toList)) = true
      ·rw [if_pos c11] at H
       have c11b0 : ((((rd_T46 l0 x11_1).f0.f0).toList) == a1_0.toList && ((((rd_T46 l0 x11_1).f0.f1).toList) == a1_1.toList)) = true := c11
       (try (have c11b1 : decide ((((rd_T46 l0 x11_1).f0.f0).toList) = a1_0.toList && ((((rd_T46 l0 x11_1).f0.f1).toList) == a1_1.toList)) = true := by simpa using c11))
       (try (have c11b2 : ((((rd_T46 l0 x11_1).f0.f0).toList) == a1_0.toList && ((((rd_T46 l0 x11_1).f0.f1).toList) == a1_1.toList)) = true := by simpa using c11))
       clear c11
       (try simp only [c11b0])
       have hnb12 := NB610_608.out
       have hnc12 := NB608_610.out
       have hcz13_0 : w8.cell? ⟨gb610, 0, none⟩ = some (.string (⟨#[]⟩ : ByteArray)) := (Qah BK610.out 0).trans rfl
       have hcz13_1 : w8.cell? ⟨gb610, 1, none⟩ = some (.string (⟨#[]⟩ : ByteArray)) := (Qah BK610.out 1).trans rfl
       have hcz13_2 : w8.cell? ⟨gb610, 2, none⟩ = some (.string (⟨#[]⟩ : ByteArray)) := (Qah BK610.out 2).trans rfl
       have hcz13_3 : w8.cell? ⟨gb610, 3, none⟩ = some (.int .i64 0) := (Qah BK610.out 3).trans rfl
       have hfz13_0 := Qaf BK610.out 0
       have hfz13_1 := Qaf BK610.out 1
       have hfz13_2 := Qaf BK610.out 2
       have hfz13_3 := Qaf BK610.out 3
       have hcz14_0 : w8.cell? ⟨gb608, 0, none⟩ = some (.string a1_0) := (Qah BK608.out 0).trans rfl
       have hcz14_1 : w8.cell? ⟨gb608, 1, none⟩ = some (.string a1_1) := (Qah BK608.out 1).trans rfl
       have hfz14_0 := Qaf BK608.out 0
       have hfz14_1 := Qaf BK608.out 1
       go_upto_if 24 with (fail)
       by_cases c15 : ((rd_T46 l0 x11_1).f1).toList = a2.toList
       ·rw [if_pos c15] at H
        have c15b0 : (((rd_T46 l0 x11_1).f1).toList == a2.toList) = true := beq_iff_eq.mpr c15
        have c15b1 : (((rd_T46 l0 x11_1).f1).toList != a2.toList) = false := bne_eq_false_iff_eq.mpr c15
        clear c15
        (try simp only [c15b0, c15b1])
        obtain rfl := Option.some.inj H
        have hnb16 := NB610_608.out
        have hnc16 := NB608_610.out
        have hcz17_0 : w8.cell? ⟨gb610, 0, none⟩ = some (.string (⟨#[]⟩ : ByteArray)) := (Qah BK610.out 0).trans rfl
        have hcz17_1 : w8.cell? ⟨gb610, 1, none⟩ = some (.string (⟨#[]⟩ : ByteArray)) := (Qah BK610.out 1).trans rfl
        have hcz17_2 : w8.cell? ⟨gb610, 2, none⟩ = some (.string (⟨#[]⟩ : ByteArray)) := (Qah BK610.out 2).trans rfl
        have hcz17_3 : w8.cell? ⟨gb610, 3, none⟩ = some (.int .i64 0) := (Qah BK610.out 3).trans rfl
        have hfz17_0 := Qaf BK610.out 0
        have hfz17_1 := Qaf BK610.out 1
        have hfz17_2 := Qaf BK610.out 2
        have hfz17_3 := Qaf BK610.out 3
        go_wp2
        go_ret
        exact ⟨Zq, Zc2 GE608.out GE610.out⟩
       ·rw [if_neg c15] at H
        have c15b0 : (((rd_T46 l0 x11_1).f1).toList == a2.toList) = false := beq_eq_false_iff_ne.mpr c15
        have c15b1 : (((rd_T46 l0 x11_1).f1).toList != a2.toList) = true := bne_iff_ne.mpr c15
        (try simp only [c15b0, c15b1])
        have H' := Aside0.mk H
        clear H
        go_wp2
        go_roundg k1
        case measure => have := HK1.out; omega
        case rel => exact ⟨(wrap64 (x11_1 + 1)), (Zs), H', ⟨by have := HK1.out; omega⟩, ⟨by (with_reducible repeat (first | refine Qab ?_ _ | refine Qad ?_ | refine Qaa ?_ _)); refine Qam ?_ NB608_610.out _; (with_reducible repeat (first | refine Qab ?_ _ | refine Qad ?_ | refine Qaa ?_ _)); refine Qam ?_ NB608_610.out _; (with_reducible repeat (first | refine Qab ?_ _ | refine Qad ?_ | refine Qaa ?_ _)); refine Qam ?_ NB608_610.out _; (with_reducible repeat (first | refine Qab ?_ _ | refine Qad ?_ | refine Qaa ?_ _)); refine Qam ?_ NB608_610.out _; (with_reducible repeat (first | refine Qab ?_ _ | refine Qad ?_ | refine Qaa ?_ _)); exact BK608.out⟩, ⟨Zc2 GE608.out GE610.out⟩⟩
      ·rw [if_neg c11] at H
       have c11b0 : ((((rd_T46 l0 x11_1).f0.f0).toList) == a1_0.toList && ((((rd_T46 l0 x11_1).f0.f1).toList) == a1_1.toList)) = false := by simpa using c11
       (try (have c11b1 : decide ((((rd_T46 l0 x11_1).f0.f0).toList) = a1_0.toList && ((((rd_T46 l0 x11_1).f0.f1).toList) == a1_1.toList)) = false := by simpa using c11))
       (try (have c11b2 : ((((rd_T46 l0 x11_1).f0.f0).toList) == a1_0.toList && ((((rd_T46 l0 x11_1).f0.f1).toList) == a1_1.toList)) = false := by simpa using c11))
       (try (have c11b3 : ¬ ((((rd_T46 l0 x11_1).f0.f0).toList) = a1_0.toList && ((((rd_T46 l0 x11_1).f0.f1).toList) == a1_1.toList)) := by simpa using c11))
       clear c11
       (try simp only [c11b0])
       have H' := Aside0.mk H
       clear H
       have hnb18 := NB610_608.out
       have hnc18 := NB608_610.out
       have hcz19_0 : w8.cell? ⟨gb610, 0, none⟩ = some (.string (⟨#[]⟩ : ByteArray)) := (Qah BK610.out 0).trans rfl
       have hcz19_1 : w8.cell? ⟨gb610, 1, none⟩ = some (.string (⟨#[]⟩ : ByteArray)) := (Qah BK610.out 1).trans rfl
       have hcz19_2 : w8.cell? ⟨gb610, 2, none⟩ = some (.string (⟨#[]⟩ : ByteArray)) := (Qah BK610.out 2).trans rfl
       have hcz19_3 : w8.cell? ⟨gb610, 3, none⟩ = some (.int .i64 0) := (Qah BK610.out 3).trans rfl
       have hfz19_0 := Qaf BK610.out 0
       have hfz19_1 := Qaf BK610.out 1
       have hfz19_2 := Qaf BK610.out 2
       have hfz19_3 := Qaf BK610.out 3
       have hcz20_0 : w8.cell? ⟨gb608, 0, none⟩ = some (.string a1_0) := (Qah BK608.out 0).trans rfl
       have hcz20_1 : w8.cell? ⟨gb608, 1, none⟩ = some (.string a1_1) := (Qah BK608.out 1).trans rfl
       have hfz20_0 := Qaf BK608.out 0
       have hfz20_1 := Qaf BK608.out 1
       go_wp2
       go_roundg k1
       case measure => have := HK1.out; omega
       case rel => exact ⟨(wrap64 (x11_1 + 1)), (Zs), H', ⟨by have := HK1.out; omega⟩, ⟨by (with_reducible repeat (first | refine Qab ?_ _ | refine Qad ?_ | refine Qaa ?_ _)); refine Qam ?_ NB608_610.out _; (with_reducible repeat (first | refine Qab ?_ _ | refine Qad ?_ | refine Qaa ?_ _)); refine Qam ?_ NB608_610.out _; (with_reducible repeat (first | refine Qab ?_ _ | refine Qad ?_ | refine Qaa ?_ _)); refine Qam ?_ NB608_610.out _; (with_reducible repeat (first | refine Qab ?_ _ | refine Qad ?_ | refine Qaa ?_ _)); refine Qam ?_ NB608_610.out _; (with_reducible repeat (first | refine Qab ?_ _ | refine Qad ?_ | refine Qaa ?_ _)); exact BK608.out⟩, ⟨Zc2 GE608.out GE610.out⟩⟩
     ·rw [if_neg c7] at H
      exact absurd H (by simp)
    ·rw [if_neg c6] at H
     exact absurd H (by simp)
   ·rw [if_neg c5] at H
    have c5b0 : decide (x11_1 < (l0.length : Int)) = false := decide_eq_false c5
    clear c5
    (try simp only [c5b0])
    obtain rfl := Option.some.inj H
    go_wp2
    go_ret
    exact ⟨Zq, Zc1 GE608.out⟩
def QaV.l0 : Nat → List (S46) → List (S46) → Int → Int → ByteArray → ByteArray → Option ((List (S46)))
 | 0, _, _, _, _, _, _ => none
 | k + 1, x4, x7, x8, x9, x198000, x198001 => if x9 < x8 then (if 0 ≤ x9 then (if x9 < (x7.length : Int) then (if ((((rd_T46 x7 x9).f0.f0).toList) == x198000.toList && ((((rd_T46 x7 x9).f0.f1).toList) == x198001.toList)) = true then (if x4.length < 2513169434916 then (QaV.l0 k (x4 ++ [(⟨(⟨(rd_T46 x7 x9).f0.f0, (rd_T46 x7 x9).f0.f1⟩ : S44), (rd_T46 x7 x9).f1, (rd_T46 x7 x9).f2⟩ : S46)]) x7 x8 (wrap64 (x9 + 1)) x198000 x198001) else (none)) else (QaV.l0 k x4 x7 x8 (wrap64 (x9 + 1)) x198000 x198001)) else (none)) else (none)) else (some x4)
def QaV.f (k : Nat) (l0 : List (S46)) (a1_0 : ByteArray) (a1_1 : ByteArray) : Option ((List (S46))) := QaV.l0 k ([] : List (S46)) l0 (l0.length : Int) 0 a1_0 a1_1
theorem QaV.mono_l : ∀ k, (∀ y0 y1 y2 y3 y4 y5, LeO (QaV.l0 k y0 y1 y2 y3 y4 y5) (QaV.l0 (k + 1) y0 y1 y2 y3 y4 y5))
 | 0 => fun _ _ _ _ _ _ r h => by simp [QaV.l0] at h
 | k + 1 => by
  have ih0 := QaV.mono_l k
  ·intro y0 y1 y2 y3 y4 y5
   unfold QaV.l0
   repeat' first
   | (with_reducible exact ih0 _ _ _ _ _ _)
   | (with_reducible exact LeO.refl _)
   | (with_reducible exact LeO.none _)
   | (with_reducible refine LeO.ite ?_ ?_)
   | (with_reducible refine LeO.bind ?_ (fun _ => ?_))
   | exact ih0 _ _ _ _ _ _
   | exact LeO.none _
   | refine LeO.ite ?_ ?_
   | refine LeO.bind ?_ (fun _ => ?_)
theorem QaV.mono : ∀ a0 a1 a2 k, LeO (QaV.f k a0 a1 a2) (QaV.f (k + 1) a0 a1 a2) := by
 intro a0 a1 a2 k
 have ih0 := QaV.mono_l k
 unfold QaV.f
 repeat' first
   | (with_reducible exact ih0 _ _ _ _ _ _)
   | (with_reducible exact LeO.refl _)
   | (with_reducible exact LeO.none _)
   | (with_reducible refine LeO.ite ?_ ?_)
   | (with_reducible refine LeO.bind ?_ (fun _ => ?_))
   | exact ih0 _ _ _ _ _ _
   | exact LeO.none _
   | refine LeO.ite ?_ ?_
   | refine LeO.bind ?_ (fun _ => ?_)
set_option maxHeartbeats 8000000 in
set_option maxRecDepth 100000 in
theorem QaV.calls (k : Nat) (A0 : Option Addr) (c0 : Nat) (l0 : List (S46)) (a1_0 : ByteArray) (a1_1 : ByteArray) (r : List (S46)) (w : World) (hr0 : Kd.C k46 w A0 l0.length l0) (hc0 : l0.length ≤ c0) (h : QaV.f k l0 a1_0 a1_1 = some r) :
  Calls Try.prog 86 #[.slice A0 l0.length c0, .agg #[.string a1_0, .string a1_1]] w fun e w' => ∃ v0_ : Value, e = .returned (v0_) ∧ Kd.R k46 46 w' w.heap.size (fun _ => True) v0_ r ∧ Below w.heap.size w w' := by
 have hu44 := Try.underlying44
 have hu46 := Try.underlying46
 have HR0 := Aside0.mk hr0
 have HC0 := Aside0.mk hc0
 clear hr0 hc0
 have HB := Aside0.mk (Below.refl w.heap.size w)
 have H : (QaV.l0 k ([] : List (S46)) l0 (l0.length : Int) 0 a1_0 a1_1) = some r := h
 clear h
 have H' := Aside0.mk H
 clear H
 go_enter Try.func86, Try.ntmps86
 go_wp2_with (first | ((with_reducible refine QaD (N := 3) rfl ?_); refine QaL ?hg (N := 3) ?hd (cs := #[.string a1_0, .string a1_1]) (t := 44) ?hr ?_; (case hd => rfl); (case hg => rfl); (case hr => first | (go_simp; done) | (go_simp; rfl)); intro gb197 hg w3 hbox hb; have n0_ := Aside0.mk (Qaq (Zb) hb); have n1_ := Aside0.mk (hbox); have n2_ := Aside0.mk ((by rw [hg]; exact (Qan (Zb)) : w.heap.size ≤ gb197)); have n3_ := Aside0.mk ((by rw [hg]; exact (Qan (Zb)) : w.heap.size ≤ gb197)); clear HB; have HB := n0_; have BK197 := n1_; have GW197 := n2_; have GE197 := n3_; clear n0_ n1_ n2_ n3_; clear hb hbox hg))
 go_loopg [4, 9] k (fun kq v4 v9 w' => ∃ (x4_1 : List (S46)) (x9_1 : Int), v9 = .int .i64 x9_1 ∧ Aside0 (QaV.l0 kq x4_1 l0 (l0.length : Int) x9_1 a1_0 a1_1 = some r) ∧ Aside0 (kq ≤ k) ∧ Aside0 (Kd.R k46 46 w' w.heap.size (fun _ => True) v4 x4_1) ∧ Aside0 (w'.heap[gb197]? = some (.cells #[.string a1_0, .string a1_1] 44 (0, 0))) ∧ Aside0 (Below w.heap.size w w'))
 case atStart => exact ⟨(([] : List (S46))), (0), (Zs), H', ⟨Nat.le_refl _⟩, ⟨by first | exact Kd.R_nil _ _ _ _ _ | exact Kd.N_nil _ _ _ _ _ | exact Kd.V_nil _ _ _ _ _ | exact Kd.Q_nil _ _ _ _ _ | exact Kd.S_nil _ _ _ _ _⟩, ⟨Zu BK197.out⟩, ⟨Zc1 GE197.out⟩⟩
 case round =>
  clear H'
  try clear p2
  obtain ⟨x4_1, x9_1, rfl, HA, HK1, HO_4, BK197, HB⟩ := hrel
  cases gk with
  | zero => exact absurd HA.out (by simp [QaV.l0])
  | succ k1 =>
   have H := HA.out
   clear HA
   simp only [QaV.l0] at H
   by_cases c4 : x9_1 < (l0.length : Int)
   ·rw [if_pos c4] at H
    have c4b0 : decide (x9_1 < (l0.length : Int)) = true := decide_eq_true c4
    clear c4
    (try simp only [c4b0])
    by_cases c5 : 0 ≤ x9_1
    ·rw [if_pos c5] at H
     have c5b0 : decide (0 ≤ x9_1) = true := decide_eq_true c5
     clear c5
     by_cases c6 : x9_1 < (l0.length : Int)
     ·rw [if_pos c6] at H
      have c6b0 : decide (x9_1 < (l0.length : Int)) = true := decide_eq_true c6
      clear c6
      have p198 : 0 ≤ (x9_1 : Int) := Ze
      have q198 : x9_1 < (l0.length : Int) := Ze
      obtain ⟨ad198, e198, hx198_0, hx198_1, hx198_2, hx198_3⟩ := at_T46 HR0.out x9_1 p198 q198
      cases e198
      replace hx198_0 := (HB.out.cell (World.block_lt_of_cell? w _ hx198_0)).trans hx198_0
      replace hx198_1 := (HB.out.cell (World.block_lt_of_cell? w _ hx198_1)).trans hx198_1
      replace hx198_2 := (HB.out.cell (World.block_lt_of_cell? w _ hx198_2)).trans hx198_2
      replace hx198_3 := (HB.out.cell (World.block_lt_of_cell? w _ hx198_3)).trans hx198_3
      replace p198 := eq_true p198
      replace q198 := eq_true q198
      go_upto_if 16 with (first | ((with_reducible refine QaD (N := 6) rfl ?_); refine QaL ?hg (N := 6) ?hd (cs := #[.string (⟨#[]⟩ : ByteArray), .string (⟨#[]⟩ : ByteArray), .string (⟨#[]⟩ : ByteArray), .int .i64 0]) (t := 46) ?hr ?_; (case hd => rfl); (case hg => rfl); (case hr => first | (go_simp; done) | (go_simp; rfl)); intro gb199 hg w7 hbox hb; have n0_ := Aside0.mk (Kd.R_below (Kd.R_elderB (Zr HO_4.out) gb199 (Nat.le_of_eq hg.symm)) hb); have n1_ := Aside0.mk (Qaj (g := gb197) (o := .cells #[.string a1_0, .string a1_1] 44 (0, 0)) (Zu BK197.out) hb); have n2_ := Aside0.mk (Qaq (Zc1 GE197.out) hb); have n3_ := Aside0.mk (hbox); have n4_ := Aside0.mk ((by rw [hg]; exact (Qan (Zc1 GE197.out)) : w.heap.size ≤ gb199)); have n5_ := Aside0.mk ((by rw [hg]; exact (Qan (Zc1 GE197.out)) : w.heap.size ≤ gb199)); have n6_ := Aside0.mk ((by rw [hg]; exact Nat.ne_of_lt (blk_lt (g := gb197) (o := .cells #[.string a1_0, .string a1_1] 44 (0, 0)) (Zu BK197.out)) : gb197 ≠ gb199)); have n7_ := Aside0.mk ((by rw [hg]; exact Nat.ne_of_gt (blk_lt (g := gb197) (o := .cells #[.string a1_0, .string a1_1] 44 (0, 0)) (Zu BK197.out)) : gb199 ≠ gb197)); clear HO_4; clear BK197; clear HB; have HO_4 := n0_; have BK197 := n1_; have HB := n2_; have BK199 := n3_; have GW199 := n4_; have GE199 := n5_; have NB197_199 := n6_; have NB199_197 := n7_; clear n0_ n1_ n2_ n3_ n4_ n5_ n6_ n7_; clear hb hbox hg; have hnb8 := NB199_197.out; have hnc8 := NB197_199.out; have hcz9_0 : w7.cell? ⟨gb199, 0, none⟩ = some (.string (⟨#[]⟩ : ByteArray)) := (Qah BK199.out 0).trans rfl; have hcz9_1 : w7.cell? ⟨gb199, 1, none⟩ = some (.string (⟨#[]⟩ : ByteArray)) := (Qah BK199.out 1).trans rfl; have hcz9_2 : w7.cell? ⟨gb199, 2, none⟩ = some (.string (⟨#[]⟩ : ByteArray)) := (Qah BK199.out 2).trans rfl; have hcz9_3 : w7.cell? ⟨gb199, 3, none⟩ = some (.int .i64 0) := (Qah BK199.out 3).trans rfl; have hfz9_0 := Qaf BK199.out 0; have hfz9_1 := Qaf BK199.out 1; have hfz9_2 := Qaf BK199.out 2; have hfz9_3 := Qaf BK199.out 3; have hcz10_0 : w7.cell? ⟨gb197, 0, none⟩ = some (.string a1_0) := (Qah BK197.out 0).trans rfl; have hcz10_1 : w7.cell? ⟨gb197, 1, none⟩ = some (.string a1_1) := (Qah BK197.out 1).trans rfl; have hfz10_0 := Qaf BK197.out 0; have hfz10_1 := Qaf BK197.out 1))
      (try simp only [Act.put, List.setIfInBounds_toArray, List.set_cons_zero, List.set_cons_succ])
      by_cases c11 : ((((rd_T46 l0 x9_1).f0.f0).toList) == a1_0.toList && ((((rd_T46 l0 x9_1).f0.f1).toList) == a1_1.toList)) = true
      ·rw [if_pos c11] at H
       have c11b0 : ((((rd_T46 l0 x9_1).f0.f0).toList) == a1_0.toList && ((((rd_T46 l0 x9_1).f0.f1).toList) == a1_1.toList)) = true := c11
       (try (have c11b1 : decide ((((rd_T46 l0 x9_1).f0.f0).toList) = a1_0.toList && ((((rd_T46 l0 x9_1).f0.f1).toList) == a1_1.toList)) = true := by simpa using c11))
       (try (have c11b2 : ((((rd_T46 l0 x9_1).f0.f0).toList) == a1_0.toList && ((((rd_T46 l0 x9_1).f0.f1).toList) == a1_1.toList)) = true := by simpa using c11))
       clear c11
       (try simp only [c11b0])
       by_cases c12 : x4_1.length < 2513169434916
       ·rw [if_pos c12] at H
        have LMc12 := Aside0.mk c12
        clear c12
        obtain ⟨y200, hy200⟩ : ∃ y_ : List (S46), y_ = (x4_1 ++ [(⟨(⟨(rd_T46 l0 x9_1).f0.f0, (rd_T46 l0 x9_1).f0.f1⟩ : S44), (rd_T46 l0 x9_1).f1, (rd_T46 l0 x9_1).f2⟩ : S46)]) := ⟨_, rfl⟩
        replace H : (QaV.l0 k1 y200 l0 (l0.length : Int) (wrap64 (x9_1 + 1)) a1_0 a1_1) = some r := by first | (rw [hy200]; with_reducible exact H) | (have H2_ := (Option.bind_some _ _).symm.trans H; rw [hy200]; with_reducible exact H2_) | (have H2_ := (Option.bind_some _ _).symm.trans H; with_reducible exact H2_) | with_reducible exact H | (rw [hy200]; exact H) | exact H
        have Ny200 := Aside0.mk hy200
        clear hy200
        have H' := Aside0.mk H
        clear H
        have hnb13 := NB199_197.out
        have hnc13 := NB197_199.out
        have hcz14_0 : w7.cell? ⟨gb199, 0, none⟩ = some (.string (⟨#[]⟩ : ByteArray)) := (Qah BK199.out 0).trans rfl
        have hcz14_1 : w7.cell? ⟨gb199, 1, none⟩ = some (.string (⟨#[]⟩ : ByteArray)) := (Qah BK199.out 1).trans rfl
        have hcz14_2 : w7.cell? ⟨gb199, 2, none⟩ = some (.string (⟨#[]⟩ : ByteArray)) := (Qah BK199.out 2).trans rfl
        have hcz14_3 : w7.cell? ⟨gb199, 3, none⟩ = some (.int .i64 0) := (Qah BK199.out 3).trans rfl
        have hfz14_0 := Qaf BK199.out 0
        have hfz14_1 := Qaf BK199.out 1
        have hfz14_2 := Qaf BK199.out 2
        have hfz14_3 := Qaf BK199.out 3
        go_wp2_with (first | ((with_reducible refine QbH (b := .append) (xs := #[.tmp 17, .tmp 19]) rfl ?_); at_builtin; refine Kd.R_append k46 (w0 := w) w.heap.size rfl (.tmp 17) (.tmp 19) 30 46 (.agg #[(.string ⟨#[]⟩), (.string ⟨#[]⟩), (.string ⟨#[]⟩), (.int .i64 0)]) 56 rfl Try.underlying30 info46 rfl (by decide) (by omega) u4 x4_1 (⟨(⟨(rd_T46 l0 x9_1).f0.f0, (rd_T46 l0 x9_1).f0.f1⟩ : S44), (rd_T46 l0 x9_1).f1, (rd_T46 l0 x9_1).f2⟩ : S46) [.string ((rd_T46 l0 x9_1).f0.f0), .string ((rd_T46 l0 x9_1).f0.f1), .string ((rd_T46 l0 x9_1).f1), .int .i64 ((rd_T46 l0 x9_1).f2)] (fun k_ => k_ ≠ gb199) (fun _ => False) rfl (by first | (go_simp; done) | (go_simp; rfl)) ?aP (fun _ hk => hk.elim) ?aF ?aO ?aB ?aS ?aL ?_; (case aP => exact QbV _ _ _ (⟨(⟨(rd_T46 l0 x9_1).f0.f0, (rd_T46 l0 x9_1).f0.f1⟩ : S44), (rd_T46 l0 x9_1).f1, (rd_T46 l0 x9_1).f2⟩ : S46)); (case aB => exact (Zc2 GE197.out GE199.out)); (case aF => exact (fun k_ hk => Kd.freshB (g := gb199) (o := .cells #[.string ((rd_T46 l0 x9_1).f0.f0), .string ((rd_T46 l0 x9_1).f0.f1), .string ((rd_T46 l0 x9_1).f1), .int .i64 ((rd_T46 l0 x9_1).f2)] 46 (0, 0)) (by (with_reducible repeat (first | refine Qab ?_ _ | refine Qad ?_ | refine Qaa ?_ _)); refine Qas (cs := #[.string ((rd_T46 l0 x9_1).f0.f0), .string ((rd_T46 l0 x9_1).f0.f1), .string ((rd_T46 l0 x9_1).f1), .int .i64 0]) ?_ 3 _ rfl; (with_reducible repeat (first | refine Qab ?_ _ | refine Qad ?_ | refine Qaa ?_ _)); refine Qas (cs := #[.string ((rd_T46 l0 x9_1).f0.f0), .string ((rd_T46 l0 x9_1).f0.f1), .string (⟨#[]⟩ : ByteArray), .int .i64 0]) ?_ 2 _ rfl; (with_reducible repeat (first | refine Qab ?_ _ | refine Qad ?_ | refine Qaa ?_ _)); refine Qas (cs := #[.string ((rd_T46 l0 x9_1).f0.f0), .string (⟨#[]⟩ : ByteArray), .string (⟨#[]⟩ : ByteArray), .int .i64 0]) ?_ 1 _ rfl; (with_reducible repeat (first | refine Qab ?_ _ | refine Qad ?_ | refine Qaa ?_ _)); refine Qas (cs := #[.string (⟨#[]⟩ : ByteArray), .string (⟨#[]⟩ : ByteArray), .string (⟨#[]⟩ : ByteArray), .int .i64 0]) ?_ 0 _ rfl; (with_reducible repeat (first | refine Qab ?_ _ | refine Qad ?_ | refine Qaa ?_ _)); exact BK199.out) k_ hk)); (case aO => exact (by (with_reducible repeat (first | apply Kd.R_alloc | apply Kd.R_drewN | apply Kd.R_drew)); exact Kd.R_mono (Kd.R_far (p := ⟨gb199, 3, none⟩) (Kd.R_far (p := ⟨gb199, 2, none⟩) (Kd.R_far (p := ⟨gb199, 1, none⟩) (Kd.R_far (p := ⟨gb199, 0, none⟩) (Kd.R_mono HO_4.out (fun k_ hk => (⟨hk, hk.2⟩ : _ ∧ k_ ≠ gb199))) (fun _ hk => hk.2) (.string ((rd_T46 l0 x9_1).f0.f0))) (fun _ hk => hk.2) (.string ((rd_T46 l0 x9_1).f0.f1))) (fun _ hk => hk.2) (.string ((rd_T46 l0 x9_1).f1))) (fun _ hk => hk.2) (.int .i64 ((rd_T46 l0 x9_1).f2))) (fun _ hk => hk.1.2))); (case aS => exact (Qan (Zc2 GE197.out GE199.out))); (case aL => have := LMc12.out; omega); intro v201 w15 ho hb hg hat; rw [← Ny200.out] at ho; have n0_ := Aside0.mk (Qa1 (g := gb197) (o := .cells #[.string a1_0, .string a1_1] 44 (0, 0)) (by (with_reducible repeat (first | refine Qab ?_ _ | refine Qad ?_ | refine Qaa ?_ _)); refine Qam ?_ NB197_199.out _; (with_reducible repeat (first | refine Qab ?_ _ | refine Qad ?_ | refine Qaa ?_ _)); refine Qam ?_ NB197_199.out _; (with_reducible repeat (first | refine Qab ?_ _ | refine Qad ?_ | refine Qaa ?_ _)); refine Qam ?_ NB197_199.out _; (with_reducible repeat (first | refine Qab ?_ _ | refine Qad ?_ | refine Qaa ?_ _)); refine Qam ?_ NB197_199.out _; (with_reducible repeat (first | refine Qab ?_ _ | refine Qad ?_ | refine Qaa ?_ _)); exact BK197.out) hg (Kd.R_ne HO_4.out BK197.out (by decide))); have n1_ := Aside0.mk (Qa1 (g := gb199) (o := .cells #[.string ((rd_T46 l0 x9_1).f0.f0), .string ((rd_T46 l0 x9_1).f0.f1), .string ((rd_T46 l0 x9_1).f1), .int .i64 ((rd_T46 l0 x9_1).f2)] 46 (0, 0)) (by (with_reducible repeat (first | refine Qab ?_ _ | refine Qad ?_ | refine Qaa ?_ _)); refine Qas (cs := #[.string ((rd_T46 l0 x9_1).f0.f0), .string ((rd_T46 l0 x9_1).f0.f1), .string ((rd_T46 l0 x9_1).f1), .int .i64 0]) ?_ 3 _ rfl; (with_reducible repeat (first | refine Qab ?_ _ | refine Qad ?_ | refine Qaa ?_ _)); refine Qas (cs := #[.string ((rd_T46 l0 x9_1).f0.f0), .string ((rd_T46 l0 x9_1).f0.f1), .string (⟨#[]⟩ : ByteArray), .int .i64 0]) ?_ 2 _ rfl; (with_reducible repeat (first | refine Qab ?_ _ | refine Qad ?_ | refine Qaa ?_ _)); refine Qas (cs := #[.string ((rd_T46 l0 x9_1).f0.f0), .string (⟨#[]⟩ : ByteArray), .string (⟨#[]⟩ : ByteArray), .int .i64 0]) ?_ 1 _ rfl; (with_reducible repeat (first | refine Qab ?_ _ | refine Qad ?_ | refine Qaa ?_ _)); refine Qas (cs := #[.string (⟨#[]⟩ : ByteArray), .string (⟨#[]⟩ : ByteArray), .string (⟨#[]⟩ : ByteArray), .int .i64 0]) ?_ 0 _ rfl; (with_reducible repeat (first | refine Qab ?_ _ | refine Qad ?_ | refine Qaa ?_ _)); exact BK199.out) hg (Kd.R_away HO_4.out (fun _ hk => hk.2))); have n2_ := Aside0.mk (hb); have n3_ := Aside0.mk (ho); clear BK197; clear BK199; clear HB; clear HO_4; have BK197 := n0_; have BK199 := n1_; have HB := n2_; have HO202 := n3_; clear n0_ n1_ n2_ n3_; clear ho hb hg hat))
        go_roundg k1
        case measure => have := HK1.out; omega
        case rel => exact ⟨(y200), (wrap64 (x9_1 + 1)), (Zs), H', ⟨by have := HK1.out; omega⟩, ⟨by (with_reducible repeat (first | apply Kd.R_alloc | apply Kd.R_drewN | apply Kd.R_drew)); exact Kd.R_mono HO202.out (fun _ hk => trivial)⟩, ⟨Zu BK197.out⟩, ⟨Zc2 GE197.out GE199.out⟩⟩
       ·rw [if_neg c12] at H
        exact absurd H (by simp)
      ·rw [if_neg c11] at H
       have c11b0 : ((((rd_T46 l0 x9_1).f0.f0).toList) == a1_0.toList && ((((rd_T46 l0 x9_1).f0.f1).toList) == a1_1.toList)) = false := by simpa using c11
       (try (have c11b1 : decide ((((rd_T46 l0 x9_1).f0.f0).toList) = a1_0.toList && ((((rd_T46 l0 x9_1).f0.f1).toList) == a1_1.toList)) = false := by simpa using c11))
       (try (have c11b2 : ((((rd_T46 l0 x9_1).f0.f0).toList) == a1_0.toList && ((((rd_T46 l0 x9_1).f0.f1).toList) == a1_1.toList)) = false := by simpa using c11))
       (try (have c11b3 : ¬ ((((rd_T46 l0 x9_1).f0.f0).toList) = a1_0.toList && ((((rd_T46 l0 x9_1).f0.f1).toList) == a1_1.toList)) := by simpa using c11))
       clear c11
       (try simp only [c11b0])
       have H' := Aside0.mk H
       clear H
       go_wp2
       go_roundg k1
       case measure => have := HK1.out; omega
       case rel => exact ⟨(x4_1), (wrap64 (x9_1 + 1)), (Zs), H', ⟨by have := HK1.out; omega⟩, ⟨by (with_reducible repeat (first | apply Kd.R_alloc | apply Kd.R_drewN | apply Kd.R_drew)); exact Kd.R_mono (Kd.R_far (p := ⟨gb199, 3, none⟩) (Kd.R_far (p := ⟨gb199, 2, none⟩) (Kd.R_far (p := ⟨gb199, 1, none⟩) (Kd.R_far (p := ⟨gb199, 0, none⟩) (Kd.R_mono HO_4.out (fun k_ hk => (⟨hk, hk.2⟩ : _ ∧ k_ ≠ gb199))) (fun _ hk => hk.2) (.string ((rd_T46 l0 x9_1).f0.f0))) (fun _ hk => hk.2) (.string ((rd_T46 l0 x9_1).f0.f1))) (fun _ hk => hk.2) (.string ((rd_T46 l0 x9_1).f1))) (fun _ hk => hk.2) (.int .i64 ((rd_T46 l0 x9_1).f2))) (fun _ hk => trivial)⟩, ⟨by (with_reducible repeat (first | refine Qab ?_ _ | refine Qad ?_ | refine Qaa ?_ _)); refine Qam ?_ NB197_199.out _; (with_reducible repeat (first | refine Qab ?_ _ | refine Qad ?_ | refine Qaa ?_ _)); refine Qam ?_ NB197_199.out _; (with_reducible repeat (first | refine Qab ?_ _ | refine Qad ?_ | refine Qaa ?_ _)); refine Qam ?_ NB197_199.out _; (with_reducible repeat (first | refine Qab ?_ _ | refine Qad ?_ | refine Qaa ?_ _)); refine Qam ?_ NB197_199.out _; (with_reducible repeat (first | refine Qab ?_ _ | refine Qad ?_ | refine Qaa ?_ _)); exact BK197.out⟩, ⟨Zc2 GE197.out GE199.out⟩⟩
     ·rw [if_neg c6] at H
      exact absurd H (by simp)
    ·rw [if_neg c5] at H
     exact absurd H (by simp)
   ·rw [if_neg c4] at H
    have c4b0 : decide (x9_1 < (l0.length : Int)) = false := decide_eq_false c4
    clear c4
    (try simp only [c4b0])
    obtain rfl := Option.some.inj H
    go_wp2
    go_ret
    exact ⟨_, Zq, Zr HO_4.out, Zc1 GE197.out⟩
end Go.Proofs.Ytfcaaefdmabkhaa.Pr
