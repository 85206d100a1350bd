/- Functions' values and contracts, as the print wrote them. -/
import Derived.Test.YtaiekjimdjlgbaaQ3EDP0
namespace Go.Proofs.Ytaiekjimdjlgbaa.Pr
open Go.RowKit Go.Proofs.YtaiekjimdjlgbaaW.PrintWords Go.Proofs.YtaiekjimdjlgbaaW.PrintLast Go.Proofs.YtaiekjimdjlgbaaW.PrintMore
attribute [local go_sem] max2_int min2_int max_two min_two max_three min_three max_four min_four   -- for this text's walks alone
set_option linter.unusedVariables false
set_option linter.unusedSimpArgs false
attribute [local go_sem high] eqA67
def pledge_Qty.l0 : Nat → ByteArray → List (S85) → Int → Int → ByteArray → ByteArray → Option (Int)
  | 0, _, _, _, _, _, _ => none
  | k + 1, x2, x9, x10, x11, x501000, x501001 => if x11 < x10 then (if 0 ≤ x11 then (if x11 < (x9.length : Int) then (if ((((rd_T85 x9 x11).f0.f0).toList) == x501000.toList && ((((rd_T85 x9 x11).f0.f1).toList) == x501001.toList)) = true then (if ((rd_T85 x9 x11).f1).toList = x2.toList then (some ((rd_T85 x9 x11).f2)) else (pledge_Qty.l0 k x2 x9 x10 (wrap64 (x11 + 1)) x501000 x501001)) else (pledge_Qty.l0 k x2 x9 x10 (wrap64 (x11 + 1)) x501000 x501001)) else (none)) else (none)) else (some 0)
def pledge_Qty.f (k : Nat) (l0 : List (S85)) (a1_0 : ByteArray) (a1_1 : ByteArray) (a2 : ByteArray) : Option (Int) := pledge_Qty.l0 k a2 l0 (l0.length : Int) 0 a1_0 a1_1
theorem pledge_Qty.mono_l : ∀ k, (∀ y0 y1 y2 y3 y4 y5, LeO (pledge_Qty.l0 k y0 y1 y2 y3 y4 y5) (pledge_Qty.l0 (k + 1) y0 y1 y2 y3 y4 y5))
  | 0 => fun _ _ _ _ _ _ r h => by simp [pledge_Qty.l0] at h
  | k + 1 => by
    have ih0 := pledge_Qty.mono_l k
    · intro y0 y1 y2 y3 y4 y5
      unfold pledge_Qty.l0
      repeat' first
      | (with_reducible exact ih0 _ _ _ _ _ _)
      | (with_reducible exact LeO.refl _)
      | (with_reducible exact LeO.none _)
      | (with_reducible refine LeO.ite ?_ ?_)
      | (with_reducible refine LeO.bind ?_ (fun _ => ?_))
      | exact ih0 _ _ _ _ _ _
      | exact LeO.none _
      | refine LeO.ite ?_ ?_
      | refine LeO.bind ?_ (fun _ => ?_)
theorem pledge_Qty.mono : ∀ a0 a1 a2 a3 k, LeO (pledge_Qty.f k a0 a1 a2 a3) (pledge_Qty.f (k + 1) a0 a1 a2 a3) := by
  intro a0 a1 a2 a3 k
  have ih0 := pledge_Qty.mono_l k
  unfold pledge_Qty.f
  repeat' first
      | (with_reducible exact ih0 _ _ _ _ _ _)
      | (with_reducible exact LeO.refl _)
      | (with_reducible exact LeO.none _)
      | (with_reducible refine LeO.ite ?_ ?_)
      | (with_reducible refine LeO.bind ?_ (fun _ => ?_))
      | exact ih0 _ _ _ _ _ _
      | exact LeO.none _
      | refine LeO.ite ?_ ?_
      | refine LeO.bind ?_ (fun _ => ?_)
set_option maxHeartbeats 8000000 in
set_option maxRecDepth 100000 in
theorem pledge_Qty.calls (k : Nat) (A0 : Option Addr) (c0 : Nat) (l0 : List (S85)) (a1_0 : ByteArray) (a1_1 : ByteArray) (a2 : ByteArray) (r : Int) (w : World) (hr0 : Kd.C k85 w A0 l0.length l0) (hc0 : l0.length ≤ c0) (h : pledge_Qty.f k l0 a1_0 a1_1 a2 = some r) :
    Calls Try.prog 45 #[.slice A0 l0.length c0, .agg #[.string a1_0, .string a1_1], .string a2] w fun e w' => e = .returned (.int .i64 r) ∧ Below w.heap.size w w' := by
  have hu67 := Try.underlying67
  have hu85 := Try.underlying85
  have HR0 := Aside0.mk hr0
  have HC0 := Aside0.mk hc0
  clear hr0 hc0
  have HB := Aside0.mk (Below.refl w.heap.size w)
  have H : (pledge_Qty.l0 k a2 l0 (l0.length : Int) 0 a1_0 a1_1) = some r := h
  clear h
  have H' := Aside0.mk H
  clear H
  go_enter Try.func45, Try.ntmps45
  go_wp2_with (first | ((with_reducible refine gate_dst (N := 4) rfl ?_); refine box_event ?hg (N := 4) ?hd (cs := #[.string a1_0, .string a1_1]) (t := 67) ?hr ?_; (case hd => rfl); (case hg => rfl); (case hr => first | (go_simp; done) | (go_simp; rfl)); intro gb500 hg w4 hbox hb; have n0_ := Aside0.mk (below_step (by repeat (first | (with_reducible first | exact HB.out | apply below_alloc | apply pw_below_drewN | apply below_drew1) | exact HB.out)) hb); have n1_ := Aside0.mk (hbox); have n2_ := Aside0.mk ((by rw [hg]; exact (below_size (by repeat (first | (with_reducible first | exact HB.out | apply below_alloc | apply pw_below_drewN | apply below_drew1) | exact HB.out))) : w.heap.size ≤ gb500)); have n3_ := Aside0.mk ((by rw [hg]; exact (below_size (by repeat (first | (with_reducible first | exact HB.out | apply below_alloc | apply pw_below_drewN | apply below_drew1) | exact HB.out))) : w.heap.size ≤ gb500)); clear HB; have HB := n0_; have BK500 := n1_; have GW500 := n2_; have GE500 := n3_; clear n0_ n1_ n2_ n3_; clear hb hbox hg))
  go_loopg [11] k (fun kq v11 w' => ∃ (x11_1 : Int), v11 = .int .i64 x11_1 ∧ Aside0 (pledge_Qty.l0 kq a2 l0 (l0.length : Int) x11_1 a1_0 a1_1 = some r) ∧ Aside0 (kq ≤ k) ∧ Aside0 (w'.heap[gb500]? = some (.cells #[.string a1_0, .string a1_1] 67 (0, 0))) ∧ Aside0 (Below w.heap.size w w'))
  case atStart => exact ⟨(0), (by first | rfl | (simp; done) | (simp [*]; done)), H', ⟨Nat.le_refl _⟩, ⟨by (with_reducible repeat (first | refine blk_drewN ?_ _ | refine blk_drew ?_ | refine blk_alloc ?_ _)); exact BK500.out⟩, ⟨by repeat (first | (with_reducible first | exact HB.out | apply below_alloc | apply pw_below_drewN | apply below_drew1 | refine below_set ?_ GE500.out) | exact HB.out)⟩⟩
  case round =>
    clear H'
    try clear p2
    try clear c4
    obtain ⟨x11_1, rfl, HA, HK1, BK500, HB⟩ := hrel
    cases gk with
    | zero => exact absurd HA.out (by simp [pledge_Qty.l0])
    | succ k1 =>
      have H := HA.out
      clear HA
      simp only [pledge_Qty.l0] at H
      by_cases c5 : x11_1 < (l0.length : Int)
      · rw [if_pos c5] at H
        have c5b0 : decide (x11_1 < (l0.length : Int)) = true := decide_eq_true c5
        clear c5
        (try simp only [c5b0])
        by_cases c6 : 0 ≤ x11_1
        · rw [if_pos c6] at H
          have c6b0 : decide (0 ≤ x11_1) = true := decide_eq_true c6
          clear c6
          by_cases c7 : x11_1 < (l0.length : Int)
          · rw [if_pos c7] at H
            have c7b0 : decide (x11_1 < (l0.length : Int)) = true := decide_eq_true c7
            clear c7
            have p501 : 0 ≤ (x11_1 : Int) := of_decide_eq_true (by first | (with_reducible assumption) | assumption)
            have q501 : x11_1 < (l0.length : Int) := of_decide_eq_true (by first | (with_reducible assumption) | assumption)
            obtain ⟨ad501, e501, hx501_0, hx501_1, hx501_2, hx501_3⟩ := at_T85 HR0.out x11_1 p501 q501
            cases e501
            replace hx501_0 := (HB.out.cell (World.block_lt_of_cell? w _ hx501_0)).trans hx501_0
            replace hx501_1 := (HB.out.cell (World.block_lt_of_cell? w _ hx501_1)).trans hx501_1
            replace hx501_2 := (HB.out.cell (World.block_lt_of_cell? w _ hx501_2)).trans hx501_2
            replace hx501_3 := (HB.out.cell (World.block_lt_of_cell? w _ hx501_3)).trans hx501_3
            replace p501 := eq_true p501
            replace q501 := eq_true q501
            go_upto_region 4 with (first | ((with_reducible refine gate_dst (N := 8) rfl ?_); refine box_event ?hg (N := 8) ?hd (cs := #[.string (⟨#[]⟩ : ByteArray), .string (⟨#[]⟩ : ByteArray), .string (⟨#[]⟩ : ByteArray), .int .i64 0]) (t := 85) ?hr ?_; (case hd => rfl); (case hg => rfl); (case hr => first | (go_simp; done) | (go_simp; rfl)); intro gb502 hg w8 hbox hb; have n0_ := Aside0.mk (blk_below (g := gb500) (o := .cells #[.string a1_0, .string a1_1] 67 (0, 0)) (by (with_reducible repeat (first | refine blk_drewN ?_ _ | refine blk_drew ?_ | refine blk_alloc ?_ _)); exact BK500.out) hb); have n1_ := Aside0.mk (below_step (by repeat (first | (with_reducible first | exact HB.out | apply below_alloc | apply pw_below_drewN | apply below_drew1 | refine below_set ?_ GE500.out) | exact HB.out)) hb); have n2_ := Aside0.mk (hbox); have n3_ := Aside0.mk ((by rw [hg]; exact (below_size (by repeat (first | (with_reducible first | exact HB.out | apply below_alloc | apply pw_below_drewN | apply below_drew1 | refine below_set ?_ GE500.out) | exact HB.out))) : w.heap.size ≤ gb502)); have n4_ := Aside0.mk ((by rw [hg]; exact (below_size (by repeat (first | (with_reducible first | exact HB.out | apply below_alloc | apply pw_below_drewN | apply below_drew1 | refine below_set ?_ GE500.out) | exact HB.out))) : w.heap.size ≤ gb502)); have n5_ := Aside0.mk ((by rw [hg]; exact Nat.ne_of_lt (blk_lt (g := gb500) (o := .cells #[.string a1_0, .string a1_1] 67 (0, 0)) (by (with_reducible repeat (first | refine blk_drewN ?_ _ | refine blk_drew ?_ | refine blk_alloc ?_ _)); exact BK500.out)) : gb500 ≠ gb502)); have n6_ := Aside0.mk ((by rw [hg]; exact Nat.ne_of_gt (blk_lt (g := gb500) (o := .cells #[.string a1_0, .string a1_1] 67 (0, 0)) (by (with_reducible repeat (first | refine blk_drewN ?_ _ | refine blk_drew ?_ | refine blk_alloc ?_ _)); exact BK500.out)) : gb502 ≠ gb500)); clear BK500; clear HB; have BK500 := n0_; have HB := n1_; have BK502 := n2_; have GW502 := n3_; have GE502 := n4_; have NB500_502 := n5_; have NB502_500 := n6_; clear n0_ n1_ n2_ n3_ n4_ n5_ n6_; clear hb hbox hg; have hnb9 := NB502_500.out; have hnc9 := NB500_502.out; have hcz10_0 : w8.cell? ⟨gb502, 0, none⟩ = some (.string (⟨#[]⟩ : ByteArray)) := (blk_cell BK502.out 0).trans rfl; have hcz10_1 : w8.cell? ⟨gb502, 1, none⟩ = some (.string (⟨#[]⟩ : ByteArray)) := (blk_cell BK502.out 1).trans rfl; have hcz10_2 : w8.cell? ⟨gb502, 2, none⟩ = some (.string (⟨#[]⟩ : ByteArray)) := (blk_cell BK502.out 2).trans rfl; have hcz10_3 : w8.cell? ⟨gb502, 3, none⟩ = some (.int .i64 0) := (blk_cell BK502.out 3).trans rfl; have hfz10_0 := blk_frozen BK502.out 0; have hfz10_1 := blk_frozen BK502.out 1; have hfz10_2 := blk_frozen BK502.out 2; have hfz10_3 := blk_frozen BK502.out 3))
            (try simp only [Act.put, List.setIfInBounds_toArray, List.set_cons_zero, List.set_cons_succ])
            by_cases c11 : ((((rd_T85 l0 x11_1).f0.f0).toList) == a1_0.toList && ((((rd_T85 l0 x11_1).f0.f1).toList) == a1_1.toList)) = true
            · rw [if_pos c11] at H
              have c11b0 : ((((rd_T85 l0 x11_1).f0.f0).toList) == a1_0.toList && ((((rd_T85 l0 x11_1).f0.f1).toList) == a1_1.toList)) = true := c11
              (try (have c11b1 : decide ((((rd_T85 l0 x11_1).f0.f0).toList) = a1_0.toList && ((((rd_T85 l0 x11_1).f0.f1).toList) == a1_1.toList)) = true := by simpa using c11))
              (try (have c11b2 : ((((rd_T85 l0 x11_1).f0.f0).toList) == a1_0.toList && ((((rd_T85 l0 x11_1).f0.f1).toList) == a1_1.toList)) = true := by simpa using c11))
              clear c11
              (try simp only [c11b0])
              have hnb12 := NB502_500.out
              have hnc12 := NB500_502.out
              have hcz13_0 : w8.cell? ⟨gb502, 0, none⟩ = some (.string (⟨#[]⟩ : ByteArray)) := (blk_cell BK502.out 0).trans rfl
              have hcz13_1 : w8.cell? ⟨gb502, 1, none⟩ = some (.string (⟨#[]⟩ : ByteArray)) := (blk_cell BK502.out 1).trans rfl
              have hcz13_2 : w8.cell? ⟨gb502, 2, none⟩ = some (.string (⟨#[]⟩ : ByteArray)) := (blk_cell BK502.out 2).trans rfl
              have hcz13_3 : w8.cell? ⟨gb502, 3, none⟩ = some (.int .i64 0) := (blk_cell BK502.out 3).trans rfl
              have hfz13_0 := blk_frozen BK502.out 0
              have hfz13_1 := blk_frozen BK502.out 1
              have hfz13_2 := blk_frozen BK502.out 2
              have hfz13_3 := blk_frozen BK502.out 3
              have hcz14_0 : w8.cell? ⟨gb500, 0, none⟩ = some (.string a1_0) := (blk_cell BK500.out 0).trans rfl
              have hcz14_1 : w8.cell? ⟨gb500, 1, none⟩ = some (.string a1_1) := (blk_cell BK500.out 1).trans rfl
              have hfz14_0 := blk_frozen BK500.out 0
              have hfz14_1 := blk_frozen BK500.out 1
              go_upto_if 24 with (fail)
              by_cases c15 : ((rd_T85 l0 x11_1).f1).toList = a2.toList
              · rw [if_pos c15] at H
                have c15b0 : (((rd_T85 l0 x11_1).f1).toList == a2.toList) = true := beq_iff_eq.mpr c15
                have c15b1 : (((rd_T85 l0 x11_1).f1).toList != a2.toList) = false := bne_eq_false_iff_eq.mpr c15
                clear c15
                (try simp only [c15b0, c15b1])
                obtain rfl := Option.some.inj H
                have hnb16 := NB502_500.out
                have hnc16 := NB500_502.out
                have hcz17_0 : w8.cell? ⟨gb502, 0, none⟩ = some (.string (⟨#[]⟩ : ByteArray)) := (blk_cell BK502.out 0).trans rfl
                have hcz17_1 : w8.cell? ⟨gb502, 1, none⟩ = some (.string (⟨#[]⟩ : ByteArray)) := (blk_cell BK502.out 1).trans rfl
                have hcz17_2 : w8.cell? ⟨gb502, 2, none⟩ = some (.string (⟨#[]⟩ : ByteArray)) := (blk_cell BK502.out 2).trans rfl
                have hcz17_3 : w8.cell? ⟨gb502, 3, none⟩ = some (.int .i64 0) := (blk_cell BK502.out 3).trans rfl
                have hfz17_0 := blk_frozen BK502.out 0
                have hfz17_1 := blk_frozen BK502.out 1
                have hfz17_2 := blk_frozen BK502.out 2
                have hfz17_3 := blk_frozen BK502.out 3
                go_wp2
                go_ret
                exact ⟨by first | rfl | (simp [errW_none, errW_some] <;> rfl) | (simp [*, errW_none, errW_some] <;> rfl), by repeat (first | (with_reducible first | exact HB.out | apply below_alloc | apply pw_below_drewN | apply below_drew1 | refine below_set ?_ GE500.out | refine below_set ?_ GE502.out) | exact HB.out)⟩
              · rw [if_neg c15] at H
                have c15b0 : (((rd_T85 l0 x11_1).f1).toList == a2.toList) = false := beq_eq_false_iff_ne.mpr c15
                have c15b1 : (((rd_T85 l0 x11_1).f1).toList != a2.toList) = true := bne_iff_ne.mpr c15
                (try simp only [c15b0, c15b1])
                have H' := Aside0.mk H
                clear H
                go_wp2
                go_roundg k1
                case measure => have := HK1.out; omega
                case rel => exact ⟨(wrap64 (x11_1 + 1)), (by first | rfl | (simp; done) | (simp [*]; done)), H', ⟨by have := HK1.out; omega⟩, ⟨by (with_reducible repeat (first | refine blk_drewN ?_ _ | refine blk_drew ?_ | refine blk_alloc ?_ _)); refine blk_far ?_ NB500_502.out _; (with_reducible repeat (first | refine blk_drewN ?_ _ | refine blk_drew ?_ | refine blk_alloc ?_ _)); refine blk_far ?_ NB500_502.out _; (with_reducible repeat (first | refine blk_drewN ?_ _ | refine blk_drew ?_ | refine blk_alloc ?_ _)); refine blk_far ?_ NB500_502.out _; (with_reducible repeat (first | refine blk_drewN ?_ _ | refine blk_drew ?_ | refine blk_alloc ?_ _)); refine blk_far ?_ NB500_502.out _; (with_reducible repeat (first | refine blk_drewN ?_ _ | refine blk_drew ?_ | refine blk_alloc ?_ _)); exact BK500.out⟩, ⟨by repeat (first | (with_reducible first | exact HB.out | apply below_alloc | apply pw_below_drewN | apply below_drew1 | refine below_set ?_ GE500.out | refine below_set ?_ GE502.out) | exact HB.out)⟩⟩
            · rw [if_neg c11] at H
              have c11b0 : ((((rd_T85 l0 x11_1).f0.f0).toList) == a1_0.toList && ((((rd_T85 l0 x11_1).f0.f1).toList) == a1_1.toList)) = false := by simpa using c11
              (try (have c11b1 : decide ((((rd_T85 l0 x11_1).f0.f0).toList) = a1_0.toList && ((((rd_T85 l0 x11_1).f0.f1).toList) == a1_1.toList)) = false := by simpa using c11))
              (try (have c11b2 : ((((rd_T85 l0 x11_1).f0.f0).toList) == a1_0.toList && ((((rd_T85 l0 x11_1).f0.f1).toList) == a1_1.toList)) = false := by simpa using c11))
              (try (have c11b3 : ¬ ((((rd_T85 l0 x11_1).f0.f0).toList) = a1_0.toList && ((((rd_T85 l0 x11_1).f0.f1).toList) == a1_1.toList)) := by simpa using c11))
              clear c11
              (try simp only [c11b0])
              have H' := Aside0.mk H
              clear H
              have hnb18 := NB502_500.out
              have hnc18 := NB500_502.out
              have hcz19_0 : w8.cell? ⟨gb502, 0, none⟩ = some (.string (⟨#[]⟩ : ByteArray)) := (blk_cell BK502.out 0).trans rfl
              have hcz19_1 : w8.cell? ⟨gb502, 1, none⟩ = some (.string (⟨#[]⟩ : ByteArray)) := (blk_cell BK502.out 1).trans rfl
              have hcz19_2 : w8.cell? ⟨gb502, 2, none⟩ = some (.string (⟨#[]⟩ : ByteArray)) := (blk_cell BK502.out 2).trans rfl
              have hcz19_3 : w8.cell? ⟨gb502, 3, none⟩ = some (.int .i64 0) := (blk_cell BK502.out 3).trans rfl
              have hfz19_0 := blk_frozen BK502.out 0
              have hfz19_1 := blk_frozen BK502.out 1
              have hfz19_2 := blk_frozen BK502.out 2
              have hfz19_3 := blk_frozen BK502.out 3
              have hcz20_0 : w8.cell? ⟨gb500, 0, none⟩ = some (.string a1_0) := (blk_cell BK500.out 0).trans rfl
              have hcz20_1 : w8.cell? ⟨gb500, 1, none⟩ = some (.string a1_1) := (blk_cell BK500.out 1).trans rfl
              have hfz20_0 := blk_frozen BK500.out 0
              have hfz20_1 := blk_frozen BK500.out 1
              go_wp2
              go_roundg k1
              case measure => have := HK1.out; omega
              case rel => exact ⟨(wrap64 (x11_1 + 1)), (by first | rfl | (simp; done) | (simp [*]; done)), H', ⟨by have := HK1.out; omega⟩, ⟨by (with_reducible repeat (first | refine blk_drewN ?_ _ | refine blk_drew ?_ | refine blk_alloc ?_ _)); refine blk_far ?_ NB500_502.out _; (with_reducible repeat (first | refine blk_drewN ?_ _ | refine blk_drew ?_ | refine blk_alloc ?_ _)); refine blk_far ?_ NB500_502.out _; (with_reducible repeat (first | refine blk_drewN ?_ _ | refine blk_drew ?_ | refine blk_alloc ?_ _)); refine blk_far ?_ NB500_502.out _; (with_reducible repeat (first | refine blk_drewN ?_ _ | refine blk_drew ?_ | refine blk_alloc ?_ _)); refine blk_far ?_ NB500_502.out _; (with_reducible repeat (first | refine blk_drewN ?_ _ | refine blk_drew ?_ | refine blk_alloc ?_ _)); exact BK500.out⟩, ⟨by repeat (first | (with_reducible first | exact HB.out | apply below_alloc | apply pw_below_drewN | apply below_drew1 | refine below_set ?_ GE500.out | refine below_set ?_ GE502.out) | exact HB.out)⟩⟩
          · rw [if_neg c7] at H
            exact absurd H (by simp)
        · rw [if_neg c6] at H
          exact absurd H (by simp)
      · rw [if_neg c5] at H
        have c5b0 : decide (x11_1 < (l0.length : Int)) = false := decide_eq_false c5
        clear c5
        (try simp only [c5b0])
        obtain rfl := Option.some.inj H
        go_wp2
        go_ret
        exact ⟨by first | rfl | (simp [errW_none, errW_some] <;> rfl) | (simp [*, errW_none, errW_some] <;> rfl), by repeat (first | (with_reducible first | exact HB.out | apply below_alloc | apply pw_below_drewN | apply below_drew1 | refine below_set ?_ GE500.out) | exact HB.out)⟩
def pledge_Of.l0 : Nat → List (S85) → List (S85) → Int → Int → ByteArray → ByteArray → Option ((List (S85)))
  | 0, _, _, _, _, _, _ => none
  | k + 1, x4, x7, x8, x9, x521000, x521001 => if x9 < x8 then (if 0 ≤ x9 then (if x9 < (x7.length : Int) then (if ((((rd_T85 x7 x9).f0.f0).toList) == x521000.toList && ((((rd_T85 x7 x9).f0.f1).toList) == x521001.toList)) = true then (if x4.length < 2513169434916 then (pledge_Of.l0 k (x4 ++ [(⟨(⟨(rd_T85 x7 x9).f0.f0, (rd_T85 x7 x9).f0.f1⟩ : S67), (rd_T85 x7 x9).f1, (rd_T85 x7 x9).f2⟩ : S85)]) x7 x8 (wrap64 (x9 + 1)) x521000 x521001) else (none)) else (pledge_Of.l0 k x4 x7 x8 (wrap64 (x9 + 1)) x521000 x521001)) else (none)) else (none)) else (some x4)
def pledge_Of.f (k : Nat) (l0 : List (S85)) (a1_0 : ByteArray) (a1_1 : ByteArray) : Option ((List (S85))) := pledge_Of.l0 k ([] : List (S85)) l0 (l0.length : Int) 0 a1_0 a1_1
theorem pledge_Of.mono_l : ∀ k, (∀ y0 y1 y2 y3 y4 y5, LeO (pledge_Of.l0 k y0 y1 y2 y3 y4 y5) (pledge_Of.l0 (k + 1) y0 y1 y2 y3 y4 y5))
  | 0 => fun _ _ _ _ _ _ r h => by simp [pledge_Of.l0] at h
  | k + 1 => by
    have ih0 := pledge_Of.mono_l k
    · intro y0 y1 y2 y3 y4 y5
      unfold pledge_Of.l0
      repeat' first
      | (with_reducible exact ih0 _ _ _ _ _ _)
      | (with_reducible exact LeO.refl _)
      | (with_reducible exact LeO.none _)
      | (with_reducible refine LeO.ite ?_ ?_)
      | (with_reducible refine LeO.bind ?_ (fun _ => ?_))
      | exact ih0 _ _ _ _ _ _
      | exact LeO.none _
      | refine LeO.ite ?_ ?_
      | refine LeO.bind ?_ (fun _ => ?_)
theorem pledge_Of.mono : ∀ a0 a1 a2 k, LeO (pledge_Of.f k a0 a1 a2) (pledge_Of.f (k + 1) a0 a1 a2) := by
  intro a0 a1 a2 k
  have ih0 := pledge_Of.mono_l k
  unfold pledge_Of.f
  repeat' first
      | (with_reducible exact ih0 _ _ _ _ _ _)
      | (with_reducible exact LeO.refl _)
      | (with_reducible exact LeO.none _)
      | (with_reducible refine LeO.ite ?_ ?_)
      | (with_reducible refine LeO.bind ?_ (fun _ => ?_))
      | exact ih0 _ _ _ _ _ _
      | exact LeO.none _
      | refine LeO.ite ?_ ?_
      | refine LeO.bind ?_ (fun _ => ?_)
set_option maxHeartbeats 8000000 in
set_option maxRecDepth 100000 in
theorem pledge_Of.calls (k : Nat) (A0 : Option Addr) (c0 : Nat) (l0 : List (S85)) (a1_0 : ByteArray) (a1_1 : ByteArray) (r : List (S85)) (w : World) (hr0 : Kd.C k85 w A0 l0.length l0) (hc0 : l0.length ≤ c0) (h : pledge_Of.f k l0 a1_0 a1_1 = some r) :
    Calls Try.prog 47 #[.slice A0 l0.length c0, .agg #[.string a1_0, .string a1_1]] w fun e w' => ∃ v0_ : Value, e = .returned (v0_) ∧ Kd.R k85 85 w' w.heap.size (fun _ => True) v0_ r ∧ Below w.heap.size w w' := by
  have hu67 := Try.underlying67
  have hu85 := Try.underlying85
  have HR0 := Aside0.mk hr0
  have HC0 := Aside0.mk hc0
  clear hr0 hc0
  have HB := Aside0.mk (Below.refl w.heap.size w)
  have H : (pledge_Of.l0 k ([] : List (S85)) l0 (l0.length : Int) 0 a1_0 a1_1) = some r := h
  clear h
  have H' := Aside0.mk H
  clear H
  go_enter Try.func47, Try.ntmps47
  go_wp2_with (first | ((with_reducible refine gate_dst (N := 3) rfl ?_); refine box_event ?hg (N := 3) ?hd (cs := #[.string a1_0, .string a1_1]) (t := 67) ?hr ?_; (case hd => rfl); (case hg => rfl); (case hr => first | (go_simp; done) | (go_simp; rfl)); intro gb520 hg w3 hbox hb; have n0_ := Aside0.mk (below_step (by repeat (first | (with_reducible first | exact HB.out | apply below_alloc | apply pw_below_drewN | apply below_drew1) | exact HB.out)) hb); have n1_ := Aside0.mk (hbox); have n2_ := Aside0.mk ((by rw [hg]; exact (below_size (by repeat (first | (with_reducible first | exact HB.out | apply below_alloc | apply pw_below_drewN | apply below_drew1) | exact HB.out))) : w.heap.size ≤ gb520)); have n3_ := Aside0.mk ((by rw [hg]; exact (below_size (by repeat (first | (with_reducible first | exact HB.out | apply below_alloc | apply pw_below_drewN | apply below_drew1) | exact HB.out))) : w.heap.size ≤ gb520)); clear HB; have HB := n0_; have BK520 := n1_; have GW520 := n2_; have GE520 := n3_; clear n0_ n1_ n2_ n3_; clear hb hbox hg))
  go_loopg [4, 9] k (fun kq v4 v9 w' => ∃ (x4_1 : List (S85)) (x9_1 : Int), v9 = .int .i64 x9_1 ∧ Aside0 (pledge_Of.l0 kq x4_1 l0 (l0.length : Int) x9_1 a1_0 a1_1 = some r) ∧ Aside0 (kq ≤ k) ∧ Aside0 (Kd.R k85 85 w' w.heap.size (fun _ => True) v4 x4_1) ∧ Aside0 (w'.heap[gb520]? = some (.cells #[.string a1_0, .string a1_1] 67 (0, 0))) ∧ Aside0 (Below w.heap.size w w'))
  case atStart => exact ⟨(([] : List (S85))), (0), (by first | rfl | (simp; done) | (simp [*]; done)), H', ⟨Nat.le_refl _⟩, ⟨by first | exact Kd.R_nil _ _ _ _ _ | exact Kd.N_nil _ _ _ _ _ | exact Kd.V_nil _ _ _ _ _ | exact Kd.Q_nil _ _ _ _ _ | exact Kd.S_nil _ _ _ _ _⟩, ⟨by (with_reducible repeat (first | refine blk_drewN ?_ _ | refine blk_drew ?_ | refine blk_alloc ?_ _)); exact BK520.out⟩, ⟨by repeat (first | (with_reducible first | exact HB.out | apply below_alloc | apply pw_below_drewN | apply below_drew1 | refine below_set ?_ GE520.out) | exact HB.out)⟩⟩
  case round =>
    clear H'
    try clear p2
    obtain ⟨x4_1, x9_1, rfl, HA, HK1, HO_4, BK520, HB⟩ := hrel
    cases gk with
    | zero => exact absurd HA.out (by simp [pledge_Of.l0])
    | succ k1 =>
      have H := HA.out
      clear HA
      simp only [pledge_Of.l0] at H
      by_cases c4 : x9_1 < (l0.length : Int)
      · rw [if_pos c4] at H
        have c4b0 : decide (x9_1 < (l0.length : Int)) = true := decide_eq_true c4
        clear c4
        (try simp only [c4b0])
        by_cases c5 : 0 ≤ x9_1
        · rw [if_pos c5] at H
          have c5b0 : decide (0 ≤ x9_1) = true := decide_eq_true c5
          clear c5
          by_cases c6 : x9_1 < (l0.length : Int)
          · rw [if_pos c6] at H
            have c6b0 : decide (x9_1 < (l0.length : Int)) = true := decide_eq_true c6
            clear c6
            have p521 : 0 ≤ (x9_1 : Int) := of_decide_eq_true (by first | (with_reducible assumption) | assumption)
            have q521 : x9_1 < (l0.length : Int) := of_decide_eq_true (by first | (with_reducible assumption) | assumption)
            obtain ⟨ad521, e521, hx521_0, hx521_1, hx521_2, hx521_3⟩ := at_T85 HR0.out x9_1 p521 q521
            cases e521
            replace hx521_0 := (HB.out.cell (World.block_lt_of_cell? w _ hx521_0)).trans hx521_0
            replace hx521_1 := (HB.out.cell (World.block_lt_of_cell? w _ hx521_1)).trans hx521_1
            replace hx521_2 := (HB.out.cell (World.block_lt_of_cell? w _ hx521_2)).trans hx521_2
            replace hx521_3 := (HB.out.cell (World.block_lt_of_cell? w _ hx521_3)).trans hx521_3
            replace p521 := eq_true p521
            replace q521 := eq_true q521
            go_upto_if 16 with (first | ((with_reducible refine gate_dst (N := 6) rfl ?_); refine box_event ?hg (N := 6) ?hd (cs := #[.string (⟨#[]⟩ : ByteArray), .string (⟨#[]⟩ : ByteArray), .string (⟨#[]⟩ : ByteArray), .int .i64 0]) (t := 85) ?hr ?_; (case hd => rfl); (case hg => rfl); (case hr => first | (go_simp; done) | (go_simp; rfl)); intro gb522 hg w7 hbox hb; have n0_ := Aside0.mk (Kd.R_below (Kd.R_elderB (by (with_reducible repeat (first | apply Kd.R_alloc | apply Kd.R_drewN | apply Kd.R_drew)); exact HO_4.out) gb522 (Nat.le_of_eq hg.symm)) hb); have n1_ := Aside0.mk (blk_below (g := gb520) (o := .cells #[.string a1_0, .string a1_1] 67 (0, 0)) (by (with_reducible repeat (first | refine blk_drewN ?_ _ | refine blk_drew ?_ | refine blk_alloc ?_ _)); exact BK520.out) hb); have n2_ := Aside0.mk (below_step (by repeat (first | (with_reducible first | exact HB.out | apply below_alloc | apply pw_below_drewN | apply below_drew1 | refine below_set ?_ GE520.out) | exact HB.out)) hb); have n3_ := Aside0.mk (hbox); have n4_ := Aside0.mk ((by rw [hg]; exact (below_size (by repeat (first | (with_reducible first | exact HB.out | apply below_alloc | apply pw_below_drewN | apply below_drew1 | refine below_set ?_ GE520.out) | exact HB.out))) : w.heap.size ≤ gb522)); have n5_ := Aside0.mk ((by rw [hg]; exact (below_size (by repeat (first | (with_reducible first | exact HB.out | apply below_alloc | apply pw_below_drewN | apply below_drew1 | refine below_set ?_ GE520.out) | exact HB.out))) : w.heap.size ≤ gb522)); have n6_ := Aside0.mk ((by rw [hg]; exact Nat.ne_of_lt (blk_lt (g := gb520) (o := .cells #[.string a1_0, .string a1_1] 67 (0, 0)) (by (with_reducible repeat (first | refine blk_drewN ?_ _ | refine blk_drew ?_ | refine blk_alloc ?_ _)); exact BK520.out)) : gb520 ≠ gb522)); have n7_ := Aside0.mk ((by rw [hg]; exact Nat.ne_of_gt (blk_lt (g := gb520) (o := .cells #[.string a1_0, .string a1_1] 67 (0, 0)) (by (with_reducible repeat (first | refine blk_drewN ?_ _ | refine blk_drew ?_ | refine blk_alloc ?_ _)); exact BK520.out)) : gb522 ≠ gb520)); clear HO_4; clear BK520; clear HB; have HO_4 := n0_; have BK520 := n1_; have HB := n2_; have BK522 := n3_; have GW522 := n4_; have GE522 := n5_; have NB520_522 := n6_; have NB522_520 := n7_; clear n0_ n1_ n2_ n3_ n4_ n5_ n6_ n7_; clear hb hbox hg; have hnb8 := NB522_520.out; have hnc8 := NB520_522.out; have hcz9_0 : w7.cell? ⟨gb522, 0, none⟩ = some (.string (⟨#[]⟩ : ByteArray)) := (blk_cell BK522.out 0).trans rfl; have hcz9_1 : w7.cell? ⟨gb522, 1, none⟩ = some (.string (⟨#[]⟩ : ByteArray)) := (blk_cell BK522.out 1).trans rfl; have hcz9_2 : w7.cell? ⟨gb522, 2, none⟩ = some (.string (⟨#[]⟩ : ByteArray)) := (blk_cell BK522.out 2).trans rfl; have hcz9_3 : w7.cell? ⟨gb522, 3, none⟩ = some (.int .i64 0) := (blk_cell BK522.out 3).trans rfl; have hfz9_0 := blk_frozen BK522.out 0; have hfz9_1 := blk_frozen BK522.out 1; have hfz9_2 := blk_frozen BK522.out 2; have hfz9_3 := blk_frozen BK522.out 3; have hcz10_0 : w7.cell? ⟨gb520, 0, none⟩ = some (.string a1_0) := (blk_cell BK520.out 0).trans rfl; have hcz10_1 : w7.cell? ⟨gb520, 1, none⟩ = some (.string a1_1) := (blk_cell BK520.out 1).trans rfl; have hfz10_0 := blk_frozen BK520.out 0; have hfz10_1 := blk_frozen BK520.out 1))
            (try simp only [Act.put, List.setIfInBounds_toArray, List.set_cons_zero, List.set_cons_succ])
            by_cases c11 : ((((rd_T85 l0 x9_1).f0.f0).toList) == a1_0.toList && ((((rd_T85 l0 x9_1).f0.f1).toList) == a1_1.toList)) = true
            · rw [if_pos c11] at H
              have c11b0 : ((((rd_T85 l0 x9_1).f0.f0).toList) == a1_0.toList && ((((rd_T85 l0 x9_1).f0.f1).toList) == a1_1.toList)) = true := c11
              (try (have c11b1 : decide ((((rd_T85 l0 x9_1).f0.f0).toList) = a1_0.toList && ((((rd_T85 l0 x9_1).f0.f1).toList) == a1_1.toList)) = true := by simpa using c11))
              (try (have c11b2 : ((((rd_T85 l0 x9_1).f0.f0).toList) == a1_0.toList && ((((rd_T85 l0 x9_1).f0.f1).toList) == a1_1.toList)) = true := by simpa using c11))
              clear c11
              (try simp only [c11b0])
              by_cases c12 : x4_1.length < 2513169434916
              · rw [if_pos c12] at H
                have LMc12 := Aside0.mk c12
                clear c12
                obtain ⟨y523, hy523⟩ : ∃ y_ : List (S85), y_ = (x4_1 ++ [(⟨(⟨(rd_T85 l0 x9_1).f0.f0, (rd_T85 l0 x9_1).f0.f1⟩ : S67), (rd_T85 l0 x9_1).f1, (rd_T85 l0 x9_1).f2⟩ : S85)]) := ⟨_, rfl⟩
                replace H : (pledge_Of.l0 k1 y523 l0 (l0.length : Int) (wrap64 (x9_1 + 1)) a1_0 a1_1) = some r := by first | (rw [hy523]; with_reducible exact H) | (have H2_ := (Option.bind_some _ _).symm.trans H; rw [hy523]; with_reducible exact H2_) | (have H2_ := (Option.bind_some _ _).symm.trans H; with_reducible exact H2_) | with_reducible exact H | (rw [hy523]; exact H) | exact H
                have Ny523 := Aside0.mk hy523
                clear hy523
                have H' := Aside0.mk H
                clear H
                have hnb13 := NB522_520.out
                have hnc13 := NB520_522.out
                have hcz14_0 : w7.cell? ⟨gb522, 0, none⟩ = some (.string (⟨#[]⟩ : ByteArray)) := (blk_cell BK522.out 0).trans rfl
                have hcz14_1 : w7.cell? ⟨gb522, 1, none⟩ = some (.string (⟨#[]⟩ : ByteArray)) := (blk_cell BK522.out 1).trans rfl
                have hcz14_2 : w7.cell? ⟨gb522, 2, none⟩ = some (.string (⟨#[]⟩ : ByteArray)) := (blk_cell BK522.out 2).trans rfl
                have hcz14_3 : w7.cell? ⟨gb522, 3, none⟩ = some (.int .i64 0) := (blk_cell BK522.out 3).trans rfl
                have hfz14_0 := blk_frozen BK522.out 0
                have hfz14_1 := blk_frozen BK522.out 1
                have hfz14_2 := blk_frozen BK522.out 2
                have hfz14_3 := blk_frozen BK522.out 3
                go_wp2_with (first | ((with_reducible refine gate_builtin (b := .append) (xs := #[.tmp 17, .tmp 19]) rfl ?_); at_builtin; refine Kd.R_append k85 (w0 := w) w.heap.size rfl (.tmp 17) (.tmp 19) 65 85 (.agg #[(.string ⟨#[]⟩), (.string ⟨#[]⟩), (.string ⟨#[]⟩), (.int .i64 0)]) 56 rfl Try.underlying65 info85 rfl (by decide) (by omega) u4 x4_1 (⟨(⟨(rd_T85 l0 x9_1).f0.f0, (rd_T85 l0 x9_1).f0.f1⟩ : S67), (rd_T85 l0 x9_1).f1, (rd_T85 l0 x9_1).f2⟩ : S85) [.string ((rd_T85 l0 x9_1).f0.f0), .string ((rd_T85 l0 x9_1).f0.f1), .string ((rd_T85 l0 x9_1).f1), .int .i64 ((rd_T85 l0 x9_1).f2)] (fun k_ => k_ ≠ gb522) (fun _ => False) rfl (by first | (go_simp; done) | (go_simp; rfl)) ?aP (fun _ hk => hk.elim) ?aF ?aO ?aB ?aS ?aL ?_; (case aP => exact k85_mkM _ _ _ (⟨(⟨(rd_T85 l0 x9_1).f0.f0, (rd_T85 l0 x9_1).f0.f1⟩ : S67), (rd_T85 l0 x9_1).f1, (rd_T85 l0 x9_1).f2⟩ : S85)); (case aB => exact (by repeat (first | (with_reducible first | exact HB.out | apply below_alloc | apply pw_below_drewN | apply below_drew1 | refine below_set ?_ GE520.out | refine below_set ?_ GE522.out) | exact HB.out))); (case aF => exact (fun k_ hk => Kd.freshB (g := gb522) (o := .cells #[.string ((rd_T85 l0 x9_1).f0.f0), .string ((rd_T85 l0 x9_1).f0.f1), .string ((rd_T85 l0 x9_1).f1), .int .i64 ((rd_T85 l0 x9_1).f2)] 85 (0, 0)) (by (with_reducible repeat (first | refine blk_drewN ?_ _ | refine blk_drew ?_ | refine blk_alloc ?_ _)); refine blk_put (cs := #[.string ((rd_T85 l0 x9_1).f0.f0), .string ((rd_T85 l0 x9_1).f0.f1), .string ((rd_T85 l0 x9_1).f1), .int .i64 0]) ?_ 3 _ rfl; (with_reducible repeat (first | refine blk_drewN ?_ _ | refine blk_drew ?_ | refine blk_alloc ?_ _)); refine blk_put (cs := #[.string ((rd_T85 l0 x9_1).f0.f0), .string ((rd_T85 l0 x9_1).f0.f1), .string (⟨#[]⟩ : ByteArray), .int .i64 0]) ?_ 2 _ rfl; (with_reducible repeat (first | refine blk_drewN ?_ _ | refine blk_drew ?_ | refine blk_alloc ?_ _)); refine blk_put (cs := #[.string ((rd_T85 l0 x9_1).f0.f0), .string (⟨#[]⟩ : ByteArray), .string (⟨#[]⟩ : ByteArray), .int .i64 0]) ?_ 1 _ rfl; (with_reducible repeat (first | refine blk_drewN ?_ _ | refine blk_drew ?_ | refine blk_alloc ?_ _)); refine blk_put (cs := #[.string (⟨#[]⟩ : ByteArray), .string (⟨#[]⟩ : ByteArray), .string (⟨#[]⟩ : ByteArray), .int .i64 0]) ?_ 0 _ rfl; (with_reducible repeat (first | refine blk_drewN ?_ _ | refine blk_drew ?_ | refine blk_alloc ?_ _)); exact BK522.out) k_ hk)); (case aO => exact (by (with_reducible repeat (first | apply Kd.R_alloc | apply Kd.R_drewN | apply Kd.R_drew)); exact Kd.R_mono (Kd.R_far (p := ⟨gb522, 3, none⟩) (Kd.R_far (p := ⟨gb522, 2, none⟩) (Kd.R_far (p := ⟨gb522, 1, none⟩) (Kd.R_far (p := ⟨gb522, 0, none⟩) (Kd.R_mono HO_4.out (fun k_ hk => (⟨hk, hk.2⟩ : _ ∧ k_ ≠ gb522))) (fun _ hk => hk.2) (.string ((rd_T85 l0 x9_1).f0.f0))) (fun _ hk => hk.2) (.string ((rd_T85 l0 x9_1).f0.f1))) (fun _ hk => hk.2) (.string ((rd_T85 l0 x9_1).f1))) (fun _ hk => hk.2) (.int .i64 ((rd_T85 l0 x9_1).f2))) (fun _ hk => hk.1.2))); (case aS => exact (below_size (by repeat (first | (with_reducible first | exact HB.out | apply below_alloc | apply pw_below_drewN | apply below_drew1 | refine below_set ?_ GE520.out | refine below_set ?_ GE522.out) | exact HB.out)))); (case aL => have := LMc12.out; omega); intro v524 w15 ho hb hg hat; rw [← Ny523.out] at ho; have n0_ := Aside0.mk (blk_grown (g := gb520) (o := .cells #[.string a1_0, .string a1_1] 67 (0, 0)) (by (with_reducible repeat (first | refine blk_drewN ?_ _ | refine blk_drew ?_ | refine blk_alloc ?_ _)); refine blk_far ?_ NB520_522.out _; (with_reducible repeat (first | refine blk_drewN ?_ _ | refine blk_drew ?_ | refine blk_alloc ?_ _)); refine blk_far ?_ NB520_522.out _; (with_reducible repeat (first | refine blk_drewN ?_ _ | refine blk_drew ?_ | refine blk_alloc ?_ _)); refine blk_far ?_ NB520_522.out _; (with_reducible repeat (first | refine blk_drewN ?_ _ | refine blk_drew ?_ | refine blk_alloc ?_ _)); refine blk_far ?_ NB520_522.out _; (with_reducible repeat (first | refine blk_drewN ?_ _ | refine blk_drew ?_ | refine blk_alloc ?_ _)); exact BK520.out) hg (Kd.R_ne HO_4.out BK520.out (by decide))); have n1_ := Aside0.mk (blk_grown (g := gb522) (o := .cells #[.string ((rd_T85 l0 x9_1).f0.f0), .string ((rd_T85 l0 x9_1).f0.f1), .string ((rd_T85 l0 x9_1).f1), .int .i64 ((rd_T85 l0 x9_1).f2)] 85 (0, 0)) (by (with_reducible repeat (first | refine blk_drewN ?_ _ | refine blk_drew ?_ | refine blk_alloc ?_ _)); refine blk_put (cs := #[.string ((rd_T85 l0 x9_1).f0.f0), .string ((rd_T85 l0 x9_1).f0.f1), .string ((rd_T85 l0 x9_1).f1), .int .i64 0]) ?_ 3 _ rfl; (with_reducible repeat (first | refine blk_drewN ?_ _ | refine blk_drew ?_ | refine blk_alloc ?_ _)); refine blk_put (cs := #[.string ((rd_T85 l0 x9_1).f0.f0), .string ((rd_T85 l0 x9_1).f0.f1), .string (⟨#[]⟩ : ByteArray), .int .i64 0]) ?_ 2 _ rfl; (with_reducible repeat (first | refine blk_drewN ?_ _ | refine blk_drew ?_ | refine blk_alloc ?_ _)); refine blk_put (cs := #[.string ((rd_T85 l0 x9_1).f0.f0), .string (⟨#[]⟩ : ByteArray), .string (⟨#[]⟩ : ByteArray), .int .i64 0]) ?_ 1 _ rfl; (with_reducible repeat (first | refine blk_drewN ?_ _ | refine blk_drew ?_ | refine blk_alloc ?_ _)); refine blk_put (cs := #[.string (⟨#[]⟩ : ByteArray), .string (⟨#[]⟩ : ByteArray), .string (⟨#[]⟩ : ByteArray), .int .i64 0]) ?_ 0 _ rfl; (with_reducible repeat (first | refine blk_drewN ?_ _ | refine blk_drew ?_ | refine blk_alloc ?_ _)); exact BK522.out) hg (Kd.R_away HO_4.out (fun _ hk => hk.2))); have n2_ := Aside0.mk (hb); have n3_ := Aside0.mk (ho); clear BK520; clear BK522; clear HB; clear HO_4; have BK520 := n0_; have BK522 := n1_; have HB := n2_; have HO525 := n3_; clear n0_ n1_ n2_ n3_; clear ho hb hg hat))
                go_roundg k1
                case measure => have := HK1.out; omega
                case rel => exact ⟨(y523), (wrap64 (x9_1 + 1)), (by first | rfl | (simp; done) | (simp [*]; done)), H', ⟨by have := HK1.out; omega⟩, ⟨by (with_reducible repeat (first | apply Kd.R_alloc | apply Kd.R_drewN | apply Kd.R_drew)); exact Kd.R_mono HO525.out (fun _ hk => trivial)⟩, ⟨by (with_reducible repeat (first | refine blk_drewN ?_ _ | refine blk_drew ?_ | refine blk_alloc ?_ _)); exact BK520.out⟩, ⟨by repeat (first | (with_reducible first | exact HB.out | apply below_alloc | apply pw_below_drewN | apply below_drew1 | refine below_set ?_ GE520.out | refine below_set ?_ GE522.out) | exact HB.out)⟩⟩
              · rw [if_neg c12] at H
                exact absurd H (by simp)
            · rw [if_neg c11] at H
              have c11b0 : ((((rd_T85 l0 x9_1).f0.f0).toList) == a1_0.toList && ((((rd_T85 l0 x9_1).f0.f1).toList) == a1_1.toList)) = false := by simpa using c11
              (try (have c11b1 : decide ((((rd_T85 l0 x9_1).f0.f0).toList) = a1_0.toList && ((((rd_T85 l0 x9_1).f0.f1).toList) == a1_1.toList)) = false := by simpa using c11))
              (try (have c11b2 : ((((rd_T85 l0 x9_1).f0.f0).toList) == a1_0.toList && ((((rd_T85 l0 x9_1).f0.f1).toList) == a1_1.toList)) = false := by simpa using c11))
              (try (have c11b3 : ¬ ((((rd_T85 l0 x9_1).f0.f0).toList) = a1_0.toList && ((((rd_T85 l0 x9_1).f0.f1).toList) == a1_1.toList)) := by simpa using c11))
              clear c11
              (try simp only [c11b0])
              have H' := Aside0.mk H
              clear H
              go_wp2
              go_roundg k1
              case measure => have := HK1.out; omega
              case rel => exact ⟨(x4_1), (wrap64 (x9_1 + 1)), (by first | rfl | (simp; done) | (simp [*]; done)), H', ⟨by have := HK1.out; omega⟩, ⟨by (with_reducible repeat (first | apply Kd.R_alloc | apply Kd.R_drewN | apply Kd.R_drew)); exact Kd.R_mono (Kd.R_far (p := ⟨gb522, 3, none⟩) (Kd.R_far (p := ⟨gb522, 2, none⟩) (Kd.R_far (p := ⟨gb522, 1, none⟩) (Kd.R_far (p := ⟨gb522, 0, none⟩) (Kd.R_mono HO_4.out (fun k_ hk => (⟨hk, hk.2⟩ : _ ∧ k_ ≠ gb522))) (fun _ hk => hk.2) (.string ((rd_T85 l0 x9_1).f0.f0))) (fun _ hk => hk.2) (.string ((rd_T85 l0 x9_1).f0.f1))) (fun _ hk => hk.2) (.string ((rd_T85 l0 x9_1).f1))) (fun _ hk => hk.2) (.int .i64 ((rd_T85 l0 x9_1).f2))) (fun _ hk => trivial)⟩, ⟨by (with_reducible repeat (first | refine blk_drewN ?_ _ | refine blk_drew ?_ | refine blk_alloc ?_ _)); refine blk_far ?_ NB520_522.out _; (with_reducible repeat (first | refine blk_drewN ?_ _ | refine blk_drew ?_ | refine blk_alloc ?_ _)); refine blk_far ?_ NB520_522.out _; (with_reducible repeat (first | refine blk_drewN ?_ _ | refine blk_drew ?_ | refine blk_alloc ?_ _)); refine blk_far ?_ NB520_522.out _; (with_reducible repeat (first | refine blk_drewN ?_ _ | refine blk_drew ?_ | refine blk_alloc ?_ _)); refine blk_far ?_ NB520_522.out _; (with_reducible repeat (first | refine blk_drewN ?_ _ | refine blk_drew ?_ | refine blk_alloc ?_ _)); exact BK520.out⟩, ⟨by repeat (first | (with_reducible first | exact HB.out | apply below_alloc | apply pw_below_drewN | apply below_drew1 | refine below_set ?_ GE520.out | refine below_set ?_ GE522.out) | exact HB.out)⟩⟩
          · rw [if_neg c6] at H
            exact absurd H (by simp)
        · rw [if_neg c5] at H
          exact absurd H (by simp)
      · rw [if_neg c4] at H
        have c4b0 : decide (x9_1 < (l0.length : Int)) = false := decide_eq_false c4
        clear c4
        (try simp only [c4b0])
        obtain rfl := Option.some.inj H
        go_wp2
        go_ret
        exact ⟨_, by first | rfl | (simp [errW_none, errW_some] <;> rfl) | (simp [*, errW_none, errW_some] <;> rfl), by (with_reducible repeat (first | apply Kd.R_alloc | apply Kd.R_drewN | apply Kd.R_drew)); exact HO_4.out, by repeat (first | (with_reducible first | exact HB.out | apply below_alloc | apply pw_below_drewN | apply below_drew1 | refine below_set ?_ GE520.out) | exact HB.out)⟩
end Go.Proofs.Ytaiekjimdjlgbaa.Pr
