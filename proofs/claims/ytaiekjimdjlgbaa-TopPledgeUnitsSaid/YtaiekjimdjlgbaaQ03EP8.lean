/- Functions' values and contracts, as the print wrote them. -/
import Derived.Test.YtaiekjimdjlgbaaQ03EP0
import Derived.Test.YtaiekjimdjlgbaaQ03EP3
import Derived.Test.YtaiekjimdjlgbaaQ03EP4
import Derived.Test.YtaiekjimdjlgbaaQ03EP5
import Derived.Test.YtaiekjimdjlgbaaQ03EP6
import Derived.Test.YtaiekjimdjlgbaaQ03EP7
namespace Go.Proofs.Ytaiekjimdjlgbaa.Pr
open Go.RowKit Go.Proofs.YtaiekjimdjlgbaaW.PrintWords Go.Proofs.YtaiekjimdjlgbaaW.PrintLast Go.Proofs.YtaiekjimdjlgbaaW.PrintMore
attribute [local go_sem] max2_int min2_int max_two min_two max_three min_three max_four min_four   -- for this text's walks alone
set_option linter.unusedVariables false
set_option linter.unusedSimpArgs false
def contangotop_TopPledgeUnits.j0 : Nat → Int → Bool → ByteArray → Int → Int → Int → Int → Int → Int → List (S94) → ByteArray → ByteArray → Option (Bool)
  | 0, _, _, _, _, _, _, _, _, _, _, _, _ => none
  | k + 1, x3, x29, x634000, x634001, x634002, x634003, x634004, x634005, x634006, x634007, x634008, x634009 => if x29 = true then (if x3 = 0 then ((contangotop_goes16.f k).bind fun t636 => (some t636)) else (some false)) else ((pledge_Put.f k ([] : List (S85)) x634008 x634009 x634000 x3).bind fun bt637 => (if bt637.2 = 0 then ((some (([(⟨x634000, x634001, x634002, x634003, x634004, x634005⟩ : S23)] : List (S23)) : List (S23))).bind fun y642 => ((pledge_Worth.f k bt637.1 x634008 x634009 y642 x634007).bind fun bt645 => ((pledge_Take.f k bt637.1 x634008 x634009 x634000 1).bind fun bt647 => ((pledge_Worth.f k bt647.1 x634008 x634009 y642 x634007).bind fun bt651 => (if bt645.1 ≥ x634006 then (if bt645.2 = 0 then (if bt647.2 = 0 then (if bt651.1 < x634006 then (if bt651.2 = 0 then ((pledge_Qty.f k bt647.1 x634008 x634009 x634000).bind fun t653 => (if t653 = (wrap64 (x3 - 1)) then ((contangotop_goes16.f k).bind fun t654 => (some t654)) else (some false))) else (some false)) else (some false)) else (some false)) else (some false)) else (some false)))))) else (if bt637.2 = 10 then ((contangotop_goes16.f k).bind fun t641 => (some t641)) else (some false))))
def contangotop_TopPledgeUnits.f (k : Nat) (a0_0 : ByteArray) (a0_1 : Int) (a0_2 : Int) (a0_3 : Int) (a0_4 : Int) (a0_5 : Int) (a0_6 : Int) (l0_7 : List (S94)) (a0_8 : ByteArray) (a0_9 : ByteArray) : Option (Bool) := (asset_Units.f k a0_0 a0_1 a0_2 a0_3 a0_4 a0_5 a0_6 l0_7).bind fun bt634 => (if bt634.2 = 0 then (contangotop_TopPledgeUnits.j0 k bt634.1 (bt634.1 == 0) a0_0 a0_1 a0_2 a0_3 a0_4 a0_5 a0_6 l0_7 a0_8 a0_9) else (contangotop_TopPledgeUnits.j0 k bt634.1 true a0_0 a0_1 a0_2 a0_3 a0_4 a0_5 a0_6 l0_7 a0_8 a0_9))
theorem contangotop_TopPledgeUnits.mono_l : ∀ k, (∀ y0 y1 y2 y3 y4 y5 y6 y7 y8 y9 y10 y11, LeO (contangotop_TopPledgeUnits.j0 k y0 y1 y2 y3 y4 y5 y6 y7 y8 y9 y10 y11) (contangotop_TopPledgeUnits.j0 (k + 1) y0 y1 y2 y3 y4 y5 y6 y7 y8 y9 y10 y11))
  | 0 => fun _ _ _ _ _ _ _ _ _ _ _ _ r h => by simp [contangotop_TopPledgeUnits.j0] at h
  | k + 1 => by
    have ih0 := contangotop_TopPledgeUnits.mono_l k
    · intro y0 y1 y2 y3 y4 y5 y6 y7 y8 y9 y10 y11
      unfold contangotop_TopPledgeUnits.j0
      repeat' first
      | (with_reducible exact ih0 _ _ _ _ _ _ _ _ _ _ _ _)
      | (with_reducible exact asset_Units.mono _ _ _ _ _ _ _ _ _)
      | (with_reducible exact contangotop_goes16.mono _)
      | (with_reducible exact pledge_Put.mono _ _ _ _ _ _)
      | (with_reducible exact pledge_Qty.mono _ _ _ _ _)
      | (with_reducible exact pledge_Take.mono _ _ _ _ _ _)
      | (with_reducible exact pledge_Worth.mono _ _ _ _ _ _)
      | (with_reducible exact LeO.refl _)
      | (with_reducible exact LeO.none _)
      | (with_reducible refine LeO.ite ?_ ?_)
      | (with_reducible refine LeO.bind ?_ (fun _ => ?_))
      | exact ih0 _ _ _ _ _ _ _ _ _ _ _ _
      | exact asset_Units.mono _ _ _ _ _ _ _ _ _
      | exact contangotop_goes16.mono _
      | exact pledge_Put.mono _ _ _ _ _ _
      | exact pledge_Qty.mono _ _ _ _ _
      | exact pledge_Take.mono _ _ _ _ _ _
      | exact pledge_Worth.mono _ _ _ _ _ _
      | exact LeO.none _
      | refine LeO.ite ?_ ?_
      | refine LeO.bind ?_ (fun _ => ?_)
theorem contangotop_TopPledgeUnits.mono : ∀ a0 a1 a2 a3 a4 a5 a6 a7 a8 a9 k, LeO (contangotop_TopPledgeUnits.f k a0 a1 a2 a3 a4 a5 a6 a7 a8 a9) (contangotop_TopPledgeUnits.f (k + 1) a0 a1 a2 a3 a4 a5 a6 a7 a8 a9) := by
  intro a0 a1 a2 a3 a4 a5 a6 a7 a8 a9 k
  have ih0 := contangotop_TopPledgeUnits.mono_l k
  unfold contangotop_TopPledgeUnits.f
  repeat' first
      | (with_reducible exact ih0 _ _ _ _ _ _ _ _ _ _ _ _)
      | (with_reducible exact asset_Units.mono _ _ _ _ _ _ _ _ _)
      | (with_reducible exact contangotop_goes16.mono _)
      | (with_reducible exact pledge_Put.mono _ _ _ _ _ _)
      | (with_reducible exact pledge_Qty.mono _ _ _ _ _)
      | (with_reducible exact pledge_Take.mono _ _ _ _ _ _)
      | (with_reducible exact pledge_Worth.mono _ _ _ _ _ _)
      | (with_reducible exact LeO.refl _)
      | (with_reducible exact LeO.none _)
      | (with_reducible refine LeO.ite ?_ ?_)
      | (with_reducible refine LeO.bind ?_ (fun _ => ?_))
      | exact ih0 _ _ _ _ _ _ _ _ _ _ _ _
      | exact asset_Units.mono _ _ _ _ _ _ _ _ _
      | exact contangotop_goes16.mono _
      | exact pledge_Put.mono _ _ _ _ _ _
      | exact pledge_Qty.mono _ _ _ _ _
      | exact pledge_Take.mono _ _ _ _ _ _
      | exact pledge_Worth.mono _ _ _ _ _ _
      | exact LeO.none _
      | refine LeO.ite ?_ ?_
      | refine LeO.bind ?_ (fun _ => ?_)
set_option maxHeartbeats 8000000 in
set_option maxRecDepth 100000 in
theorem contangotop_TopPledgeUnits.calls (k : Nat) (a0_0 : ByteArray) (a0_1 : Int) (a0_2 : Int) (a0_3 : Int) (a0_4 : Int) (a0_5 : Int) (a0_6 : Int) (A0_7 : Option Addr) (c0_7 : Nat) (l0_7 : List (S94)) (a0_8 : ByteArray) (a0_9 : ByteArray) (r : Bool) (w : World) (hr0_7 : Kd.C k94 w A0_7 l0_7.length l0_7) (hc0_7 : l0_7.length ≤ c0_7) (h : contangotop_TopPledgeUnits.f k a0_0 a0_1 a0_2 a0_3 a0_4 a0_5 a0_6 l0_7 a0_8 a0_9 = some r) :
    Calls Try.prog 13 #[.agg #[.string a0_0, .int .i64 a0_1, .int .i64 a0_2, .int .i64 a0_3, .int .i64 a0_4, .int .i64 a0_5, .int .i64 a0_6, .slice A0_7 l0_7.length c0_7, .string a0_8, .string a0_9]] w fun e w' => e = .returned (.bool r) ∧ Below w.heap.size w w' := by
  have hu74 := Try.underlying74
  have hu23 := Try.underlying23
  have hu67 := Try.underlying67
  have HR0_7 := Aside0.mk hr0_7
  have HC0_7 := Aside0.mk hc0_7
  clear hr0_7 hc0_7
  have HB := Aside0.mk (Below.refl w.heap.size w)
  have H : ((asset_Units.f k a0_0 a0_1 a0_2 a0_3 a0_4 a0_5 a0_6 l0_7).bind fun bt634 => (if bt634.2 = 0 then (contangotop_TopPledgeUnits.j0 k bt634.1 (bt634.1 == 0) a0_0 a0_1 a0_2 a0_3 a0_4 a0_5 a0_6 l0_7 a0_8 a0_9) else (contangotop_TopPledgeUnits.j0 k bt634.1 true a0_0 a0_1 a0_2 a0_3 a0_4 a0_5 a0_6 l0_7 a0_8 a0_9))) = some r := h
  clear h
  replace H := Option.bind_eq_some_iff.mp H
  obtain ⟨⟨t634, t635⟩, A20, H⟩ := H
  replace H : (if t635 = 0 then (contangotop_TopPledgeUnits.j0 k t634 (t634 == 0) a0_0 a0_1 a0_2 a0_3 a0_4 a0_5 a0_6 l0_7 a0_8 a0_9) else (contangotop_TopPledgeUnits.j0 k t634 true a0_0 a0_1 a0_2 a0_3 a0_4 a0_5 a0_6 l0_7 a0_8 a0_9)) = some r := H
  have A2 := Aside0.mk A20
  clear A20
  have HC3 := Aside0.mk H
  clear H
  go_enter Try.func13, Try.ntmps13
  go_upto_region 2 with (first | ((with_reducible refine gate_dst (N := 1) rfl ?_); refine box_event ?hg (N := 1) ?hd (cs := #[.string a0_0, .int .i64 a0_1, .int .i64 a0_2, .int .i64 a0_3, .int .i64 a0_4, .int .i64 a0_5, .int .i64 a0_6, .slice A0_7 l0_7.length c0_7, .string a0_8, .string a0_9]) (t := 74) ?hr ?_; (case hd => rfl); (case hg => rfl); (case hr => first | (go_simp; done) | (go_simp; rfl)); intro gb633 hg w4 hbox hb; have n0_ := Aside0.mk (below_step (by repeat (first | (with_reducible first | exact HB.out | apply below_alloc | apply pw_below_drewN | apply below_drew1) | exact HB.out)) hb); have n1_ := Aside0.mk (hbox); have n2_ := Aside0.mk ((by rw [hg]; exact (below_size (by repeat (first | (with_reducible first | exact HB.out | apply below_alloc | apply pw_below_drewN | apply below_drew1) | exact HB.out))) : w.heap.size ≤ gb633)); have n3_ := Aside0.mk ((by rw [hg]; exact (below_size (by repeat (first | (with_reducible first | exact HB.out | apply below_alloc | apply pw_below_drewN | apply below_drew1) | exact HB.out))) : w.heap.size ≤ gb633)); clear HB; have HB := n0_; have BK633 := n1_; have GW633 := n2_; have GE633 := n3_; clear n0_ n1_ n2_ n3_; clear hb hbox hg; have hcz5_0 : w4.cell? ⟨gb633, 0, none⟩ = some (.string a0_0) := (blk_cell BK633.out 0).trans rfl; have hcz5_1 : w4.cell? ⟨gb633, 1, none⟩ = some (.int .i64 a0_1) := (blk_cell BK633.out 1).trans rfl; have hcz5_2 : w4.cell? ⟨gb633, 2, none⟩ = some (.int .i64 a0_2) := (blk_cell BK633.out 2).trans rfl; have hcz5_3 : w4.cell? ⟨gb633, 3, none⟩ = some (.int .i64 a0_3) := (blk_cell BK633.out 3).trans rfl; have hcz5_4 : w4.cell? ⟨gb633, 4, none⟩ = some (.int .i64 a0_4) := (blk_cell BK633.out 4).trans rfl; have hcz5_5 : w4.cell? ⟨gb633, 5, none⟩ = some (.int .i64 a0_5) := (blk_cell BK633.out 5).trans rfl; have hcz5_6 : w4.cell? ⟨gb633, 6, none⟩ = some (.int .i64 a0_6) := (blk_cell BK633.out 6).trans rfl; have hcz5_7 : w4.cell? ⟨gb633, 7, none⟩ = some (.slice A0_7 l0_7.length c0_7) := (blk_cell BK633.out 7).trans rfl; have hcz5_8 : w4.cell? ⟨gb633, 8, none⟩ = some (.string a0_8) := (blk_cell BK633.out 8).trans rfl; have hcz5_9 : w4.cell? ⟨gb633, 9, none⟩ = some (.string a0_9) := (blk_cell BK633.out 9).trans rfl; have hfz5_0 := blk_frozen BK633.out 0; have hfz5_1 := blk_frozen BK633.out 1; have hfz5_2 := blk_frozen BK633.out 2; have hfz5_3 := blk_frozen BK633.out 3; have hfz5_4 := blk_frozen BK633.out 4; have hfz5_5 := blk_frozen BK633.out 5; have hfz5_6 := blk_frozen BK633.out 6; have hfz5_7 := blk_frozen BK633.out 7; have hfz5_8 := blk_frozen BK633.out 8; have hfz5_9 := blk_frozen BK633.out 9) | ((with_reducible refine gate_callee (f := 20) rfl ?_); refine goesL_ (some 21) rfl rfl Try.func20 (by kernel_rfl) rfl #[.agg #[.string a0_0, .int .i64 a0_1, .int .i64 a0_2, .int .i64 a0_3, .int .i64 a0_4, .int .i64 a0_5], .int .i64 a0_6, .slice A0_7 l0_7.length c0_7] rfl (by (try simp only [List.map_toArray, List.map_cons, List.map_nil]); first | done | rfl | (simp only [List.length_drop, List.length_take]; rfl)) ?_; (with_reducible refine (asset_Units.calls k a0_0 a0_1 a0_2 a0_3 a0_4 a0_5 a0_6 _ _ l0_7 t634 t635 _ ?side1 ?side2 A2.out).mono ?_); (case side1 => repeat (first | exact (Kd.C_below HR0_7.out HB.out) | (with_reducible refine Kd.C_alloc ?_ _) | (with_reducible refine Kd.C_drewN ?_ _) | (with_reducible refine Kd.C_drew ?_))); (case side2 => exact HC0_7.out); rintro e w6 ⟨rfl, hb⟩; refine ⟨_, rfl, ?_⟩; have n0_ := Aside0.mk (blk_below (g := gb633) (o := .cells #[.string a0_0, .int .i64 a0_1, .int .i64 a0_2, .int .i64 a0_3, .int .i64 a0_4, .int .i64 a0_5, .int .i64 a0_6, .slice A0_7 l0_7.length c0_7, .string a0_8, .string a0_9] 74 (0, 0)) (by (with_reducible repeat (first | refine blk_drewN ?_ _ | refine blk_drew ?_ | refine blk_alloc ?_ _)); exact BK633.out) hb); have n1_ := Aside0.mk (below_step (by repeat (first | (with_reducible first | exact HB.out | apply below_alloc | apply pw_below_drewN | apply below_drew1 | refine below_set ?_ GE633.out) | exact HB.out)) hb); clear BK633; clear HB; have BK633 := n0_; have HB := n1_; clear n0_ n1_; (try clear hb); (try clear hb2); (try clear hk); (try clear hi)))
  (try simp only [Act.put, List.setIfInBounds_toArray, List.set_cons_zero, List.set_cons_succ])
  go_cut [29] (fun v29 wc => ∃ (kq : Nat) (x29_2 : Bool), v29 = .bool x29_2 ∧ Aside0 (contangotop_TopPledgeUnits.j0 kq t634 x29_2 a0_0 a0_1 a0_2 a0_3 a0_4 a0_5 a0_6 l0_7 a0_8 a0_9 = some r) ∧ Aside0 (kq ≤ k) ∧ Aside0 (wc.heap[gb633]? = some (.cells #[.string a0_0, .int .i64 a0_1, .int .i64 a0_2, .int .i64 a0_3, .int .i64 a0_4, .int .i64 a0_5, .int .i64 a0_6, (.slice A0_7 l0_7.length c0_7), .string a0_8, .string a0_9] 74 (0, 0))) ∧ Aside0 (Below w.heap.size w wc))
  case first =>
    have H := HC3.out
    clear HC3
    by_cases c7 : t635 = 0
    · rw [if_pos c7] at H
      have c7b0 : (t635 == 0) = true := beq_iff_eq.mpr c7
      have c7b1 : (t635 != 0) = false := bne_eq_false_iff_eq.mpr c7
      clear c7
      have H' := Aside0.mk H
      clear H
      go_wp2
      go_meet
      case rel => exact ⟨_, ((t634 == 0)), (by first | rfl | (simp; done) | (simp [*]; done)), H', ⟨by first | omega | exact Nat.le_refl _⟩, ⟨by (with_reducible repeat (first | refine blk_drewN ?_ _ | refine blk_drew ?_ | refine blk_alloc ?_ _)); exact BK633.out⟩, ⟨by repeat (first | (with_reducible first | exact HB.out | apply below_alloc | apply pw_below_drewN | apply below_drew1 | refine below_set ?_ GE633.out) | exact HB.out)⟩⟩
    · rw [if_neg c7] at H
      have c7b0 : (t635 == 0) = false := beq_eq_false_iff_ne.mpr c7
      have c7b1 : (t635 != 0) = true := bne_iff_ne.mpr c7
      have H' := Aside0.mk H
      clear H
      go_wp2
      go_meet
      case rel => exact ⟨_, (true), (by first | rfl | (simp; done) | (simp [*]; done)), H', ⟨by first | omega | exact Nat.le_refl _⟩, ⟨by (with_reducible repeat (first | refine blk_drewN ?_ _ | refine blk_drew ?_ | refine blk_alloc ?_ _)); exact BK633.out⟩, ⟨by repeat (first | (with_reducible first | exact HB.out | apply below_alloc | apply pw_below_drewN | apply below_drew1 | refine below_set ?_ GE633.out) | exact HB.out)⟩⟩
  case rest =>
    clear HC3
    try clear c1
    try clear c2
    try clear p2
    try clear c7
    try clear c7b0
    try clear c7b1
    try clear hcz5_0
    try clear hcz5_1
    try clear hcz5_2
    try clear hcz5_3
    try clear hcz5_4
    try clear hcz5_5
    try clear hcz5_6
    try clear hcz5_7
    try clear hcz5_8
    try clear hcz5_9
    try clear hfz5_0
    try clear hfz5_1
    try clear hfz5_2
    try clear hfz5_3
    try clear hfz5_4
    try clear hfz5_5
    try clear hfz5_6
    try clear hfz5_7
    try clear hfz5_8
    try clear hfz5_9
    obtain ⟨kq, x29_2, rfl, HA, HJ2, BK633, HB⟩ := hcut
    cases kq with
    | zero => exact absurd HA.out (by simp [contangotop_TopPledgeUnits.j0])
    | succ kj2 =>
      have H := HA.out
      clear HA
      simp only [contangotop_TopPledgeUnits.j0] at H
      by_cases c8 : x29_2 = true
      · subst c8
        have H1 : (if t634 = 0 then ((contangotop_goes16.f kj2).bind fun t636 => (some t636)) else (some false)) = some r := by rw [if_pos rfl] at H; exact H
        clear H
        have H := H1
        clear H1
        by_cases c9 : t634 = 0
        · rw [if_pos c9] at H
          have c9b0 : (t634 == 0) = true := beq_iff_eq.mpr c9
          have c9b1 : (t634 != 0) = false := bne_eq_false_iff_eq.mpr c9
          clear c9
          replace H := Option.bind_eq_some_iff.mp H
          obtain ⟨t636, A100, H⟩ := H
          replace H : (some t636) = some r := H
          have A10 := Aside0.mk A100
          clear A100
          obtain rfl := Option.some.inj H
          go_wp2_with (first | (go_at_call 42; (with_reducible refine (contangotop_goes16.calls kj2  t636 _ A10.out).mono ?_); rintro e w11 ⟨rfl, hb⟩; have n0_ := Aside0.mk (blk_below (g := gb633) (o := .cells #[.string a0_0, .int .i64 a0_1, .int .i64 a0_2, .int .i64 a0_3, .int .i64 a0_4, .int .i64 a0_5, .int .i64 a0_6, .slice A0_7 l0_7.length c0_7, .string a0_8, .string a0_9] 74 (0, 0)) (by (with_reducible repeat (first | refine blk_drewN ?_ _ | refine blk_drew ?_ | refine blk_alloc ?_ _)); exact BK633.out) hb); have n1_ := Aside0.mk (below_step (by repeat (first | (with_reducible first | exact HB.out | apply below_alloc | apply pw_below_drewN | apply below_drew1 | refine below_set ?_ GE633.out) | exact HB.out)) hb); clear BK633; clear HB; have BK633 := n0_; have HB := n1_; clear n0_ n1_; (try clear hb); (try clear hb2); (try clear hk); (try clear hi)))
          go_ret
          exact ⟨by first | rfl | (simp [errW_none, errW_some] <;> rfl) | (simp [*, errW_none, errW_some] <;> rfl), by repeat (first | (with_reducible first | exact HB.out | apply below_alloc | apply pw_below_drewN | apply below_drew1 | refine below_set ?_ GE633.out) | exact HB.out)⟩
        · rw [if_neg c9] at H
          have c9b0 : (t634 == 0) = false := beq_eq_false_iff_ne.mpr c9
          have c9b1 : (t634 != 0) = true := bne_iff_ne.mpr c9
          obtain rfl := Option.some.inj H
          go_wp2
          go_ret
          exact ⟨by first | rfl | (simp [errW_none, errW_some] <;> rfl) | (simp [*, errW_none, errW_some] <;> rfl), by repeat (first | (with_reducible first | exact HB.out | apply below_alloc | apply pw_below_drewN | apply below_drew1 | refine below_set ?_ GE633.out) | exact HB.out)⟩
      · replace c8 := Bool.eq_false_iff.mpr c8
        subst c8
        have H1 : ((pledge_Put.f kj2 ([] : List (S85)) a0_8 a0_9 a0_0 t634).bind fun bt637 => (if bt637.2 = 0 then ((some (([(⟨a0_0, a0_1, a0_2, a0_3, a0_4, a0_5⟩ : S23)] : List (S23)) : List (S23))).bind fun y642 => ((pledge_Worth.f kj2 bt637.1 a0_8 a0_9 y642 l0_7).bind fun bt645 => ((pledge_Take.f kj2 bt637.1 a0_8 a0_9 a0_0 1).bind fun bt647 => ((pledge_Worth.f kj2 bt647.1 a0_8 a0_9 y642 l0_7).bind fun bt651 => (if bt645.1 ≥ a0_6 then (if bt645.2 = 0 then (if bt647.2 = 0 then (if bt651.1 < a0_6 then (if bt651.2 = 0 then ((pledge_Qty.f kj2 bt647.1 a0_8 a0_9 a0_0).bind fun t653 => (if t653 = (wrap64 (t634 - 1)) then ((contangotop_goes16.f kj2).bind fun t654 => (some t654)) else (some false))) else (some false)) else (some false)) else (some false)) else (some false)) else (some false)))))) else (if bt637.2 = 10 then ((contangotop_goes16.f kj2).bind fun t641 => (some t641)) else (some false)))) = some r := by rw [if_neg (show ¬ (false = true) by decide)] at H; exact H
        clear H
        have H := H1
        clear H1
        replace H := Option.bind_eq_some_iff.mp H
        obtain ⟨⟨t637, t640⟩, A120, H⟩ := H
        replace H : (if t640 = 0 then ((some (([(⟨a0_0, a0_1, a0_2, a0_3, a0_4, a0_5⟩ : S23)] : List (S23)) : List (S23))).bind fun y642 => ((pledge_Worth.f kj2 t637 a0_8 a0_9 y642 l0_7).bind fun bt645 => ((pledge_Take.f kj2 t637 a0_8 a0_9 a0_0 1).bind fun bt647 => ((pledge_Worth.f kj2 bt647.1 a0_8 a0_9 y642 l0_7).bind fun bt651 => (if bt645.1 ≥ a0_6 then (if bt645.2 = 0 then (if bt647.2 = 0 then (if bt651.1 < a0_6 then (if bt651.2 = 0 then ((pledge_Qty.f kj2 bt647.1 a0_8 a0_9 a0_0).bind fun t653 => (if t653 = (wrap64 (t634 - 1)) then ((contangotop_goes16.f kj2).bind fun t654 => (some t654)) else (some false))) else (some false)) else (some false)) else (some false)) else (some false)) else (some false)))))) else (if t640 = 10 then ((contangotop_goes16.f kj2).bind fun t641 => (some t641)) else (some false))) = some r := H
        have A12 := Aside0.mk A120
        clear A120
        have hcz13_0 : wc.cell? ⟨gb633, 0, none⟩ = some (.string a0_0) := (blk_cell BK633.out 0).trans rfl
        have hcz13_1 : wc.cell? ⟨gb633, 1, none⟩ = some (.int .i64 a0_1) := (blk_cell BK633.out 1).trans rfl
        have hcz13_2 : wc.cell? ⟨gb633, 2, none⟩ = some (.int .i64 a0_2) := (blk_cell BK633.out 2).trans rfl
        have hcz13_3 : wc.cell? ⟨gb633, 3, none⟩ = some (.int .i64 a0_3) := (blk_cell BK633.out 3).trans rfl
        have hcz13_4 : wc.cell? ⟨gb633, 4, none⟩ = some (.int .i64 a0_4) := (blk_cell BK633.out 4).trans rfl
        have hcz13_5 : wc.cell? ⟨gb633, 5, none⟩ = some (.int .i64 a0_5) := (blk_cell BK633.out 5).trans rfl
        have hcz13_6 : wc.cell? ⟨gb633, 6, none⟩ = some (.int .i64 a0_6) := (blk_cell BK633.out 6).trans rfl
        have hcz13_7 : wc.cell? ⟨gb633, 7, none⟩ = some (.slice A0_7 l0_7.length c0_7) := (blk_cell BK633.out 7).trans rfl
        have hcz13_8 : wc.cell? ⟨gb633, 8, none⟩ = some (.string a0_8) := (blk_cell BK633.out 8).trans rfl
        have hcz13_9 : wc.cell? ⟨gb633, 9, none⟩ = some (.string a0_9) := (blk_cell BK633.out 9).trans rfl
        have hfz13_0 := blk_frozen BK633.out 0
        have hfz13_1 := blk_frozen BK633.out 1
        have hfz13_2 := blk_frozen BK633.out 2
        have hfz13_3 := blk_frozen BK633.out 3
        have hfz13_4 := blk_frozen BK633.out 4
        have hfz13_5 := blk_frozen BK633.out 5
        have hfz13_6 := blk_frozen BK633.out 6
        have hfz13_7 := blk_frozen BK633.out 7
        have hfz13_8 := blk_frozen BK633.out 8
        have hfz13_9 := blk_frozen BK633.out 9
        go_upto_if 46 with (first | ((with_reducible refine gate_callee (f := 43) rfl ?_); refine goesL_ (some 42) rfl rfl Try.func43 (by kernel_rfl) rfl #[.slice none 0 0, .agg #[.string a0_8, .string a0_9], .string a0_0, .int .i64 t634] rfl (by (try simp only [List.map_toArray, List.map_cons, List.map_nil]); first | done | rfl | (simp only [List.length_drop, List.length_take]; rfl)) ?_; (refine (pledge_Put.calls kj2 _ _ ([] : List (S85)) a0_8 a0_9 a0_0 t634 t637 t640 _ ?side1 ?side2 A12.out).mono ?_); (case side1 => exact Kd.C_nil _ _); (case side2 => exact Nat.le_refl _); rintro e w14 ⟨v638, rfl, ho0, hb⟩; refine ⟨_, rfl, ?_⟩; have n0_ := Aside0.mk (Kd.R_lower ho0 (below_size (by repeat (first | (with_reducible first | exact HB.out | apply below_alloc | apply pw_below_drewN | apply below_drew1 | refine below_set ?_ GE633.out) | exact HB.out)))); have n1_ := Aside0.mk (blk_below (g := gb633) (o := .cells #[.string a0_0, .int .i64 a0_1, .int .i64 a0_2, .int .i64 a0_3, .int .i64 a0_4, .int .i64 a0_5, .int .i64 a0_6, .slice A0_7 l0_7.length c0_7, .string a0_8, .string a0_9] 74 (0, 0)) (by (with_reducible repeat (first | refine blk_drewN ?_ _ | refine blk_drew ?_ | refine blk_alloc ?_ _)); exact BK633.out) hb); have n2_ := Aside0.mk (below_step (by repeat (first | (with_reducible first | exact HB.out | apply below_alloc | apply pw_below_drewN | apply below_drew1 | refine below_set ?_ GE633.out) | exact HB.out)) hb); clear BK633; clear HB; have HO639 := n0_; have BK633 := n1_; have HB := n2_; clear n0_ n1_ n2_; (try clear hb); (try clear hb2); (try clear hk); (try clear hi); (try clear ho0)))
        (try simp only [Act.put, List.setIfInBounds_toArray, List.set_cons_zero, List.set_cons_succ])
        by_cases c15 : t640 = 0
        · rw [if_pos c15] at H
          have c15b0 : (t640 == 0) = true := beq_iff_eq.mpr c15
          have c15b1 : (t640 != 0) = false := bne_eq_false_iff_eq.mpr c15
          clear c15
          (try simp only [c15b0, c15b1])
          obtain ⟨y642, hy642⟩ : ∃ y_ : List (S23), y_ = (([(⟨a0_0, a0_1, a0_2, a0_3, a0_4, a0_5⟩ : S23)] : List (S23))) := ⟨_, rfl⟩
          replace H : ((pledge_Worth.f kj2 t637 a0_8 a0_9 y642 l0_7).bind fun bt645 => ((pledge_Take.f kj2 t637 a0_8 a0_9 a0_0 1).bind fun bt647 => ((pledge_Worth.f kj2 bt647.1 a0_8 a0_9 y642 l0_7).bind fun bt651 => (if bt645.1 ≥ a0_6 then (if bt645.2 = 0 then (if bt647.2 = 0 then (if bt651.1 < a0_6 then (if bt651.2 = 0 then ((pledge_Qty.f kj2 bt647.1 a0_8 a0_9 a0_0).bind fun t653 => (if t653 = (wrap64 (t634 - 1)) then ((contangotop_goes16.f kj2).bind fun t654 => (some t654)) else (some false))) else (some false)) else (some false)) else (some false)) else (some false)) else (some false))))) = some r := by first | (rw [hy642]; with_reducible exact H) | (have H2_ := (Option.bind_some _ _).symm.trans H; rw [hy642]; with_reducible exact H2_) | (have H2_ := (Option.bind_some _ _).symm.trans H; with_reducible exact H2_) | with_reducible exact H | (rw [hy642]; exact H) | exact H
          have Ny642 := Aside0.mk hy642
          clear hy642
          replace H := Option.bind_eq_some_iff.mp H
          obtain ⟨⟨t645, t646⟩, A160, H⟩ := H
          replace H : ((pledge_Take.f kj2 t637 a0_8 a0_9 a0_0 1).bind fun bt647 => ((pledge_Worth.f kj2 bt647.1 a0_8 a0_9 y642 l0_7).bind fun bt651 => (if t645 ≥ a0_6 then (if t646 = 0 then (if bt647.2 = 0 then (if bt651.1 < a0_6 then (if bt651.2 = 0 then ((pledge_Qty.f kj2 bt647.1 a0_8 a0_9 a0_0).bind fun t653 => (if t653 = (wrap64 (t634 - 1)) then ((contangotop_goes16.f kj2).bind fun t654 => (some t654)) else (some false))) else (some false)) else (some false)) else (some false)) else (some false)) else (some false)))) = some r := H
          have A16 := Aside0.mk A160
          clear A160
          replace H := Option.bind_eq_some_iff.mp H
          obtain ⟨⟨t647, t650⟩, A170, H⟩ := H
          replace H : ((pledge_Worth.f kj2 t647 a0_8 a0_9 y642 l0_7).bind fun bt651 => (if t645 ≥ a0_6 then (if t646 = 0 then (if t650 = 0 then (if bt651.1 < a0_6 then (if bt651.2 = 0 then ((pledge_Qty.f kj2 t647 a0_8 a0_9 a0_0).bind fun t653 => (if t653 = (wrap64 (t634 - 1)) then ((contangotop_goes16.f kj2).bind fun t654 => (some t654)) else (some false))) else (some false)) else (some false)) else (some false)) else (some false)) else (some false))) = some r := H
          have A17 := Aside0.mk A170
          clear A170
          replace H := Option.bind_eq_some_iff.mp H
          obtain ⟨⟨t651, t652⟩, A180, H⟩ := H
          replace H : (if t645 ≥ a0_6 then (if t646 = 0 then (if t650 = 0 then (if t651 < a0_6 then (if t652 = 0 then ((pledge_Qty.f kj2 t647 a0_8 a0_9 a0_0).bind fun t653 => (if t653 = (wrap64 (t634 - 1)) then ((contangotop_goes16.f kj2).bind fun t654 => (some t654)) else (some false))) else (some false)) else (some false)) else (some false)) else (some false)) else (some false)) = some r := H
          have A18 := Aside0.mk A180
          clear A180
          have hcz19_0 : w14.cell? ⟨gb633, 0, none⟩ = some (.string a0_0) := (blk_cell BK633.out 0).trans rfl
          have hcz19_1 : w14.cell? ⟨gb633, 1, none⟩ = some (.int .i64 a0_1) := (blk_cell BK633.out 1).trans rfl
          have hcz19_2 : w14.cell? ⟨gb633, 2, none⟩ = some (.int .i64 a0_2) := (blk_cell BK633.out 2).trans rfl
          have hcz19_3 : w14.cell? ⟨gb633, 3, none⟩ = some (.int .i64 a0_3) := (blk_cell BK633.out 3).trans rfl
          have hcz19_4 : w14.cell? ⟨gb633, 4, none⟩ = some (.int .i64 a0_4) := (blk_cell BK633.out 4).trans rfl
          have hcz19_5 : w14.cell? ⟨gb633, 5, none⟩ = some (.int .i64 a0_5) := (blk_cell BK633.out 5).trans rfl
          have hcz19_6 : w14.cell? ⟨gb633, 6, none⟩ = some (.int .i64 a0_6) := (blk_cell BK633.out 6).trans rfl
          have hcz19_7 : w14.cell? ⟨gb633, 7, none⟩ = some (.slice A0_7 l0_7.length c0_7) := (blk_cell BK633.out 7).trans rfl
          have hcz19_8 : w14.cell? ⟨gb633, 8, none⟩ = some (.string a0_8) := (blk_cell BK633.out 8).trans rfl
          have hcz19_9 : w14.cell? ⟨gb633, 9, none⟩ = some (.string a0_9) := (blk_cell BK633.out 9).trans rfl
          have hfz19_0 := blk_frozen BK633.out 0
          have hfz19_1 := blk_frozen BK633.out 1
          have hfz19_2 := blk_frozen BK633.out 2
          have hfz19_3 := blk_frozen BK633.out 3
          have hfz19_4 := blk_frozen BK633.out 4
          have hfz19_5 := blk_frozen BK633.out 5
          have hfz19_6 := blk_frozen BK633.out 6
          have hfz19_7 := blk_frozen BK633.out 7
          have hfz19_8 := blk_frozen BK633.out 8
          have hfz19_9 := blk_frozen BK633.out 9
          go_upto_region 11 with (first | ((with_reducible refine gate_dst (N := 54) rfl ?_); refine Kd.R_lit k23 _ 23 ?hg (N := 54) ?hd (xs := ([(⟨a0_0, a0_1, a0_2, a0_3, a0_4, a0_5⟩ : S23)] : List (S23))) (inner := [.string a0_0, .int .i64 a0_1, .int .i64 a0_2, .int .i64 a0_3, .int .i64 a0_4, .int .i64 a0_5]) (ok := fun _ => True) (okp := fun _ => True) ?hr ?hp (fun _ hk => hk) trivial (Below.refl _ _) (Nat.le_refl _) (by simp) ?_; (case hd => rfl); (case hg => rfl); (case hr => first | (go_simp; done) | (go_simp; rfl)); (case hp => exact (Reps.c6 (show Kd.M k23 _ _ _ (⟨a0_0, a0_1, a0_2, a0_3, a0_4, a0_5⟩ : S23) [.string a0_0, .int .i64 a0_1, .int .i64 a0_2, .int .i64 a0_3, .int .i64 a0_4, .int .i64 a0_5] from (k23_mkM _ _ _ (⟨a0_0, a0_1, a0_2, a0_3, a0_4, a0_5⟩ : S23) )) (Reps.none _ _))); intro v643 w20 ho21 hb hg_ hnew_; clear hg_ hnew_; (first | rw [← Ny642.out] at ho21 | (simp only [Int.reduceToNat] at ho21; rw [← Ny642.out] at ho21)); have n0_ := Aside0.mk (Kd.R_below (by (with_reducible repeat (first | apply Kd.R_alloc | apply Kd.R_drewN | apply Kd.R_drew)); exact HO639.out) hb); have n1_ := Aside0.mk (Kd.R_lower ho21 (below_size (by repeat (first | (with_reducible first | exact HB.out | apply below_alloc | apply pw_below_drewN | apply below_drew1 | refine below_set ?_ GE633.out) | exact HB.out)))); have n2_ := Aside0.mk (blk_below (g := gb633) (o := .cells #[.string a0_0, .int .i64 a0_1, .int .i64 a0_2, .int .i64 a0_3, .int .i64 a0_4, .int .i64 a0_5, .int .i64 a0_6, .slice A0_7 l0_7.length c0_7, .string a0_8, .string a0_9] 74 (0, 0)) (by (with_reducible repeat (first | refine blk_drewN ?_ _ | refine blk_drew ?_ | refine blk_alloc ?_ _)); exact BK633.out) hb); have n3_ := Aside0.mk (below_step (by repeat (first | (with_reducible first | exact HB.out | apply below_alloc | apply pw_below_drewN | apply below_drew1 | refine below_set ?_ GE633.out) | exact HB.out)) hb); clear HO639; clear BK633; clear HB; have HO639 := n0_; have HO644 := n1_; have BK633 := n2_; have HB := n3_; clear n0_ n1_ n2_ n3_; clear hb ho21; have hcz22_0 : w20.cell? ⟨gb633, 0, none⟩ = some (.string a0_0) := (blk_cell BK633.out 0).trans rfl; have hcz22_1 : w20.cell? ⟨gb633, 1, none⟩ = some (.int .i64 a0_1) := (blk_cell BK633.out 1).trans rfl; have hcz22_2 : w20.cell? ⟨gb633, 2, none⟩ = some (.int .i64 a0_2) := (blk_cell BK633.out 2).trans rfl; have hcz22_3 : w20.cell? ⟨gb633, 3, none⟩ = some (.int .i64 a0_3) := (blk_cell BK633.out 3).trans rfl; have hcz22_4 : w20.cell? ⟨gb633, 4, none⟩ = some (.int .i64 a0_4) := (blk_cell BK633.out 4).trans rfl; have hcz22_5 : w20.cell? ⟨gb633, 5, none⟩ = some (.int .i64 a0_5) := (blk_cell BK633.out 5).trans rfl; have hcz22_6 : w20.cell? ⟨gb633, 6, none⟩ = some (.int .i64 a0_6) := (blk_cell BK633.out 6).trans rfl; have hcz22_7 : w20.cell? ⟨gb633, 7, none⟩ = some (.slice A0_7 l0_7.length c0_7) := (blk_cell BK633.out 7).trans rfl; have hcz22_8 : w20.cell? ⟨gb633, 8, none⟩ = some (.string a0_8) := (blk_cell BK633.out 8).trans rfl; have hcz22_9 : w20.cell? ⟨gb633, 9, none⟩ = some (.string a0_9) := (blk_cell BK633.out 9).trans rfl; have hfz22_0 := blk_frozen BK633.out 0; have hfz22_1 := blk_frozen BK633.out 1; have hfz22_2 := blk_frozen BK633.out 2; have hfz22_3 := blk_frozen BK633.out 3; have hfz22_4 := blk_frozen BK633.out 4; have hfz22_5 := blk_frozen BK633.out 5; have hfz22_6 := blk_frozen BK633.out 6; have hfz22_7 := blk_frozen BK633.out 7; have hfz22_8 := blk_frozen BK633.out 8; have hfz22_9 := blk_frozen BK633.out 9; obtain ⟨Ao23, co23, eo23⟩ := Kd.R_slice HO639.out; subst eo23; obtain ⟨Ao24, co24, eo24⟩ := Kd.R_slice HO644.out; subst eo24) | ((with_reducible refine gate_callee (f := 40) rfl ?_); refine goesL_ (some 62) rfl rfl Try.func40 (by kernel_rfl) rfl #[.slice Ao23 t637.length co23, .agg #[.string a0_8, .string a0_9], .slice Ao24 y642.length co24, .slice A0_7 l0_7.length c0_7] rfl (by (try simp only [List.map_toArray, List.map_cons, List.map_nil]); first | done | rfl | (simp only [List.length_drop, List.length_take]; rfl)) ?_; (with_reducible refine (pledge_Worth.calls kj2 _ _ t637 a0_8 a0_9 _ _ y642 _ _ l0_7 t645 t646 _ ?side1 ?side2 ?side3 ?side4 ?side5 ?side6 A16.out).mono ?_); (case side1 => repeat (first | exact (Kd.R_reads' HO639.out).2.2 | (with_reducible refine Kd.C_alloc ?_ _) | (with_reducible refine Kd.C_drewN ?_ _) | (with_reducible refine Kd.C_drew ?_))); (case side2 => exact (Kd.R_reads' HO639.out).2.1); (case side3 => repeat (first | exact (Kd.R_reads' HO644.out).2.2 | (with_reducible refine Kd.C_alloc ?_ _) | (with_reducible refine Kd.C_drewN ?_ _) | (with_reducible refine Kd.C_drew ?_))); (case side4 => exact (Kd.R_reads' HO644.out).2.1); (case side5 => repeat (first | exact (Kd.C_below HR0_7.out HB.out) | (with_reducible refine Kd.C_alloc ?_ _) | (with_reducible refine Kd.C_drewN ?_ _) | (with_reducible refine Kd.C_drew ?_))); (case side6 => exact HC0_7.out); rintro e w25 ⟨rfl, hb⟩; refine ⟨_, rfl, ?_⟩; have n0_ := Aside0.mk (Kd.R_below (by (with_reducible repeat (first | apply Kd.R_alloc | apply Kd.R_drewN | apply Kd.R_drew)); exact HO639.out) hb); have n1_ := Aside0.mk (Kd.R_below (by (with_reducible repeat (first | apply Kd.R_alloc | apply Kd.R_drewN | apply Kd.R_drew)); exact HO644.out) hb); have n2_ := Aside0.mk (blk_below (g := gb633) (o := .cells #[.string a0_0, .int .i64 a0_1, .int .i64 a0_2, .int .i64 a0_3, .int .i64 a0_4, .int .i64 a0_5, .int .i64 a0_6, .slice A0_7 l0_7.length c0_7, .string a0_8, .string a0_9] 74 (0, 0)) (by (with_reducible repeat (first | refine blk_drewN ?_ _ | refine blk_drew ?_ | refine blk_alloc ?_ _)); exact BK633.out) hb); have n3_ := Aside0.mk (below_step (by repeat (first | (with_reducible first | exact HB.out | apply below_alloc | apply pw_below_drewN | apply below_drew1 | refine below_set ?_ GE633.out) | exact HB.out)) hb); clear HO639; clear HO644; clear BK633; clear HB; have HO639 := n0_; have HO644 := n1_; have BK633 := n2_; have HB := n3_; clear n0_ n1_ n2_ n3_; (try clear hb); (try clear hb2); (try clear hk); (try clear hi); have hcz26_0 : w25.cell? ⟨gb633, 0, none⟩ = some (.string a0_0) := (blk_cell BK633.out 0).trans rfl; have hcz26_1 : w25.cell? ⟨gb633, 1, none⟩ = some (.int .i64 a0_1) := (blk_cell BK633.out 1).trans rfl; have hcz26_2 : w25.cell? ⟨gb633, 2, none⟩ = some (.int .i64 a0_2) := (blk_cell BK633.out 2).trans rfl; have hcz26_3 : w25.cell? ⟨gb633, 3, none⟩ = some (.int .i64 a0_3) := (blk_cell BK633.out 3).trans rfl; have hcz26_4 : w25.cell? ⟨gb633, 4, none⟩ = some (.int .i64 a0_4) := (blk_cell BK633.out 4).trans rfl; have hcz26_5 : w25.cell? ⟨gb633, 5, none⟩ = some (.int .i64 a0_5) := (blk_cell BK633.out 5).trans rfl; have hcz26_6 : w25.cell? ⟨gb633, 6, none⟩ = some (.int .i64 a0_6) := (blk_cell BK633.out 6).trans rfl; have hcz26_7 : w25.cell? ⟨gb633, 7, none⟩ = some (.slice A0_7 l0_7.length c0_7) := (blk_cell BK633.out 7).trans rfl; have hcz26_8 : w25.cell? ⟨gb633, 8, none⟩ = some (.string a0_8) := (blk_cell BK633.out 8).trans rfl; have hcz26_9 : w25.cell? ⟨gb633, 9, none⟩ = some (.string a0_9) := (blk_cell BK633.out 9).trans rfl; have hfz26_0 := blk_frozen BK633.out 0; have hfz26_1 := blk_frozen BK633.out 1; have hfz26_2 := blk_frozen BK633.out 2; have hfz26_3 := blk_frozen BK633.out 3; have hfz26_4 := blk_frozen BK633.out 4; have hfz26_5 := blk_frozen BK633.out 5; have hfz26_6 := blk_frozen BK633.out 6; have hfz26_7 := blk_frozen BK633.out 7; have hfz26_8 := blk_frozen BK633.out 8; have hfz26_9 := blk_frozen BK633.out 9) | ((with_reducible refine gate_callee (f := 44) rfl ?_); refine goesL_ (some 72) rfl rfl Try.func44 (by kernel_rfl) rfl #[.slice Ao23 t637.length co23, .agg #[.string a0_8, .string a0_9], .string a0_0, .int .i64 1] rfl (by (try simp only [List.map_toArray, List.map_cons, List.map_nil]); first | done | rfl | (simp only [List.length_drop, List.length_take]; rfl)) ?_; (with_reducible refine (pledge_Take.calls kj2 _ _ t637 a0_8 a0_9 a0_0 1 t647 t650 _ ?side1 ?side2 A17.out).mono ?_); (case side1 => repeat (first | exact (Kd.R_reads' HO639.out).2.2 | (with_reducible refine Kd.C_alloc ?_ _) | (with_reducible refine Kd.C_drewN ?_ _) | (with_reducible refine Kd.C_drew ?_))); (case side2 => exact (Kd.R_reads' HO639.out).2.1); rintro e w27 ⟨v648, rfl, ho0, hb⟩; refine ⟨_, rfl, ?_⟩; have n0_ := Aside0.mk (Kd.R_elder' (by (with_reducible repeat (first | apply Kd.R_alloc | apply Kd.R_drewN | apply Kd.R_drew)); exact HO639.out) (Kd.R_base ho0) hb); have n1_ := Aside0.mk (Kd.R_below (by (with_reducible repeat (first | apply Kd.R_alloc | apply Kd.R_drewN | apply Kd.R_drew)); exact HO644.out) hb); have n2_ := Aside0.mk (Kd.R_lower (Kd.R_new' ho0 (Kd.R_lt (by (with_reducible repeat (first | apply Kd.R_alloc | apply Kd.R_drewN | apply Kd.R_drew)); exact HO639.out))) (below_size (by repeat (first | (with_reducible first | exact HB.out | apply below_alloc | apply pw_below_drewN | apply below_drew1 | refine below_set ?_ GE633.out) | exact HB.out)))); have n3_ := Aside0.mk (blk_below (g := gb633) (o := .cells #[.string a0_0, .int .i64 a0_1, .int .i64 a0_2, .int .i64 a0_3, .int .i64 a0_4, .int .i64 a0_5, .int .i64 a0_6, .slice A0_7 l0_7.length c0_7, .string a0_8, .string a0_9] 74 (0, 0)) (by (with_reducible repeat (first | refine blk_drewN ?_ _ | refine blk_drew ?_ | refine blk_alloc ?_ _)); exact BK633.out) hb); have n4_ := Aside0.mk (below_step (by repeat (first | (with_reducible first | exact HB.out | apply below_alloc | apply pw_below_drewN | apply below_drew1 | refine below_set ?_ GE633.out) | exact HB.out)) hb); clear HO639; clear HO644; clear BK633; clear HB; have HO639 := n0_; have HO644 := n1_; have HO649 := n2_; have BK633 := n3_; have HB := n4_; clear n0_ n1_ n2_ n3_ n4_; (try clear hb); (try clear hb2); (try clear hk); (try clear hi); (try clear ho0); have hcz28_0 : w27.cell? ⟨gb633, 0, none⟩ = some (.string a0_0) := (blk_cell BK633.out 0).trans rfl; have hcz28_1 : w27.cell? ⟨gb633, 1, none⟩ = some (.int .i64 a0_1) := (blk_cell BK633.out 1).trans rfl; have hcz28_2 : w27.cell? ⟨gb633, 2, none⟩ = some (.int .i64 a0_2) := (blk_cell BK633.out 2).trans rfl; have hcz28_3 : w27.cell? ⟨gb633, 3, none⟩ = some (.int .i64 a0_3) := (blk_cell BK633.out 3).trans rfl; have hcz28_4 : w27.cell? ⟨gb633, 4, none⟩ = some (.int .i64 a0_4) := (blk_cell BK633.out 4).trans rfl; have hcz28_5 : w27.cell? ⟨gb633, 5, none⟩ = some (.int .i64 a0_5) := (blk_cell BK633.out 5).trans rfl; have hcz28_6 : w27.cell? ⟨gb633, 6, none⟩ = some (.int .i64 a0_6) := (blk_cell BK633.out 6).trans rfl; have hcz28_7 : w27.cell? ⟨gb633, 7, none⟩ = some (.slice A0_7 l0_7.length c0_7) := (blk_cell BK633.out 7).trans rfl; have hcz28_8 : w27.cell? ⟨gb633, 8, none⟩ = some (.string a0_8) := (blk_cell BK633.out 8).trans rfl; have hcz28_9 : w27.cell? ⟨gb633, 9, none⟩ = some (.string a0_9) := (blk_cell BK633.out 9).trans rfl; have hfz28_0 := blk_frozen BK633.out 0; have hfz28_1 := blk_frozen BK633.out 1; have hfz28_2 := blk_frozen BK633.out 2; have hfz28_3 := blk_frozen BK633.out 3; have hfz28_4 := blk_frozen BK633.out 4; have hfz28_5 := blk_frozen BK633.out 5; have hfz28_6 := blk_frozen BK633.out 6; have hfz28_7 := blk_frozen BK633.out 7; have hfz28_8 := blk_frozen BK633.out 8; have hfz28_9 := blk_frozen BK633.out 9; obtain ⟨Ao29, co29, eo29⟩ := Kd.R_slice HO649.out; subst eo29) | ((with_reducible refine gate_callee (f := 40) rfl ?_); refine goesL_ (some 82) rfl rfl Try.func40 (by kernel_rfl) rfl #[.slice Ao29 t647.length co29, .agg #[.string a0_8, .string a0_9], .slice Ao24 y642.length co24, .slice A0_7 l0_7.length c0_7] rfl (by (try simp only [List.map_toArray, List.map_cons, List.map_nil]); first | done | rfl | (simp only [List.length_drop, List.length_take]; rfl)) ?_; (with_reducible refine (pledge_Worth.calls kj2 _ _ t647 a0_8 a0_9 _ _ y642 _ _ l0_7 t651 t652 _ ?side1 ?side2 ?side3 ?side4 ?side5 ?side6 A18.out).mono ?_); (case side1 => repeat (first | exact (Kd.R_reads' HO649.out).2.2 | (with_reducible refine Kd.C_alloc ?_ _) | (with_reducible refine Kd.C_drewN ?_ _) | (with_reducible refine Kd.C_drew ?_))); (case side2 => exact (Kd.R_reads' HO649.out).2.1); (case side3 => repeat (first | exact (Kd.R_reads' HO644.out).2.2 | (with_reducible refine Kd.C_alloc ?_ _) | (with_reducible refine Kd.C_drewN ?_ _) | (with_reducible refine Kd.C_drew ?_))); (case side4 => exact (Kd.R_reads' HO644.out).2.1); (case side5 => repeat (first | exact (Kd.C_below HR0_7.out HB.out) | (with_reducible refine Kd.C_alloc ?_ _) | (with_reducible refine Kd.C_drewN ?_ _) | (with_reducible refine Kd.C_drew ?_))); (case side6 => exact HC0_7.out); rintro e w30 ⟨rfl, hb⟩; refine ⟨_, rfl, ?_⟩; have n0_ := Aside0.mk (Kd.R_below (by (with_reducible repeat (first | apply Kd.R_alloc | apply Kd.R_drewN | apply Kd.R_drew)); exact HO639.out) hb); have n1_ := Aside0.mk (Kd.R_below (by (with_reducible repeat (first | apply Kd.R_alloc | apply Kd.R_drewN | apply Kd.R_drew)); exact HO644.out) hb); have n2_ := Aside0.mk (Kd.R_below (by (with_reducible repeat (first | apply Kd.R_alloc | apply Kd.R_drewN | apply Kd.R_drew)); exact HO649.out) hb); have n3_ := Aside0.mk (blk_below (g := gb633) (o := .cells #[.string a0_0, .int .i64 a0_1, .int .i64 a0_2, .int .i64 a0_3, .int .i64 a0_4, .int .i64 a0_5, .int .i64 a0_6, .slice A0_7 l0_7.length c0_7, .string a0_8, .string a0_9] 74 (0, 0)) (by (with_reducible repeat (first | refine blk_drewN ?_ _ | refine blk_drew ?_ | refine blk_alloc ?_ _)); exact BK633.out) hb); have n4_ := Aside0.mk (below_step (by repeat (first | (with_reducible first | exact HB.out | apply below_alloc | apply pw_below_drewN | apply below_drew1 | refine below_set ?_ GE633.out) | exact HB.out)) hb); clear HO639; clear HO644; clear HO649; clear BK633; clear HB; have HO639 := n0_; have HO644 := n1_; have HO649 := n2_; have BK633 := n3_; have HB := n4_; clear n0_ n1_ n2_ n3_ n4_; (try clear hb); (try clear hb2); (try clear hk); (try clear hi)))
          (try simp only [Act.put, List.setIfInBounds_toArray, List.set_cons_zero, List.set_cons_succ])
          by_cases c31 : t645 ≥ a0_6
          · rw [if_pos c31] at H
            have c31b0 : decide (a0_6 ≤ t645) = true := decide_eq_true c31
            clear c31
            (try simp only [c31b0])
            by_cases c32 : t646 = 0
            · rw [if_pos c32] at H
              have c32b0 : (t646 == 0) = true := beq_iff_eq.mpr c32
              have c32b1 : (t646 != 0) = false := bne_eq_false_iff_eq.mpr c32
              clear c32
              by_cases c33 : t650 = 0
              · rw [if_pos c33] at H
                have c33b0 : (t650 == 0) = true := beq_iff_eq.mpr c33
                have c33b1 : (t650 != 0) = false := bne_eq_false_iff_eq.mpr c33
                clear c33
                by_cases c34 : t651 < a0_6
                · rw [if_pos c34] at H
                  have c34b0 : decide (t651 < a0_6) = true := decide_eq_true c34
                  clear c34
                  by_cases c35 : t652 = 0
                  · rw [if_pos c35] at H
                    have c35b0 : (t652 == 0) = true := beq_iff_eq.mpr c35
                    have c35b1 : (t652 != 0) = false := bne_eq_false_iff_eq.mpr c35
                    clear c35
                    replace H := Option.bind_eq_some_iff.mp H
                    obtain ⟨t653, A360, H⟩ := H
                    replace H : (if t653 = (wrap64 (t634 - 1)) then ((contangotop_goes16.f kj2).bind fun t654 => (some t654)) else (some false)) = some r := H
                    have A36 := Aside0.mk A360
                    clear A360
                    by_cases c37 : t653 = (wrap64 (t634 - 1))
                    · rw [if_pos c37] at H
                      have c37b0 : (t653 == (wrap64 (t634 - 1))) = true := beq_iff_eq.mpr c37
                      have c37b1 : (t653 != (wrap64 (t634 - 1))) = false := bne_eq_false_iff_eq.mpr c37
                      clear c37
                      replace H := Option.bind_eq_some_iff.mp H
                      obtain ⟨t654, A380, H⟩ := H
                      replace H : (some t654) = some r := H
                      have A38 := Aside0.mk A380
                      clear A380
                      obtain rfl := Option.some.inj H
                      have hcz39_0 : w30.cell? ⟨gb633, 0, none⟩ = some (.string a0_0) := (blk_cell BK633.out 0).trans rfl
                      have hcz39_1 : w30.cell? ⟨gb633, 1, none⟩ = some (.int .i64 a0_1) := (blk_cell BK633.out 1).trans rfl
                      have hcz39_2 : w30.cell? ⟨gb633, 2, none⟩ = some (.int .i64 a0_2) := (blk_cell BK633.out 2).trans rfl
                      have hcz39_3 : w30.cell? ⟨gb633, 3, none⟩ = some (.int .i64 a0_3) := (blk_cell BK633.out 3).trans rfl
                      have hcz39_4 : w30.cell? ⟨gb633, 4, none⟩ = some (.int .i64 a0_4) := (blk_cell BK633.out 4).trans rfl
                      have hcz39_5 : w30.cell? ⟨gb633, 5, none⟩ = some (.int .i64 a0_5) := (blk_cell BK633.out 5).trans rfl
                      have hcz39_6 : w30.cell? ⟨gb633, 6, none⟩ = some (.int .i64 a0_6) := (blk_cell BK633.out 6).trans rfl
                      have hcz39_7 : w30.cell? ⟨gb633, 7, none⟩ = some (.slice A0_7 l0_7.length c0_7) := (blk_cell BK633.out 7).trans rfl
                      have hcz39_8 : w30.cell? ⟨gb633, 8, none⟩ = some (.string a0_8) := (blk_cell BK633.out 8).trans rfl
                      have hcz39_9 : w30.cell? ⟨gb633, 9, none⟩ = some (.string a0_9) := (blk_cell BK633.out 9).trans rfl
                      have hfz39_0 := blk_frozen BK633.out 0
                      have hfz39_1 := blk_frozen BK633.out 1
                      have hfz39_2 := blk_frozen BK633.out 2
                      have hfz39_3 := blk_frozen BK633.out 3
                      have hfz39_4 := blk_frozen BK633.out 4
                      have hfz39_5 := blk_frozen BK633.out 5
                      have hfz39_6 := blk_frozen BK633.out 6
                      have hfz39_7 := blk_frozen BK633.out 7
                      have hfz39_8 := blk_frozen BK633.out 8
                      have hfz39_9 := blk_frozen BK633.out 9
                      go_wp2_with (first | (go_at_call 45; (with_reducible refine (pledge_Qty.calls kj2 _ _ t647 a0_8 a0_9 a0_0 t653 _ ?side1 ?side2 A36.out).mono ?_); (case side1 => repeat (first | exact (Kd.R_reads' HO649.out).2.2 | (with_reducible refine Kd.C_alloc ?_ _) | (with_reducible refine Kd.C_drewN ?_ _) | (with_reducible refine Kd.C_drew ?_))); (case side2 => exact (Kd.R_reads' HO649.out).2.1); rintro e w40 ⟨rfl, hb⟩; have n0_ := Aside0.mk (Kd.R_below (by (with_reducible repeat (first | apply Kd.R_alloc | apply Kd.R_drewN | apply Kd.R_drew)); exact HO639.out) hb); have n1_ := Aside0.mk (Kd.R_below (by (with_reducible repeat (first | apply Kd.R_alloc | apply Kd.R_drewN | apply Kd.R_drew)); exact HO644.out) hb); have n2_ := Aside0.mk (Kd.R_below (by (with_reducible repeat (first | apply Kd.R_alloc | apply Kd.R_drewN | apply Kd.R_drew)); exact HO649.out) hb); have n3_ := Aside0.mk (blk_below (g := gb633) (o := .cells #[.string a0_0, .int .i64 a0_1, .int .i64 a0_2, .int .i64 a0_3, .int .i64 a0_4, .int .i64 a0_5, .int .i64 a0_6, .slice A0_7 l0_7.length c0_7, .string a0_8, .string a0_9] 74 (0, 0)) (by (with_reducible repeat (first | refine blk_drewN ?_ _ | refine blk_drew ?_ | refine blk_alloc ?_ _)); exact BK633.out) hb); have n4_ := Aside0.mk (below_step (by repeat (first | (with_reducible first | exact HB.out | apply below_alloc | apply pw_below_drewN | apply below_drew1 | refine below_set ?_ GE633.out) | exact HB.out)) hb); clear HO639; clear HO644; clear HO649; clear BK633; clear HB; have HO639 := n0_; have HO644 := n1_; have HO649 := n2_; have BK633 := n3_; have HB := n4_; clear n0_ n1_ n2_ n3_ n4_; (try clear hb); (try clear hb2); (try clear hk); (try clear hi)) | (go_at_call 42; (with_reducible refine (contangotop_goes16.calls kj2  t654 _ A38.out).mono ?_); rintro e w41 ⟨rfl, hb⟩; have n0_ := Aside0.mk (Kd.R_below (by (with_reducible repeat (first | apply Kd.R_alloc | apply Kd.R_drewN | apply Kd.R_drew)); exact HO639.out) hb); have n1_ := Aside0.mk (Kd.R_below (by (with_reducible repeat (first | apply Kd.R_alloc | apply Kd.R_drewN | apply Kd.R_drew)); exact HO644.out) hb); have n2_ := Aside0.mk (Kd.R_below (by (with_reducible repeat (first | apply Kd.R_alloc | apply Kd.R_drewN | apply Kd.R_drew)); exact HO649.out) hb); have n3_ := Aside0.mk (blk_below (g := gb633) (o := .cells #[.string a0_0, .int .i64 a0_1, .int .i64 a0_2, .int .i64 a0_3, .int .i64 a0_4, .int .i64 a0_5, .int .i64 a0_6, .slice A0_7 l0_7.length c0_7, .string a0_8, .string a0_9] 74 (0, 0)) (by (with_reducible repeat (first | refine blk_drewN ?_ _ | refine blk_drew ?_ | refine blk_alloc ?_ _)); exact BK633.out) hb); have n4_ := Aside0.mk (below_step (by repeat (first | (with_reducible first | exact HB.out | apply below_alloc | apply pw_below_drewN | apply below_drew1 | refine below_set ?_ GE633.out) | exact HB.out)) hb); clear HO639; clear HO644; clear HO649; clear BK633; clear HB; have HO639 := n0_; have HO644 := n1_; have HO649 := n2_; have BK633 := n3_; have HB := n4_; clear n0_ n1_ n2_ n3_ n4_; (try clear hb); (try clear hb2); (try clear hk); (try clear hi)))
                      go_ret
                      exact ⟨by first | rfl | (simp [errW_none, errW_some] <;> rfl) | (simp [*, errW_none, errW_some] <;> rfl), by repeat (first | (with_reducible first | exact HB.out | apply below_alloc | apply pw_below_drewN | apply below_drew1 | refine below_set ?_ GE633.out) | exact HB.out)⟩
                    · rw [if_neg c37] at H
                      have c37b0 : (t653 == (wrap64 (t634 - 1))) = false := beq_eq_false_iff_ne.mpr c37
                      have c37b1 : (t653 != (wrap64 (t634 - 1))) = true := bne_iff_ne.mpr c37
                      obtain rfl := Option.some.inj H
                      have hcz42_0 : w30.cell? ⟨gb633, 0, none⟩ = some (.string a0_0) := (blk_cell BK633.out 0).trans rfl
                      have hcz42_1 : w30.cell? ⟨gb633, 1, none⟩ = some (.int .i64 a0_1) := (blk_cell BK633.out 1).trans rfl
                      have hcz42_2 : w30.cell? ⟨gb633, 2, none⟩ = some (.int .i64 a0_2) := (blk_cell BK633.out 2).trans rfl
                      have hcz42_3 : w30.cell? ⟨gb633, 3, none⟩ = some (.int .i64 a0_3) := (blk_cell BK633.out 3).trans rfl
                      have hcz42_4 : w30.cell? ⟨gb633, 4, none⟩ = some (.int .i64 a0_4) := (blk_cell BK633.out 4).trans rfl
                      have hcz42_5 : w30.cell? ⟨gb633, 5, none⟩ = some (.int .i64 a0_5) := (blk_cell BK633.out 5).trans rfl
                      have hcz42_6 : w30.cell? ⟨gb633, 6, none⟩ = some (.int .i64 a0_6) := (blk_cell BK633.out 6).trans rfl
                      have hcz42_7 : w30.cell? ⟨gb633, 7, none⟩ = some (.slice A0_7 l0_7.length c0_7) := (blk_cell BK633.out 7).trans rfl
                      have hcz42_8 : w30.cell? ⟨gb633, 8, none⟩ = some (.string a0_8) := (blk_cell BK633.out 8).trans rfl
                      have hcz42_9 : w30.cell? ⟨gb633, 9, none⟩ = some (.string a0_9) := (blk_cell BK633.out 9).trans rfl
                      have hfz42_0 := blk_frozen BK633.out 0
                      have hfz42_1 := blk_frozen BK633.out 1
                      have hfz42_2 := blk_frozen BK633.out 2
                      have hfz42_3 := blk_frozen BK633.out 3
                      have hfz42_4 := blk_frozen BK633.out 4
                      have hfz42_5 := blk_frozen BK633.out 5
                      have hfz42_6 := blk_frozen BK633.out 6
                      have hfz42_7 := blk_frozen BK633.out 7
                      have hfz42_8 := blk_frozen BK633.out 8
                      have hfz42_9 := blk_frozen BK633.out 9
                      go_wp2_with (first | (go_at_call 45; (with_reducible refine (pledge_Qty.calls kj2 _ _ t647 a0_8 a0_9 a0_0 t653 _ ?side1 ?side2 A36.out).mono ?_); (case side1 => repeat (first | exact (Kd.R_reads' HO649.out).2.2 | (with_reducible refine Kd.C_alloc ?_ _) | (with_reducible refine Kd.C_drewN ?_ _) | (with_reducible refine Kd.C_drew ?_))); (case side2 => exact (Kd.R_reads' HO649.out).2.1); rintro e w43 ⟨rfl, hb⟩; have n0_ := Aside0.mk (Kd.R_below (by (with_reducible repeat (first | apply Kd.R_alloc | apply Kd.R_drewN | apply Kd.R_drew)); exact HO639.out) hb); have n1_ := Aside0.mk (Kd.R_below (by (with_reducible repeat (first | apply Kd.R_alloc | apply Kd.R_drewN | apply Kd.R_drew)); exact HO644.out) hb); have n2_ := Aside0.mk (Kd.R_below (by (with_reducible repeat (first | apply Kd.R_alloc | apply Kd.R_drewN | apply Kd.R_drew)); exact HO649.out) hb); have n3_ := Aside0.mk (blk_below (g := gb633) (o := .cells #[.string a0_0, .int .i64 a0_1, .int .i64 a0_2, .int .i64 a0_3, .int .i64 a0_4, .int .i64 a0_5, .int .i64 a0_6, .slice A0_7 l0_7.length c0_7, .string a0_8, .string a0_9] 74 (0, 0)) (by (with_reducible repeat (first | refine blk_drewN ?_ _ | refine blk_drew ?_ | refine blk_alloc ?_ _)); exact BK633.out) hb); have n4_ := Aside0.mk (below_step (by repeat (first | (with_reducible first | exact HB.out | apply below_alloc | apply pw_below_drewN | apply below_drew1 | refine below_set ?_ GE633.out) | exact HB.out)) hb); clear HO639; clear HO644; clear HO649; clear BK633; clear HB; have HO639 := n0_; have HO644 := n1_; have HO649 := n2_; have BK633 := n3_; have HB := n4_; clear n0_ n1_ n2_ n3_ n4_; (try clear hb); (try clear hb2); (try clear hk); (try clear hi)))
                      go_ret
                      exact ⟨by first | rfl | (simp [errW_none, errW_some] <;> rfl) | (simp [*, errW_none, errW_some] <;> rfl), by repeat (first | (with_reducible first | exact HB.out | apply below_alloc | apply pw_below_drewN | apply below_drew1 | refine below_set ?_ GE633.out) | exact HB.out)⟩
                  · rw [if_neg c35] at H
                    have c35b0 : (t652 == 0) = false := beq_eq_false_iff_ne.mpr c35
                    have c35b1 : (t652 != 0) = true := bne_iff_ne.mpr c35
                    obtain rfl := Option.some.inj H
                    have hcz44_0 : w30.cell? ⟨gb633, 0, none⟩ = some (.string a0_0) := (blk_cell BK633.out 0).trans rfl
                    have hcz44_1 : w30.cell? ⟨gb633, 1, none⟩ = some (.int .i64 a0_1) := (blk_cell BK633.out 1).trans rfl
                    have hcz44_2 : w30.cell? ⟨gb633, 2, none⟩ = some (.int .i64 a0_2) := (blk_cell BK633.out 2).trans rfl
                    have hcz44_3 : w30.cell? ⟨gb633, 3, none⟩ = some (.int .i64 a0_3) := (blk_cell BK633.out 3).trans rfl
                    have hcz44_4 : w30.cell? ⟨gb633, 4, none⟩ = some (.int .i64 a0_4) := (blk_cell BK633.out 4).trans rfl
                    have hcz44_5 : w30.cell? ⟨gb633, 5, none⟩ = some (.int .i64 a0_5) := (blk_cell BK633.out 5).trans rfl
                    have hcz44_6 : w30.cell? ⟨gb633, 6, none⟩ = some (.int .i64 a0_6) := (blk_cell BK633.out 6).trans rfl
                    have hcz44_7 : w30.cell? ⟨gb633, 7, none⟩ = some (.slice A0_7 l0_7.length c0_7) := (blk_cell BK633.out 7).trans rfl
                    have hcz44_8 : w30.cell? ⟨gb633, 8, none⟩ = some (.string a0_8) := (blk_cell BK633.out 8).trans rfl
                    have hcz44_9 : w30.cell? ⟨gb633, 9, none⟩ = some (.string a0_9) := (blk_cell BK633.out 9).trans rfl
                    have hfz44_0 := blk_frozen BK633.out 0
                    have hfz44_1 := blk_frozen BK633.out 1
                    have hfz44_2 := blk_frozen BK633.out 2
                    have hfz44_3 := blk_frozen BK633.out 3
                    have hfz44_4 := blk_frozen BK633.out 4
                    have hfz44_5 := blk_frozen BK633.out 5
                    have hfz44_6 := blk_frozen BK633.out 6
                    have hfz44_7 := blk_frozen BK633.out 7
                    have hfz44_8 := blk_frozen BK633.out 8
                    have hfz44_9 := blk_frozen BK633.out 9
                    go_wp2
                    go_ret
                    exact ⟨by first | rfl | (simp [errW_none, errW_some] <;> rfl) | (simp [*, errW_none, errW_some] <;> rfl), by repeat (first | (with_reducible first | exact HB.out | apply below_alloc | apply pw_below_drewN | apply below_drew1 | refine below_set ?_ GE633.out) | exact HB.out)⟩
                · rw [if_neg c34] at H
                  have c34b0 : decide (t651 < a0_6) = false := decide_eq_false c34
                  clear c34
                  obtain rfl := Option.some.inj H
                  have hcz45_0 : w30.cell? ⟨gb633, 0, none⟩ = some (.string a0_0) := (blk_cell BK633.out 0).trans rfl
                  have hcz45_1 : w30.cell? ⟨gb633, 1, none⟩ = some (.int .i64 a0_1) := (blk_cell BK633.out 1).trans rfl
                  have hcz45_2 : w30.cell? ⟨gb633, 2, none⟩ = some (.int .i64 a0_2) := (blk_cell BK633.out 2).trans rfl
                  have hcz45_3 : w30.cell? ⟨gb633, 3, none⟩ = some (.int .i64 a0_3) := (blk_cell BK633.out 3).trans rfl
                  have hcz45_4 : w30.cell? ⟨gb633, 4, none⟩ = some (.int .i64 a0_4) := (blk_cell BK633.out 4).trans rfl
                  have hcz45_5 : w30.cell? ⟨gb633, 5, none⟩ = some (.int .i64 a0_5) := (blk_cell BK633.out 5).trans rfl
                  have hcz45_6 : w30.cell? ⟨gb633, 6, none⟩ = some (.int .i64 a0_6) := (blk_cell BK633.out 6).trans rfl
                  have hcz45_7 : w30.cell? ⟨gb633, 7, none⟩ = some (.slice A0_7 l0_7.length c0_7) := (blk_cell BK633.out 7).trans rfl
                  have hcz45_8 : w30.cell? ⟨gb633, 8, none⟩ = some (.string a0_8) := (blk_cell BK633.out 8).trans rfl
                  have hcz45_9 : w30.cell? ⟨gb633, 9, none⟩ = some (.string a0_9) := (blk_cell BK633.out 9).trans rfl
                  have hfz45_0 := blk_frozen BK633.out 0
                  have hfz45_1 := blk_frozen BK633.out 1
                  have hfz45_2 := blk_frozen BK633.out 2
                  have hfz45_3 := blk_frozen BK633.out 3
                  have hfz45_4 := blk_frozen BK633.out 4
                  have hfz45_5 := blk_frozen BK633.out 5
                  have hfz45_6 := blk_frozen BK633.out 6
                  have hfz45_7 := blk_frozen BK633.out 7
                  have hfz45_8 := blk_frozen BK633.out 8
                  have hfz45_9 := blk_frozen BK633.out 9
                  go_wp2
                  go_ret
                  exact ⟨by first | rfl | (simp [errW_none, errW_some] <;> rfl) | (simp [*, errW_none, errW_some] <;> rfl), by repeat (first | (with_reducible first | exact HB.out | apply below_alloc | apply pw_below_drewN | apply below_drew1 | refine below_set ?_ GE633.out) | exact HB.out)⟩
              · rw [if_neg c33] at H
                have c33b0 : (t650 == 0) = false := beq_eq_false_iff_ne.mpr c33
                have c33b1 : (t650 != 0) = true := bne_iff_ne.mpr c33
                obtain rfl := Option.some.inj H
                have hcz46_0 : w30.cell? ⟨gb633, 0, none⟩ = some (.string a0_0) := (blk_cell BK633.out 0).trans rfl
                have hcz46_1 : w30.cell? ⟨gb633, 1, none⟩ = some (.int .i64 a0_1) := (blk_cell BK633.out 1).trans rfl
                have hcz46_2 : w30.cell? ⟨gb633, 2, none⟩ = some (.int .i64 a0_2) := (blk_cell BK633.out 2).trans rfl
                have hcz46_3 : w30.cell? ⟨gb633, 3, none⟩ = some (.int .i64 a0_3) := (blk_cell BK633.out 3).trans rfl
                have hcz46_4 : w30.cell? ⟨gb633, 4, none⟩ = some (.int .i64 a0_4) := (blk_cell BK633.out 4).trans rfl
                have hcz46_5 : w30.cell? ⟨gb633, 5, none⟩ = some (.int .i64 a0_5) := (blk_cell BK633.out 5).trans rfl
                have hcz46_6 : w30.cell? ⟨gb633, 6, none⟩ = some (.int .i64 a0_6) := (blk_cell BK633.out 6).trans rfl
                have hcz46_7 : w30.cell? ⟨gb633, 7, none⟩ = some (.slice A0_7 l0_7.length c0_7) := (blk_cell BK633.out 7).trans rfl
                have hcz46_8 : w30.cell? ⟨gb633, 8, none⟩ = some (.string a0_8) := (blk_cell BK633.out 8).trans rfl
                have hcz46_9 : w30.cell? ⟨gb633, 9, none⟩ = some (.string a0_9) := (blk_cell BK633.out 9).trans rfl
                have hfz46_0 := blk_frozen BK633.out 0
                have hfz46_1 := blk_frozen BK633.out 1
                have hfz46_2 := blk_frozen BK633.out 2
                have hfz46_3 := blk_frozen BK633.out 3
                have hfz46_4 := blk_frozen BK633.out 4
                have hfz46_5 := blk_frozen BK633.out 5
                have hfz46_6 := blk_frozen BK633.out 6
                have hfz46_7 := blk_frozen BK633.out 7
                have hfz46_8 := blk_frozen BK633.out 8
                have hfz46_9 := blk_frozen BK633.out 9
                go_wp2
                go_ret
                exact ⟨by first | rfl | (simp [errW_none, errW_some] <;> rfl) | (simp [*, errW_none, errW_some] <;> rfl), by repeat (first | (with_reducible first | exact HB.out | apply below_alloc | apply pw_below_drewN | apply below_drew1 | refine below_set ?_ GE633.out) | exact HB.out)⟩
            · rw [if_neg c32] at H
              have c32b0 : (t646 == 0) = false := beq_eq_false_iff_ne.mpr c32
              have c32b1 : (t646 != 0) = true := bne_iff_ne.mpr c32
              obtain rfl := Option.some.inj H
              have hcz47_0 : w30.cell? ⟨gb633, 0, none⟩ = some (.string a0_0) := (blk_cell BK633.out 0).trans rfl
              have hcz47_1 : w30.cell? ⟨gb633, 1, none⟩ = some (.int .i64 a0_1) := (blk_cell BK633.out 1).trans rfl
              have hcz47_2 : w30.cell? ⟨gb633, 2, none⟩ = some (.int .i64 a0_2) := (blk_cell BK633.out 2).trans rfl
              have hcz47_3 : w30.cell? ⟨gb633, 3, none⟩ = some (.int .i64 a0_3) := (blk_cell BK633.out 3).trans rfl
              have hcz47_4 : w30.cell? ⟨gb633, 4, none⟩ = some (.int .i64 a0_4) := (blk_cell BK633.out 4).trans rfl
              have hcz47_5 : w30.cell? ⟨gb633, 5, none⟩ = some (.int .i64 a0_5) := (blk_cell BK633.out 5).trans rfl
              have hcz47_6 : w30.cell? ⟨gb633, 6, none⟩ = some (.int .i64 a0_6) := (blk_cell BK633.out 6).trans rfl
              have hcz47_7 : w30.cell? ⟨gb633, 7, none⟩ = some (.slice A0_7 l0_7.length c0_7) := (blk_cell BK633.out 7).trans rfl
              have hcz47_8 : w30.cell? ⟨gb633, 8, none⟩ = some (.string a0_8) := (blk_cell BK633.out 8).trans rfl
              have hcz47_9 : w30.cell? ⟨gb633, 9, none⟩ = some (.string a0_9) := (blk_cell BK633.out 9).trans rfl
              have hfz47_0 := blk_frozen BK633.out 0
              have hfz47_1 := blk_frozen BK633.out 1
              have hfz47_2 := blk_frozen BK633.out 2
              have hfz47_3 := blk_frozen BK633.out 3
              have hfz47_4 := blk_frozen BK633.out 4
              have hfz47_5 := blk_frozen BK633.out 5
              have hfz47_6 := blk_frozen BK633.out 6
              have hfz47_7 := blk_frozen BK633.out 7
              have hfz47_8 := blk_frozen BK633.out 8
              have hfz47_9 := blk_frozen BK633.out 9
              go_wp2
              go_ret
              exact ⟨by first | rfl | (simp [errW_none, errW_some] <;> rfl) | (simp [*, errW_none, errW_some] <;> rfl), by repeat (first | (with_reducible first | exact HB.out | apply below_alloc | apply pw_below_drewN | apply below_drew1 | refine below_set ?_ GE633.out) | exact HB.out)⟩
          · rw [if_neg c31] at H
            have c31b0 : decide (a0_6 ≤ t645) = false := decide_eq_false c31
            clear c31
            (try simp only [c31b0])
            obtain rfl := Option.some.inj H
            have hcz48_0 : w30.cell? ⟨gb633, 0, none⟩ = some (.string a0_0) := (blk_cell BK633.out 0).trans rfl
            have hcz48_1 : w30.cell? ⟨gb633, 1, none⟩ = some (.int .i64 a0_1) := (blk_cell BK633.out 1).trans rfl
            have hcz48_2 : w30.cell? ⟨gb633, 2, none⟩ = some (.int .i64 a0_2) := (blk_cell BK633.out 2).trans rfl
            have hcz48_3 : w30.cell? ⟨gb633, 3, none⟩ = some (.int .i64 a0_3) := (blk_cell BK633.out 3).trans rfl
            have hcz48_4 : w30.cell? ⟨gb633, 4, none⟩ = some (.int .i64 a0_4) := (blk_cell BK633.out 4).trans rfl
            have hcz48_5 : w30.cell? ⟨gb633, 5, none⟩ = some (.int .i64 a0_5) := (blk_cell BK633.out 5).trans rfl
            have hcz48_6 : w30.cell? ⟨gb633, 6, none⟩ = some (.int .i64 a0_6) := (blk_cell BK633.out 6).trans rfl
            have hcz48_7 : w30.cell? ⟨gb633, 7, none⟩ = some (.slice A0_7 l0_7.length c0_7) := (blk_cell BK633.out 7).trans rfl
            have hcz48_8 : w30.cell? ⟨gb633, 8, none⟩ = some (.string a0_8) := (blk_cell BK633.out 8).trans rfl
            have hcz48_9 : w30.cell? ⟨gb633, 9, none⟩ = some (.string a0_9) := (blk_cell BK633.out 9).trans rfl
            have hfz48_0 := blk_frozen BK633.out 0
            have hfz48_1 := blk_frozen BK633.out 1
            have hfz48_2 := blk_frozen BK633.out 2
            have hfz48_3 := blk_frozen BK633.out 3
            have hfz48_4 := blk_frozen BK633.out 4
            have hfz48_5 := blk_frozen BK633.out 5
            have hfz48_6 := blk_frozen BK633.out 6
            have hfz48_7 := blk_frozen BK633.out 7
            have hfz48_8 := blk_frozen BK633.out 8
            have hfz48_9 := blk_frozen BK633.out 9
            go_wp2
            go_ret
            exact ⟨by first | rfl | (simp [errW_none, errW_some] <;> rfl) | (simp [*, errW_none, errW_some] <;> rfl), by repeat (first | (with_reducible first | exact HB.out | apply below_alloc | apply pw_below_drewN | apply below_drew1 | refine below_set ?_ GE633.out) | exact HB.out)⟩
        · rw [if_neg c15] at H
          have c15b0 : (t640 == 0) = false := beq_eq_false_iff_ne.mpr c15
          have c15b1 : (t640 != 0) = true := bne_iff_ne.mpr c15
          (try simp only [c15b0, c15b1])
          by_cases c49 : t640 = 10
          · rw [if_pos c49] at H
            have c49b0 : (t640 == 10) = true := beq_iff_eq.mpr c49
            have c49b1 : (t640 != 10) = false := bne_eq_false_iff_eq.mpr c49
            clear c49
            replace H := Option.bind_eq_some_iff.mp H
            obtain ⟨t641, A500, H⟩ := H
            replace H : (some t641) = some r := H
            have A50 := Aside0.mk A500
            clear A500
            obtain rfl := Option.some.inj H
            go_wp2_with (first | (go_at_call 42; (with_reducible refine (contangotop_goes16.calls kj2  t641 _ A50.out).mono ?_); rintro e w51 ⟨rfl, hb⟩; have n0_ := Aside0.mk (Kd.R_below (by (with_reducible repeat (first | apply Kd.R_alloc | apply Kd.R_drewN | apply Kd.R_drew)); exact HO639.out) hb); have n1_ := Aside0.mk (blk_below (g := gb633) (o := .cells #[.string a0_0, .int .i64 a0_1, .int .i64 a0_2, .int .i64 a0_3, .int .i64 a0_4, .int .i64 a0_5, .int .i64 a0_6, .slice A0_7 l0_7.length c0_7, .string a0_8, .string a0_9] 74 (0, 0)) (by (with_reducible repeat (first | refine blk_drewN ?_ _ | refine blk_drew ?_ | refine blk_alloc ?_ _)); exact BK633.out) hb); have n2_ := Aside0.mk (below_step (by repeat (first | (with_reducible first | exact HB.out | apply below_alloc | apply pw_below_drewN | apply below_drew1 | refine below_set ?_ GE633.out) | exact HB.out)) hb); clear HO639; clear BK633; clear HB; have HO639 := n0_; have BK633 := n1_; have HB := n2_; clear n0_ n1_ n2_; (try clear hb); (try clear hb2); (try clear hk); (try clear hi)))
            go_ret
            exact ⟨by first | rfl | (simp [errW_none, errW_some] <;> rfl) | (simp [*, errW_none, errW_some] <;> rfl), by repeat (first | (with_reducible first | exact HB.out | apply below_alloc | apply pw_below_drewN | apply below_drew1 | refine below_set ?_ GE633.out) | exact HB.out)⟩
          · rw [if_neg c49] at H
            have c49b0 : (t640 == 10) = false := beq_eq_false_iff_ne.mpr c49
            have c49b1 : (t640 != 10) = true := bne_iff_ne.mpr c49
            obtain rfl := Option.some.inj H
            go_wp2
            go_ret
            exact ⟨by first | rfl | (simp [errW_none, errW_some] <;> rfl) | (simp [*, errW_none, errW_some] <;> rfl), by repeat (first | (with_reducible first | exact HB.out | apply below_alloc | apply pw_below_drewN | apply below_drew1 | refine below_set ?_ GE633.out) | exact HB.out)⟩
end Go.Proofs.Ytaiekjimdjlgbaa.Pr
