/- Functions' values and contracts, as the print wrote them. -/
import Derived.Test.YtaiekjimdjlgbaaQ2BBP0
import Derived.Test.YtaiekjimdjlgbaaQ2BBP1
import Derived.Test.YtaiekjimdjlgbaaQ2BBP3
namespace Go.Proofs.Ytaiekjimdjlgbaa.Pr
open Go.RowKit Go.Proofs.YtaiekjimdjlgbaaW.PrintWords Go.Proofs.YtaiekjimdjlgbaaW.PrintLast Go.Proofs.YtaiekjimdjlgbaaW.PrintMore
attribute [local go_sem] max2_int min2_int max_two min_two max_three min_three max_four min_four   -- for this text's walks alone
set_option linter.unusedVariables false
set_option linter.unusedSimpArgs false
attribute [local go_sem high] eqA58
def contangolaw28_AddonLargest.f (k : Nat) (l0 : List (S109)) : Option (Bool) := (addon_Largest.f k l0).bind fun bt434 => ((contangoref28_Largest.f k l0).bind fun bt441 => (if bt434.1 = bt441.1 then (if (bt434.2.1.toList == bt441.2.1.toList && (bt434.2.2.1 == bt441.2.2.1 && (bt434.2.2.2.1 == bt441.2.2.2.1 && (bt434.2.2.2.2.1 == bt441.2.2.2.2.1)))) = true then (if bt434.2.2.2.2.2 = bt441.2.2.2.2.2 then ((contangolaw28_goes.f k).bind fun t448 => (some t448)) else (some false)) else (some false)) else (some false)))
theorem contangolaw28_AddonLargest.mono : ∀ a0 k, LeO (contangolaw28_AddonLargest.f k a0) (contangolaw28_AddonLargest.f (k + 1) a0) := by
  intro a0 k
  unfold contangolaw28_AddonLargest.f
  repeat' first
      | (with_reducible exact addon_Largest.mono _ _)
      | (with_reducible exact contangolaw28_goes.mono _)
      | (with_reducible exact contangoref28_Largest.mono _ _)
      | (with_reducible exact LeO.refl _)
      | (with_reducible exact LeO.none _)
      | (with_reducible refine LeO.ite ?_ ?_)
      | (with_reducible refine LeO.bind ?_ (fun _ => ?_))
      | exact addon_Largest.mono _ _
      | exact contangolaw28_goes.mono _
      | exact contangoref28_Largest.mono _ _
      | exact LeO.none _
      | refine LeO.ite ?_ ?_
      | refine LeO.bind ?_ (fun _ => ?_)
set_option maxHeartbeats 8000000 in
set_option maxRecDepth 100000 in
theorem contangolaw28_AddonLargest.calls (k : Nat) (A0 : Option Addr) (c0 : Nat) (l0 : List (S109)) (r : Bool) (w : World) (hr0 : Kd.C k109 w A0 l0.length l0) (hc0 : l0.length ≤ c0) (h : contangolaw28_AddonLargest.f k l0 = some r) :
    Calls Try.prog 10 #[.slice A0 l0.length c0] w fun e w' => e = .returned (.bool r) ∧ Below w.heap.size w w' := by
  have hu58 := Try.underlying58
  have HR0 := Aside0.mk hr0
  have HC0 := Aside0.mk hc0
  clear hr0 hc0
  have HB := Aside0.mk (Below.refl w.heap.size w)
  have H : ((addon_Largest.f k l0).bind fun bt434 => ((contangoref28_Largest.f k l0).bind fun bt441 => (if bt434.1 = bt441.1 then (if (bt434.2.1.toList == bt441.2.1.toList && (bt434.2.2.1 == bt441.2.2.1 && (bt434.2.2.2.1 == bt441.2.2.2.1 && (bt434.2.2.2.2.1 == bt441.2.2.2.2.1)))) = true then (if bt434.2.2.2.2.2 = bt441.2.2.2.2.2 then ((contangolaw28_goes.f k).bind fun t448 => (some t448)) else (some false)) else (some false)) else (some false)))) = some r := h
  clear h
  replace H := Option.bind_eq_some_iff.mp H
  obtain ⟨⟨t434, t435, t436, t437, t438, t439⟩, A20, H⟩ := H
  replace H : ((contangoref28_Largest.f k l0).bind fun bt441 => (if t434 = bt441.1 then (if (t435.toList == bt441.2.1.toList && (t436 == bt441.2.2.1 && (t437 == bt441.2.2.2.1 && (t438 == bt441.2.2.2.2.1)))) = true then (if t439 = bt441.2.2.2.2.2 then ((contangolaw28_goes.f k).bind fun t448 => (some t448)) else (some false)) else (some false)) else (some false))) = some r := H
  have A2 := Aside0.mk A20
  clear A20
  replace H := Option.bind_eq_some_iff.mp H
  obtain ⟨⟨t441, t442, t443, t444, t445, t446⟩, A30, H⟩ := H
  replace H : (if t434 = t441 then (if (t435.toList == t442.toList && (t436 == t443 && (t437 == t444 && (t438 == t445)))) = true then (if t439 = t446 then ((contangolaw28_goes.f k).bind fun t448 => (some t448)) else (some false)) else (some false)) else (some false)) = some r := H
  have A3 := Aside0.mk A30
  clear A30
  go_enter Try.func10, Try.ntmps10
  go_upto_region 3 with (first | ((with_reducible refine gate_callee (f := 37) rfl ?_); refine goesL_ (some 11) rfl rfl Try.func37 (by kernel_rfl) rfl #[.slice A0 l0.length c0] rfl (by (try simp only [List.map_toArray, List.map_cons, List.map_nil]); first | done | rfl | (simp only [List.length_drop, List.length_take]; rfl)) ?_; (with_reducible refine (addon_Largest.calls k _ _ l0 t434 t435 t436 t437 t438 t439 _ ?side1 ?side2 A2.out).mono ?_); (case side1 => repeat (first | exact HR0.out | (with_reducible refine Kd.C_alloc ?_ _) | (with_reducible refine Kd.C_drewN ?_ _) | (with_reducible refine Kd.C_drew ?_))); (case side2 => exact HC0.out); rintro e w4 ⟨rfl, hb⟩; refine ⟨_, rfl, ?_⟩; have n0_ := Aside0.mk (below_step (by repeat (first | (with_reducible first | exact HB.out | apply below_alloc | apply pw_below_drewN | apply below_drew1) | exact HB.out)) hb); clear HB; have HB := n0_; clear n0_; (try clear hb); (try clear hb2); (try clear hk); (try clear hi)) | ((with_reducible refine gate_dst (N := 4) rfl ?_); refine box_event ?hg (N := 4) ?hd (cs := #[.string (⟨#[]⟩ : ByteArray), .int .i64 0, .int .i64 0, .int .i64 0]) (t := 58) ?hr ?_; (case hd => rfl); (case hg => rfl); (case hr => first | (go_simp; done) | (go_simp; rfl)); intro gb440 hg w5 hbox hb; have n0_ := Aside0.mk (below_step (by repeat (first | (with_reducible first | exact HB.out | apply below_alloc | apply pw_below_drewN | apply below_drew1) | exact HB.out)) hb); have n1_ := Aside0.mk (hbox); have n2_ := Aside0.mk ((by rw [hg]; exact (below_size (by repeat (first | (with_reducible first | exact HB.out | apply below_alloc | apply pw_below_drewN | apply below_drew1) | exact HB.out))) : w.heap.size ≤ gb440)); have n3_ := Aside0.mk ((by rw [hg]; exact (below_size (by repeat (first | (with_reducible first | exact HB.out | apply below_alloc | apply pw_below_drewN | apply below_drew1) | exact HB.out))) : w.heap.size ≤ gb440)); clear HB; have HB := n0_; have BK440 := n1_; have GW440 := n2_; have GE440 := n3_; clear n0_ n1_ n2_ n3_; clear hb hbox hg; have hcz6_0 : w5.cell? ⟨gb440, 0, none⟩ = some (.string (⟨#[]⟩ : ByteArray)) := (blk_cell BK440.out 0).trans rfl; have hcz6_1 : w5.cell? ⟨gb440, 1, none⟩ = some (.int .i64 0) := (blk_cell BK440.out 1).trans rfl; have hcz6_2 : w5.cell? ⟨gb440, 2, none⟩ = some (.int .i64 0) := (blk_cell BK440.out 2).trans rfl; have hcz6_3 : w5.cell? ⟨gb440, 3, none⟩ = some (.int .i64 0) := (blk_cell BK440.out 3).trans rfl; have hfz6_0 := blk_frozen BK440.out 0; have hfz6_1 := blk_frozen BK440.out 1; have hfz6_2 := blk_frozen BK440.out 2; have hfz6_3 := blk_frozen BK440.out 3) | ((with_reducible refine gate_callee (f := 38) rfl ?_); refine goesL_ (some 17) rfl rfl Try.func38 (by kernel_rfl) rfl #[.slice A0 l0.length c0] rfl (by (try simp only [List.map_toArray, List.map_cons, List.map_nil]); first | done | rfl | (simp only [List.length_drop, List.length_take]; rfl)) ?_; (with_reducible refine (contangoref28_Largest.calls k _ _ l0 t441 t442 t443 t444 t445 t446 _ ?side1 ?side2 A3.out).mono ?_); (case side1 => exact Kd.C_below HR0.out (by repeat (first | (with_reducible first | exact HB.out | apply below_alloc | apply pw_below_drewN | apply below_drew1 | refine below_set ?_ GE440.out) | exact HB.out))); (case side2 => exact HC0.out); rintro e w7 ⟨rfl, hb⟩; refine ⟨_, rfl, ?_⟩; have n0_ := Aside0.mk (blk_below (g := gb440) (o := .cells #[.string t435, .int .i64 t436, .int .i64 t437, .int .i64 t438] 58 (0, 0)) (by (with_reducible repeat (first | refine blk_drewN ?_ _ | refine blk_drew ?_ | refine blk_alloc ?_ _)); refine blk_put (cs := #[.string t435, .int .i64 t436, .int .i64 t437, .int .i64 0]) ?_ 3 _ rfl; (with_reducible repeat (first | refine blk_drewN ?_ _ | refine blk_drew ?_ | refine blk_alloc ?_ _)); refine blk_put (cs := #[.string t435, .int .i64 t436, .int .i64 0, .int .i64 0]) ?_ 2 _ rfl; (with_reducible repeat (first | refine blk_drewN ?_ _ | refine blk_drew ?_ | refine blk_alloc ?_ _)); refine blk_put (cs := #[.string t435, .int .i64 0, .int .i64 0, .int .i64 0]) ?_ 1 _ rfl; (with_reducible repeat (first | refine blk_drewN ?_ _ | refine blk_drew ?_ | refine blk_alloc ?_ _)); refine blk_put (cs := #[.string (⟨#[]⟩ : ByteArray), .int .i64 0, .int .i64 0, .int .i64 0]) ?_ 0 _ rfl; (with_reducible repeat (first | refine blk_drewN ?_ _ | refine blk_drew ?_ | refine blk_alloc ?_ _)); exact BK440.out) hb); have n1_ := Aside0.mk (below_step (by repeat (first | (with_reducible first | exact HB.out | apply below_alloc | apply pw_below_drewN | apply below_drew1 | refine below_set ?_ GE440.out) | exact HB.out)) hb); clear BK440; clear HB; have BK440 := n0_; have HB := n1_; clear n0_ n1_; (try clear hb); (try clear hb2); (try clear hk); (try clear hi)) | ((with_reducible refine gate_dst (N := 7) rfl ?_); refine box_event ?hg (N := 7) ?hd (cs := #[.string (⟨#[]⟩ : ByteArray), .int .i64 0, .int .i64 0, .int .i64 0]) (t := 58) ?hr ?_; (case hd => rfl); (case hg => rfl); (case hr => first | (go_simp; done) | (go_simp; rfl)); intro gb447 hg w8 hbox hb; have n0_ := Aside0.mk (blk_below (g := gb440) (o := .cells #[.string t435, .int .i64 t436, .int .i64 t437, .int .i64 t438] 58 (0, 0)) (by (with_reducible repeat (first | refine blk_drewN ?_ _ | refine blk_drew ?_ | refine blk_alloc ?_ _)); exact BK440.out) hb); have n1_ := Aside0.mk (below_step (by repeat (first | (with_reducible first | exact HB.out | apply below_alloc | apply pw_below_drewN | apply below_drew1 | refine below_set ?_ GE440.out) | exact HB.out)) hb); have n2_ := Aside0.mk (hbox); have n3_ := Aside0.mk ((by rw [hg]; exact (below_size (by repeat (first | (with_reducible first | exact HB.out | apply below_alloc | apply pw_below_drewN | apply below_drew1 | refine below_set ?_ GE440.out) | exact HB.out))) : w.heap.size ≤ gb447)); have n4_ := Aside0.mk ((by rw [hg]; exact (below_size (by repeat (first | (with_reducible first | exact HB.out | apply below_alloc | apply pw_below_drewN | apply below_drew1 | refine below_set ?_ GE440.out) | exact HB.out))) : w.heap.size ≤ gb447)); have n5_ := Aside0.mk ((by rw [hg]; exact Nat.ne_of_lt (blk_lt (g := gb440) (o := .cells #[.string t435, .int .i64 t436, .int .i64 t437, .int .i64 t438] 58 (0, 0)) (by (with_reducible repeat (first | refine blk_drewN ?_ _ | refine blk_drew ?_ | refine blk_alloc ?_ _)); exact BK440.out)) : gb440 ≠ gb447)); have n6_ := Aside0.mk ((by rw [hg]; exact Nat.ne_of_gt (blk_lt (g := gb440) (o := .cells #[.string t435, .int .i64 t436, .int .i64 t437, .int .i64 t438] 58 (0, 0)) (by (with_reducible repeat (first | refine blk_drewN ?_ _ | refine blk_drew ?_ | refine blk_alloc ?_ _)); exact BK440.out)) : gb447 ≠ gb440)); clear BK440; clear HB; have BK440 := n0_; have HB := n1_; have BK447 := n2_; have GW447 := n3_; have GE447 := n4_; have NB440_447 := n5_; have NB447_440 := n6_; clear n0_ n1_ n2_ n3_ n4_ n5_ n6_; clear hb hbox hg; have hnb9 := NB447_440.out; have hnc9 := NB440_447.out; have hcz10_0 : w8.cell? ⟨gb447, 0, none⟩ = some (.string (⟨#[]⟩ : ByteArray)) := (blk_cell BK447.out 0).trans rfl; have hcz10_1 : w8.cell? ⟨gb447, 1, none⟩ = some (.int .i64 0) := (blk_cell BK447.out 1).trans rfl; have hcz10_2 : w8.cell? ⟨gb447, 2, none⟩ = some (.int .i64 0) := (blk_cell BK447.out 2).trans rfl; have hcz10_3 : w8.cell? ⟨gb447, 3, none⟩ = some (.int .i64 0) := (blk_cell BK447.out 3).trans rfl; have hfz10_0 := blk_frozen BK447.out 0; have hfz10_1 := blk_frozen BK447.out 1; have hfz10_2 := blk_frozen BK447.out 2; have hfz10_3 := blk_frozen BK447.out 3))
  (try simp only [Act.put, List.setIfInBounds_toArray, List.set_cons_zero, List.set_cons_succ])
  by_cases c11 : t434 = t441
  · rw [if_pos c11] at H
    have c11b0 : (t434 == t441) = true := beq_iff_eq.mpr c11
    have c11b1 : (t434 != t441) = false := bne_eq_false_iff_eq.mpr c11
    clear c11
    (try simp only [c11b0, c11b1])
    by_cases c12 : (t435.toList == t442.toList && (t436 == t443 && (t437 == t444 && (t438 == t445)))) = true
    · rw [if_pos c12] at H
      have c12b0 : (t435.toList == t442.toList && (t436 == t443 && (t437 == t444 && (t438 == t445)))) = true := c12
      (try (have c12b1 : decide (t435.toList = t442.toList && (t436 == t443 && (t437 == t444 && (t438 == t445)))) = true := by simpa using c12))
      (try (have c12b2 : (t435.toList == t442.toList && (t436 == t443 && (t437 == t444 && (t438 == t445)))) = true := by simpa using c12))
      clear c12
      by_cases c13 : t439 = t446
      · rw [if_pos c13] at H
        have c13b0 : (t439 == t446) = true := beq_iff_eq.mpr c13
        have c13b1 : (t439 != t446) = false := bne_eq_false_iff_eq.mpr c13
        clear c13
        replace H := Option.bind_eq_some_iff.mp H
        obtain ⟨t448, A140, H⟩ := H
        replace H : (some t448) = some r := H
        have A14 := Aside0.mk A140
        clear A140
        obtain rfl := Option.some.inj H
        have hnb15 := NB440_447.out
        have hnc15 := NB447_440.out
        have hcz16_0 : w8.cell? ⟨gb440, 0, none⟩ = some (.string t435) := (blk_cell BK440.out 0).trans rfl
        have hcz16_1 : w8.cell? ⟨gb440, 1, none⟩ = some (.int .i64 t436) := (blk_cell BK440.out 1).trans rfl
        have hcz16_2 : w8.cell? ⟨gb440, 2, none⟩ = some (.int .i64 t437) := (blk_cell BK440.out 2).trans rfl
        have hcz16_3 : w8.cell? ⟨gb440, 3, none⟩ = some (.int .i64 t438) := (blk_cell BK440.out 3).trans rfl
        have hfz16_0 := blk_frozen BK440.out 0
        have hfz16_1 := blk_frozen BK440.out 1
        have hfz16_2 := blk_frozen BK440.out 2
        have hfz16_3 := blk_frozen BK440.out 3
        have hcz17_0 : w8.cell? ⟨gb447, 0, none⟩ = some (.string (⟨#[]⟩ : ByteArray)) := (blk_cell BK447.out 0).trans rfl
        have hcz17_1 : w8.cell? ⟨gb447, 1, none⟩ = some (.int .i64 0) := (blk_cell BK447.out 1).trans rfl
        have hcz17_2 : w8.cell? ⟨gb447, 2, none⟩ = some (.int .i64 0) := (blk_cell BK447.out 2).trans rfl
        have hcz17_3 : w8.cell? ⟨gb447, 3, none⟩ = some (.int .i64 0) := (blk_cell BK447.out 3).trans rfl
        have hfz17_0 := blk_frozen BK447.out 0
        have hfz17_1 := blk_frozen BK447.out 1
        have hfz17_2 := blk_frozen BK447.out 2
        have hfz17_3 := blk_frozen BK447.out 3
        go_wp2_with (first | (go_at_call 34; (with_reducible refine (contangolaw28_goes.calls k  t448 _ A14.out).mono ?_); rintro e w18 ⟨rfl, hb⟩; have n0_ := Aside0.mk (blk_below (g := gb440) (o := .cells #[.string t435, .int .i64 t436, .int .i64 t437, .int .i64 t438] 58 (0, 0)) (by (with_reducible repeat (first | refine blk_drewN ?_ _ | refine blk_drew ?_ | refine blk_alloc ?_ _)); refine blk_far ?_ NB440_447.out _; (with_reducible repeat (first | refine blk_drewN ?_ _ | refine blk_drew ?_ | refine blk_alloc ?_ _)); refine blk_far ?_ NB440_447.out _; (with_reducible repeat (first | refine blk_drewN ?_ _ | refine blk_drew ?_ | refine blk_alloc ?_ _)); refine blk_far ?_ NB440_447.out _; (with_reducible repeat (first | refine blk_drewN ?_ _ | refine blk_drew ?_ | refine blk_alloc ?_ _)); refine blk_far ?_ NB440_447.out _; (with_reducible repeat (first | refine blk_drewN ?_ _ | refine blk_drew ?_ | refine blk_alloc ?_ _)); exact BK440.out) hb); have n1_ := Aside0.mk (blk_below (g := gb447) (o := .cells #[.string t442, .int .i64 t443, .int .i64 t444, .int .i64 t445] 58 (0, 0)) (by (with_reducible repeat (first | refine blk_drewN ?_ _ | refine blk_drew ?_ | refine blk_alloc ?_ _)); refine blk_put (cs := #[.string t442, .int .i64 t443, .int .i64 t444, .int .i64 0]) ?_ 3 _ rfl; (with_reducible repeat (first | refine blk_drewN ?_ _ | refine blk_drew ?_ | refine blk_alloc ?_ _)); refine blk_put (cs := #[.string t442, .int .i64 t443, .int .i64 0, .int .i64 0]) ?_ 2 _ rfl; (with_reducible repeat (first | refine blk_drewN ?_ _ | refine blk_drew ?_ | refine blk_alloc ?_ _)); refine blk_put (cs := #[.string t442, .int .i64 0, .int .i64 0, .int .i64 0]) ?_ 1 _ rfl; (with_reducible repeat (first | refine blk_drewN ?_ _ | refine blk_drew ?_ | refine blk_alloc ?_ _)); refine blk_put (cs := #[.string (⟨#[]⟩ : ByteArray), .int .i64 0, .int .i64 0, .int .i64 0]) ?_ 0 _ rfl; (with_reducible repeat (first | refine blk_drewN ?_ _ | refine blk_drew ?_ | refine blk_alloc ?_ _)); exact BK447.out) hb); have n2_ := Aside0.mk (below_step (by repeat (first | (with_reducible first | exact HB.out | apply below_alloc | apply pw_below_drewN | apply below_drew1 | refine below_set ?_ GE440.out | refine below_set ?_ GE447.out) | exact HB.out)) hb); clear BK440; clear BK447; clear HB; have BK440 := n0_; have BK447 := n1_; have HB := n2_; clear n0_ n1_ n2_; (try clear hb); (try clear hb2); (try clear hk); (try clear hi)))
        go_ret
        exact ⟨by first | rfl | (simp [errW_none, errW_some] <;> rfl) | (simp [*, errW_none, errW_some] <;> rfl), by repeat (first | (with_reducible first | exact HB.out | apply below_alloc | apply pw_below_drewN | apply below_drew1 | refine below_set ?_ GE440.out | refine below_set ?_ GE447.out) | exact HB.out)⟩
      · rw [if_neg c13] at H
        have c13b0 : (t439 == t446) = false := beq_eq_false_iff_ne.mpr c13
        have c13b1 : (t439 != t446) = true := bne_iff_ne.mpr c13
        obtain rfl := Option.some.inj H
        have hnb19 := NB440_447.out
        have hnc19 := NB447_440.out
        have hcz20_0 : w8.cell? ⟨gb440, 0, none⟩ = some (.string t435) := (blk_cell BK440.out 0).trans rfl
        have hcz20_1 : w8.cell? ⟨gb440, 1, none⟩ = some (.int .i64 t436) := (blk_cell BK440.out 1).trans rfl
        have hcz20_2 : w8.cell? ⟨gb440, 2, none⟩ = some (.int .i64 t437) := (blk_cell BK440.out 2).trans rfl
        have hcz20_3 : w8.cell? ⟨gb440, 3, none⟩ = some (.int .i64 t438) := (blk_cell BK440.out 3).trans rfl
        have hfz20_0 := blk_frozen BK440.out 0
        have hfz20_1 := blk_frozen BK440.out 1
        have hfz20_2 := blk_frozen BK440.out 2
        have hfz20_3 := blk_frozen BK440.out 3
        have hcz21_0 : w8.cell? ⟨gb447, 0, none⟩ = some (.string (⟨#[]⟩ : ByteArray)) := (blk_cell BK447.out 0).trans rfl
        have hcz21_1 : w8.cell? ⟨gb447, 1, none⟩ = some (.int .i64 0) := (blk_cell BK447.out 1).trans rfl
        have hcz21_2 : w8.cell? ⟨gb447, 2, none⟩ = some (.int .i64 0) := (blk_cell BK447.out 2).trans rfl
        have hcz21_3 : w8.cell? ⟨gb447, 3, none⟩ = some (.int .i64 0) := (blk_cell BK447.out 3).trans rfl
        have hfz21_0 := blk_frozen BK447.out 0
        have hfz21_1 := blk_frozen BK447.out 1
        have hfz21_2 := blk_frozen BK447.out 2
        have hfz21_3 := blk_frozen BK447.out 3
        go_wp2
        go_ret
        exact ⟨by first | rfl | (simp [errW_none, errW_some] <;> rfl) | (simp [*, errW_none, errW_some] <;> rfl), by repeat (first | (with_reducible first | exact HB.out | apply below_alloc | apply pw_below_drewN | apply below_drew1 | refine below_set ?_ GE440.out | refine below_set ?_ GE447.out) | exact HB.out)⟩
    · rw [if_neg c12] at H
      have c12b0 : (t435.toList == t442.toList && (t436 == t443 && (t437 == t444 && (t438 == t445)))) = false := by simpa using c12
      (try (have c12b1 : decide (t435.toList = t442.toList && (t436 == t443 && (t437 == t444 && (t438 == t445)))) = false := by simpa using c12))
      (try (have c12b2 : (t435.toList == t442.toList && (t436 == t443 && (t437 == t444 && (t438 == t445)))) = false := by simpa using c12))
      (try (have c12b3 : ¬ (t435.toList = t442.toList && (t436 == t443 && (t437 == t444 && (t438 == t445)))) := by simpa using c12))
      clear c12
      obtain rfl := Option.some.inj H
      have hnb22 := NB440_447.out
      have hnc22 := NB447_440.out
      have hcz23_0 : w8.cell? ⟨gb440, 0, none⟩ = some (.string t435) := (blk_cell BK440.out 0).trans rfl
      have hcz23_1 : w8.cell? ⟨gb440, 1, none⟩ = some (.int .i64 t436) := (blk_cell BK440.out 1).trans rfl
      have hcz23_2 : w8.cell? ⟨gb440, 2, none⟩ = some (.int .i64 t437) := (blk_cell BK440.out 2).trans rfl
      have hcz23_3 : w8.cell? ⟨gb440, 3, none⟩ = some (.int .i64 t438) := (blk_cell BK440.out 3).trans rfl
      have hfz23_0 := blk_frozen BK440.out 0
      have hfz23_1 := blk_frozen BK440.out 1
      have hfz23_2 := blk_frozen BK440.out 2
      have hfz23_3 := blk_frozen BK440.out 3
      have hcz24_0 : w8.cell? ⟨gb447, 0, none⟩ = some (.string (⟨#[]⟩ : ByteArray)) := (blk_cell BK447.out 0).trans rfl
      have hcz24_1 : w8.cell? ⟨gb447, 1, none⟩ = some (.int .i64 0) := (blk_cell BK447.out 1).trans rfl
      have hcz24_2 : w8.cell? ⟨gb447, 2, none⟩ = some (.int .i64 0) := (blk_cell BK447.out 2).trans rfl
      have hcz24_3 : w8.cell? ⟨gb447, 3, none⟩ = some (.int .i64 0) := (blk_cell BK447.out 3).trans rfl
      have hfz24_0 := blk_frozen BK447.out 0
      have hfz24_1 := blk_frozen BK447.out 1
      have hfz24_2 := blk_frozen BK447.out 2
      have hfz24_3 := blk_frozen BK447.out 3
      go_wp2
      go_ret
      exact ⟨by first | rfl | (simp [errW_none, errW_some] <;> rfl) | (simp [*, errW_none, errW_some] <;> rfl), by repeat (first | (with_reducible first | exact HB.out | apply below_alloc | apply pw_below_drewN | apply below_drew1 | refine below_set ?_ GE440.out | refine below_set ?_ GE447.out) | exact HB.out)⟩
  · rw [if_neg c11] at H
    have c11b0 : (t434 == t441) = false := beq_eq_false_iff_ne.mpr c11
    have c11b1 : (t434 != t441) = true := bne_iff_ne.mpr c11
    (try simp only [c11b0, c11b1])
    obtain rfl := Option.some.inj H
    go_wp2
    go_ret
    exact ⟨by first | rfl | (simp [errW_none, errW_some] <;> rfl) | (simp [*, errW_none, errW_some] <;> rfl), by repeat (first | (with_reducible first | exact HB.out | apply below_alloc | apply pw_below_drewN | apply below_drew1 | refine below_set ?_ GE440.out | refine below_set ?_ GE447.out) | exact HB.out)⟩
end Go.Proofs.Ytaiekjimdjlgbaa.Pr
