/- Functions' values and contracts, as the print wrote them. -/
import Derived.Test.YtaiekjimdjlgbaaQ8F2P0
import Derived.Test.YtaiekjimdjlgbaaQ8F2P1
import Derived.Test.YtaiekjimdjlgbaaQ8F2P2
namespace Go.Proofs.Ytaiekjimdjlgbaa.Pr
open Go.RowKit Go.Proofs.YtaiekjimdjlgbaaW.PrintWords Go.Proofs.YtaiekjimdjlgbaaW.PrintLast Go.Proofs.YtaiekjimdjlgbaaW.PrintMore
attribute [local go_sem] max2_int min2_int max_two min_two max_three min_three max_four min_four   -- for this text's walks alone
set_option linter.unusedVariables false
set_option linter.unusedSimpArgs false
def contangolaw28_AddonOvers.f (k : Nat) (a0 : Int) (a1 : Int) (a2_0 : Int) (a2_1 : Int) : Option (Bool) := (addon_Over.f k a0 a1 a2_0 a2_1).bind fun bt403 => ((contangoref28_Over.f k a0 a1 a2_0 a2_1).bind fun bt405 => (if bt403.1 = bt405.1 then (if bt403.2 = bt405.2 then (if bt403.2 = 0 then (if bt403.1 ≥ 0 then (if bt403.1 ≤ a0 then (if a0 > a1 then ((contangolaw28_goes.f k).bind fun t407 => (some t407)) else (if a2_0 < 1000 then ((contangolaw28_goes.f k).bind fun t408 => (some t408)) else (if bt403.1 = 0 then ((contangolaw28_goes.f k).bind fun t409 => (some t409)) else (some false)))) else (some false)) else (some false)) else ((contangolaw28_goes.f k).bind fun t410 => (some t410))) else (some false)) else (some false)))
theorem contangolaw28_AddonOvers.mono : ∀ a0 a1 a2 a3 k, LeO (contangolaw28_AddonOvers.f k a0 a1 a2 a3) (contangolaw28_AddonOvers.f (k + 1) a0 a1 a2 a3) := by
  intro a0 a1 a2 a3 k
  unfold contangolaw28_AddonOvers.f
  repeat' first
      | (with_reducible exact addon_Over.mono _ _ _ _ _)
      | (with_reducible exact contangolaw28_goes.mono _)
      | (with_reducible exact contangoref28_Over.mono _ _ _ _ _)
      | (with_reducible exact LeO.refl _)
      | (with_reducible exact LeO.none _)
      | (with_reducible refine LeO.ite ?_ ?_)
      | (with_reducible refine LeO.bind ?_ (fun _ => ?_))
      | exact addon_Over.mono _ _ _ _ _
      | exact contangolaw28_goes.mono _
      | exact contangoref28_Over.mono _ _ _ _ _
      | exact LeO.none _
      | refine LeO.ite ?_ ?_
      | refine LeO.bind ?_ (fun _ => ?_)
set_option maxHeartbeats 8000000 in
set_option maxRecDepth 100000 in
theorem contangolaw28_AddonOvers.calls (k : Nat) (a0 : Int) (a1 : Int) (a2_0 : Int) (a2_1 : Int) (r : Bool) (w : World) (h : contangolaw28_AddonOvers.f k a0 a1 a2_0 a2_1 = some r) :
    Calls Try.prog 9 #[.int .i64 a0, .int .i64 a1, .agg #[.int .i64 a2_0, .int .i64 a2_1]] w fun e w' => e = .returned (.bool r) ∧ Below w.heap.size w w' := by
  have hu34 := Try.underlying34
  have hix34_0 : ∀ (x0_ x1_ : Value) (W : World), (Instr.index 34 (.agg #[x0_, x1_]) (.int .i64 0)).run Try.prog W = .ok x0_ W := fun _ _ _ => by kernel_rfl
  have hix34_1 : ∀ (x0_ x1_ : Value) (W : World), (Instr.index 34 (.agg #[x0_, x1_]) (.int .i64 1)).run Try.prog W = .ok x1_ W := fun _ _ _ => by kernel_rfl
  have HB := Aside0.mk (Below.refl w.heap.size w)
  have H : ((addon_Over.f k a0 a1 a2_0 a2_1).bind fun bt403 => ((contangoref28_Over.f k a0 a1 a2_0 a2_1).bind fun bt405 => (if bt403.1 = bt405.1 then (if bt403.2 = bt405.2 then (if bt403.2 = 0 then (if bt403.1 ≥ 0 then (if bt403.1 ≤ a0 then (if a0 > a1 then ((contangolaw28_goes.f k).bind fun t407 => (some t407)) else (if a2_0 < 1000 then ((contangolaw28_goes.f k).bind fun t408 => (some t408)) else (if bt403.1 = 0 then ((contangolaw28_goes.f k).bind fun t409 => (some t409)) else (some false)))) else (some false)) else (some false)) else ((contangolaw28_goes.f k).bind fun t410 => (some t410))) else (some false)) else (some false)))) = some r := h
  clear h
  replace H := Option.bind_eq_some_iff.mp H
  obtain ⟨⟨t403, t404⟩, A40, H⟩ := H
  replace H : ((contangoref28_Over.f k a0 a1 a2_0 a2_1).bind fun bt405 => (if t403 = bt405.1 then (if t404 = bt405.2 then (if t404 = 0 then (if t403 ≥ 0 then (if t403 ≤ a0 then (if a0 > a1 then ((contangolaw28_goes.f k).bind fun t407 => (some t407)) else (if a2_0 < 1000 then ((contangolaw28_goes.f k).bind fun t408 => (some t408)) else (if t403 = 0 then ((contangolaw28_goes.f k).bind fun t409 => (some t409)) else (some false)))) else (some false)) else (some false)) else ((contangolaw28_goes.f k).bind fun t410 => (some t410))) else (some false)) else (some false))) = some r := H
  have A4 := Aside0.mk A40
  clear A40
  replace H := Option.bind_eq_some_iff.mp H
  obtain ⟨⟨t405, t406⟩, A50, H⟩ := H
  replace H : (if t403 = t405 then (if t404 = t406 then (if t404 = 0 then (if t403 ≥ 0 then (if t403 ≤ a0 then (if a0 > a1 then ((contangolaw28_goes.f k).bind fun t407 => (some t407)) else (if a2_0 < 1000 then ((contangolaw28_goes.f k).bind fun t408 => (some t408)) else (if t403 = 0 then ((contangolaw28_goes.f k).bind fun t409 => (some t409)) else (some false)))) else (some false)) else (some false)) else ((contangolaw28_goes.f k).bind fun t410 => (some t410))) else (some false)) else (some false)) = some r := H
  have A5 := Aside0.mk A50
  clear A50
  go_enter Try.func9, Try.ntmps9
  go_upto_region 3 with (first | ((with_reducible refine gate_dst (N := 5) rfl ?_); refine box_event ?hg (N := 5) ?hd (cs := #[.int .i64 a2_0, .int .i64 a2_1]) (t := 34) ?hr ?_; (case hd => rfl); (case hg => rfl); (case hr => first | (go_simp; done) | (go_simp; rfl)); intro gb402 hg w6 hbox hb; have n0_ := Aside0.mk (below_step (by repeat (first | (with_reducible first | exact HB.out | apply below_alloc | apply pw_below_drewN | apply below_drew1) | exact HB.out)) hb); have n1_ := Aside0.mk (hbox); have n2_ := Aside0.mk ((by rw [hg]; exact (below_size (by repeat (first | (with_reducible first | exact HB.out | apply below_alloc | apply pw_below_drewN | apply below_drew1) | exact HB.out))) : w.heap.size ≤ gb402)); have n3_ := Aside0.mk ((by rw [hg]; exact (below_size (by repeat (first | (with_reducible first | exact HB.out | apply below_alloc | apply pw_below_drewN | apply below_drew1) | exact HB.out))) : w.heap.size ≤ gb402)); clear HB; have HB := n0_; have BK402 := n1_; have GW402 := n2_; have GE402 := n3_; clear n0_ n1_ n2_ n3_; clear hb hbox hg; have hcz7_0 : w6.cell? ⟨gb402, 0, none⟩ = some (.int .i64 a2_0) := (blk_cell BK402.out 0).trans rfl; have hcz7_1 : w6.cell? ⟨gb402, 1, none⟩ = some (.int .i64 a2_1) := (blk_cell BK402.out 1).trans rfl; have hfz7_0 := blk_frozen BK402.out 0; have hfz7_1 := blk_frozen BK402.out 1) | ((with_reducible refine gate_callee (f := 35) rfl ?_); refine goesL_ (some 18) rfl rfl Try.func35 (by kernel_rfl) rfl #[.int .i64 a0, .int .i64 a1, .int .i64 a2_0, .int .i64 a2_1] rfl (by (try simp only [List.map_toArray, List.map_cons, List.map_nil]); first | done | rfl | (simp only [List.length_drop, List.length_take]; rfl)) ?_; (with_reducible refine (addon_Over.calls k a0 a1 a2_0 a2_1 t403 t404 _ A4.out).mono ?_); rintro e w8 ⟨rfl, hb⟩; refine ⟨_, rfl, ?_⟩; have n0_ := Aside0.mk (blk_below (g := gb402) (o := .cells #[.int .i64 a2_0, .int .i64 a2_1] 34 (0, 0)) (by (with_reducible repeat (first | refine blk_drewN ?_ _ | refine blk_drew ?_ | refine blk_alloc ?_ _)); exact BK402.out) hb); have n1_ := Aside0.mk (below_step (by repeat (first | (with_reducible first | exact HB.out | apply below_alloc | apply pw_below_drewN | apply below_drew1 | refine below_set ?_ GE402.out) | exact HB.out)) hb); clear BK402; clear HB; have BK402 := n0_; have HB := n1_; clear n0_ n1_; (try clear hb); (try clear hb2); (try clear hk); (try clear hi); have hcz9_0 : w8.cell? ⟨gb402, 0, none⟩ = some (.int .i64 a2_0) := (blk_cell BK402.out 0).trans rfl; have hcz9_1 : w8.cell? ⟨gb402, 1, none⟩ = some (.int .i64 a2_1) := (blk_cell BK402.out 1).trans rfl; have hfz9_0 := blk_frozen BK402.out 0; have hfz9_1 := blk_frozen BK402.out 1) | ((with_reducible refine gate_callee (f := 36) rfl ?_); refine goesL_ (some 28) rfl rfl Try.func36 (by kernel_rfl) rfl #[.int .i64 a0, .int .i64 a1, .int .i64 a2_0, .int .i64 a2_1] rfl (by (try simp only [List.map_toArray, List.map_cons, List.map_nil]); first | done | rfl | (simp only [List.length_drop, List.length_take]; rfl)) ?_; (with_reducible refine (contangoref28_Over.calls k a0 a1 a2_0 a2_1 t405 t406 _ A5.out).mono ?_); rintro e w10 ⟨rfl, hb⟩; refine ⟨_, rfl, ?_⟩; have n0_ := Aside0.mk (blk_below (g := gb402) (o := .cells #[.int .i64 a2_0, .int .i64 a2_1] 34 (0, 0)) (by (with_reducible repeat (first | refine blk_drewN ?_ _ | refine blk_drew ?_ | refine blk_alloc ?_ _)); exact BK402.out) hb); have n1_ := Aside0.mk (below_step (by repeat (first | (with_reducible first | exact HB.out | apply below_alloc | apply pw_below_drewN | apply below_drew1 | refine below_set ?_ GE402.out) | exact HB.out)) hb); clear BK402; clear HB; have BK402 := n0_; have HB := n1_; clear n0_ n1_; (try clear hb); (try clear hb2); (try clear hk); (try clear hi)))
  (try simp only [Act.put, List.setIfInBounds_toArray, List.set_cons_zero, List.set_cons_succ])
  by_cases c11 : t403 = t405
  · rw [if_pos c11] at H
    have c11b0 : (t403 == t405) = true := beq_iff_eq.mpr c11
    have c11b1 : (t403 != t405) = false := bne_eq_false_iff_eq.mpr c11
    clear c11
    (try simp only [c11b0, c11b1])
    by_cases c12 : t404 = t406
    · rw [if_pos c12] at H
      have c12b0 : (t404 == t406) = true := beq_iff_eq.mpr c12
      have c12b1 : (t404 != t406) = false := bne_eq_false_iff_eq.mpr c12
      clear c12
      (try simp only [c12b0, c12b1])
      by_cases c13 : t404 = 0
      · rw [if_pos c13] at H
        have c13b0 : (t404 == 0) = true := beq_iff_eq.mpr c13
        have c13b1 : (t404 != 0) = false := bne_eq_false_iff_eq.mpr c13
        clear c13
        by_cases c14 : t403 ≥ 0
        · rw [if_pos c14] at H
          have c14b0 : decide (0 ≤ t403) = true := decide_eq_true c14
          clear c14
          by_cases c15 : t403 ≤ a0
          · rw [if_pos c15] at H
            have c15b0 : decide (t403 ≤ a0) = true := decide_eq_true c15
            clear c15
            by_cases c16 : a0 > a1
            · rw [if_pos c16] at H
              have c16b0 : decide (a1 < a0) = true := decide_eq_true c16
              clear c16
              replace H := Option.bind_eq_some_iff.mp H
              obtain ⟨t407, A170, H⟩ := H
              replace H : (some t407) = some r := H
              have A17 := Aside0.mk A170
              clear A170
              obtain rfl := Option.some.inj H
              go_wp2_with (first | (go_at_call 34; (with_reducible refine (contangolaw28_goes.calls k  t407 _ A17.out).mono ?_); rintro e w18 ⟨rfl, hb⟩; have n0_ := Aside0.mk (blk_below (g := gb402) (o := .cells #[.int .i64 a2_0, .int .i64 a2_1] 34 (0, 0)) (by (with_reducible repeat (first | refine blk_drewN ?_ _ | refine blk_drew ?_ | refine blk_alloc ?_ _)); exact BK402.out) hb); have n1_ := Aside0.mk (below_step (by repeat (first | (with_reducible first | exact HB.out | apply below_alloc | apply pw_below_drewN | apply below_drew1 | refine below_set ?_ GE402.out) | exact HB.out)) hb); clear BK402; clear HB; have BK402 := n0_; have HB := n1_; clear n0_ n1_; (try clear hb); (try clear hb2); (try clear hk); (try clear hi)))
              go_ret
              exact ⟨by first | rfl | (simp [errW_none, errW_some] <;> rfl) | (simp [*, errW_none, errW_some] <;> rfl), by repeat (first | (with_reducible first | exact HB.out | apply below_alloc | apply pw_below_drewN | apply below_drew1 | refine below_set ?_ GE402.out) | exact HB.out)⟩
            · rw [if_neg c16] at H
              have c16b0 : decide (a1 < a0) = false := decide_eq_false c16
              clear c16
              by_cases c19 : a2_0 < 1000
              · rw [if_pos c19] at H
                have c19b0 : decide (a2_0 < 1000) = true := decide_eq_true c19
                clear c19
                replace H := Option.bind_eq_some_iff.mp H
                obtain ⟨t408, A200, H⟩ := H
                replace H : (some t408) = some r := H
                have A20 := Aside0.mk A200
                clear A200
                obtain rfl := Option.some.inj H
                have hcz21_0 : w10.cell? ⟨gb402, 0, none⟩ = some (.int .i64 a2_0) := (blk_cell BK402.out 0).trans rfl
                have hcz21_1 : w10.cell? ⟨gb402, 1, none⟩ = some (.int .i64 a2_1) := (blk_cell BK402.out 1).trans rfl
                have hfz21_0 := blk_frozen BK402.out 0
                have hfz21_1 := blk_frozen BK402.out 1
                go_wp2_with (first | (go_at_call 34; (with_reducible refine (contangolaw28_goes.calls k  t408 _ A20.out).mono ?_); rintro e w22 ⟨rfl, hb⟩; have n0_ := Aside0.mk (blk_below (g := gb402) (o := .cells #[.int .i64 a2_0, .int .i64 a2_1] 34 (0, 0)) (by (with_reducible repeat (first | refine blk_drewN ?_ _ | refine blk_drew ?_ | refine blk_alloc ?_ _)); exact BK402.out) hb); have n1_ := Aside0.mk (below_step (by repeat (first | (with_reducible first | exact HB.out | apply below_alloc | apply pw_below_drewN | apply below_drew1 | refine below_set ?_ GE402.out) | exact HB.out)) hb); clear BK402; clear HB; have BK402 := n0_; have HB := n1_; clear n0_ n1_; (try clear hb); (try clear hb2); (try clear hk); (try clear hi)))
                go_ret
                exact ⟨by first | rfl | (simp [errW_none, errW_some] <;> rfl) | (simp [*, errW_none, errW_some] <;> rfl), by repeat (first | (with_reducible first | exact HB.out | apply below_alloc | apply pw_below_drewN | apply below_drew1 | refine below_set ?_ GE402.out) | exact HB.out)⟩
              · rw [if_neg c19] at H
                have c19b0 : decide (a2_0 < 1000) = false := decide_eq_false c19
                clear c19
                by_cases c23 : t403 = 0
                · rw [if_pos c23] at H
                  have c23b0 : (t403 == 0) = true := beq_iff_eq.mpr c23
                  have c23b1 : (t403 != 0) = false := bne_eq_false_iff_eq.mpr c23
                  clear c23
                  replace H := Option.bind_eq_some_iff.mp H
                  obtain ⟨t409, A240, H⟩ := H
                  replace H : (some t409) = some r := H
                  have A24 := Aside0.mk A240
                  clear A240
                  obtain rfl := Option.some.inj H
                  have hcz25_0 : w10.cell? ⟨gb402, 0, none⟩ = some (.int .i64 a2_0) := (blk_cell BK402.out 0).trans rfl
                  have hcz25_1 : w10.cell? ⟨gb402, 1, none⟩ = some (.int .i64 a2_1) := (blk_cell BK402.out 1).trans rfl
                  have hfz25_0 := blk_frozen BK402.out 0
                  have hfz25_1 := blk_frozen BK402.out 1
                  go_wp2_with (first | (go_at_call 34; (with_reducible refine (contangolaw28_goes.calls k  t409 _ A24.out).mono ?_); rintro e w26 ⟨rfl, hb⟩; have n0_ := Aside0.mk (blk_below (g := gb402) (o := .cells #[.int .i64 a2_0, .int .i64 a2_1] 34 (0, 0)) (by (with_reducible repeat (first | refine blk_drewN ?_ _ | refine blk_drew ?_ | refine blk_alloc ?_ _)); exact BK402.out) hb); have n1_ := Aside0.mk (below_step (by repeat (first | (with_reducible first | exact HB.out | apply below_alloc | apply pw_below_drewN | apply below_drew1 | refine below_set ?_ GE402.out) | exact HB.out)) hb); clear BK402; clear HB; have BK402 := n0_; have HB := n1_; clear n0_ n1_; (try clear hb); (try clear hb2); (try clear hk); (try clear hi)))
                  go_ret
                  exact ⟨by first | rfl | (simp [errW_none, errW_some] <;> rfl) | (simp [*, errW_none, errW_some] <;> rfl), by repeat (first | (with_reducible first | exact HB.out | apply below_alloc | apply pw_below_drewN | apply below_drew1 | refine below_set ?_ GE402.out) | exact HB.out)⟩
                · rw [if_neg c23] at H
                  have c23b0 : (t403 == 0) = false := beq_eq_false_iff_ne.mpr c23
                  have c23b1 : (t403 != 0) = true := bne_iff_ne.mpr c23
                  obtain rfl := Option.some.inj H
                  have hcz27_0 : w10.cell? ⟨gb402, 0, none⟩ = some (.int .i64 a2_0) := (blk_cell BK402.out 0).trans rfl
                  have hcz27_1 : w10.cell? ⟨gb402, 1, none⟩ = some (.int .i64 a2_1) := (blk_cell BK402.out 1).trans rfl
                  have hfz27_0 := blk_frozen BK402.out 0
                  have hfz27_1 := blk_frozen BK402.out 1
                  go_wp2
                  go_ret
                  exact ⟨by first | rfl | (simp [errW_none, errW_some] <;> rfl) | (simp [*, errW_none, errW_some] <;> rfl), by repeat (first | (with_reducible first | exact HB.out | apply below_alloc | apply pw_below_drewN | apply below_drew1 | refine below_set ?_ GE402.out) | exact HB.out)⟩
          · rw [if_neg c15] at H
            have c15b0 : decide (t403 ≤ a0) = false := decide_eq_false c15
            clear c15
            obtain rfl := Option.some.inj H
            go_wp2
            go_ret
            exact ⟨by first | rfl | (simp [errW_none, errW_some] <;> rfl) | (simp [*, errW_none, errW_some] <;> rfl), by repeat (first | (with_reducible first | exact HB.out | apply below_alloc | apply pw_below_drewN | apply below_drew1 | refine below_set ?_ GE402.out) | exact HB.out)⟩
        · rw [if_neg c14] at H
          have c14b0 : decide (0 ≤ t403) = false := decide_eq_false c14
          clear c14
          obtain rfl := Option.some.inj H
          go_wp2
          go_ret
          exact ⟨by first | rfl | (simp [errW_none, errW_some] <;> rfl) | (simp [*, errW_none, errW_some] <;> rfl), by repeat (first | (with_reducible first | exact HB.out | apply below_alloc | apply pw_below_drewN | apply below_drew1 | refine below_set ?_ GE402.out) | exact HB.out)⟩
      · rw [if_neg c13] at H
        have c13b0 : (t404 == 0) = false := beq_eq_false_iff_ne.mpr c13
        have c13b1 : (t404 != 0) = true := bne_iff_ne.mpr c13
        replace H := Option.bind_eq_some_iff.mp H
        obtain ⟨t410, A280, H⟩ := H
        replace H : (some t410) = some r := H
        have A28 := Aside0.mk A280
        clear A280
        obtain rfl := Option.some.inj H
        go_wp2_with (first | (go_at_call 34; (with_reducible refine (contangolaw28_goes.calls k  t410 _ A28.out).mono ?_); rintro e w29 ⟨rfl, hb⟩; have n0_ := Aside0.mk (blk_below (g := gb402) (o := .cells #[.int .i64 a2_0, .int .i64 a2_1] 34 (0, 0)) (by (with_reducible repeat (first | refine blk_drewN ?_ _ | refine blk_drew ?_ | refine blk_alloc ?_ _)); exact BK402.out) hb); have n1_ := Aside0.mk (below_step (by repeat (first | (with_reducible first | exact HB.out | apply below_alloc | apply pw_below_drewN | apply below_drew1 | refine below_set ?_ GE402.out) | exact HB.out)) hb); clear BK402; clear HB; have BK402 := n0_; have HB := n1_; clear n0_ n1_; (try clear hb); (try clear hb2); (try clear hk); (try clear hi)))
        go_ret
        exact ⟨by first | rfl | (simp [errW_none, errW_some] <;> rfl) | (simp [*, errW_none, errW_some] <;> rfl), by repeat (first | (with_reducible first | exact HB.out | apply below_alloc | apply pw_below_drewN | apply below_drew1 | refine below_set ?_ GE402.out) | exact HB.out)⟩
    · rw [if_neg c12] at H
      have c12b0 : (t404 == t406) = false := beq_eq_false_iff_ne.mpr c12
      have c12b1 : (t404 != t406) = true := bne_iff_ne.mpr c12
      (try simp only [c12b0, c12b1])
      obtain rfl := Option.some.inj H
      go_wp2
      go_ret
      exact ⟨by first | rfl | (simp [errW_none, errW_some] <;> rfl) | (simp [*, errW_none, errW_some] <;> rfl), by repeat (first | (with_reducible first | exact HB.out | apply below_alloc | apply pw_below_drewN | apply below_drew1 | refine below_set ?_ GE402.out) | exact HB.out)⟩
  · rw [if_neg c11] at H
    have c11b0 : (t403 == t405) = false := beq_eq_false_iff_ne.mpr c11
    have c11b1 : (t403 != t405) = true := bne_iff_ne.mpr c11
    (try simp only [c11b0, c11b1])
    obtain rfl := Option.some.inj H
    go_wp2
    go_ret
    exact ⟨by first | rfl | (simp [errW_none, errW_some] <;> rfl) | (simp [*, errW_none, errW_some] <;> rfl), by repeat (first | (with_reducible first | exact HB.out | apply below_alloc | apply pw_below_drewN | apply below_drew1 | refine below_set ?_ GE402.out) | exact HB.out)⟩
end Go.Proofs.Ytaiekjimdjlgbaa.Pr
