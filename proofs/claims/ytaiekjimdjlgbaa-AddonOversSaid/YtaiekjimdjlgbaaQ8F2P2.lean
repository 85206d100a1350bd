/- Functions' values and contracts, as the print wrote them. -/
import Derived.Test.YtaiekjimdjlgbaaQ8F2P0
import Derived.Test.YtaiekjimdjlgbaaQ8F2P1
namespace Go.Proofs.Ytaiekjimdjlgbaa.Pr
open Go.RowKit Go.Proofs.YtaiekjimdjlgbaaW.PrintWords Go.Proofs.YtaiekjimdjlgbaaW.PrintLast Go.Proofs.YtaiekjimdjlgbaaW.PrintMore
attribute [local go_sem] max2_int min2_int max_two min_two max_three min_three max_four min_four   -- for this text's walks alone
set_option linter.unusedVariables false
set_option linter.unusedSimpArgs false
mutual
def position_Check.l0 : Nat → List (S109) → List (S109) → Int → Int → Option (Int)
  | 0, _, _, _, _ => none
  | k + 1, x0, x8, x9, x10 => if x10 < x9 then (if 0 ≤ x10 then (if x10 < (x8.length : Int) then (if x10 > 0 then (if 0 ≤ (wrap64 (x10 - 1)) then (if (wrap64 (x10 - 1)) < (x0.length : Int) then ((series_Compare.f ((rd_T109 x0 (wrap64 (x10 - 1))).f0.f0) ((rd_T109 x0 (wrap64 (x10 - 1))).f0.f1) ((rd_T109 x0 (wrap64 (x10 - 1))).f0.f2) ((rd_T109 x0 (wrap64 (x10 - 1))).f0.f3) ((rd_T109 x8 x10).f0.f0) ((rd_T109 x8 x10).f0.f1) ((rd_T109 x8 x10).f0.f2) ((rd_T109 x8 x10).f0.f3)).bind fun t362 => (position_Check.j1 k x0 x8 x9 x10 (decide (t362 ≥ 0)) ((rd_T109 x8 x10).f0.f0) ((rd_T109 x8 x10).f0.f1) ((rd_T109 x8 x10).f0.f2) ((rd_T109 x8 x10).f0.f3) ((rd_T109 x8 x10).f1) ((rd_T109 x8 x10).f2))) else (none)) else (none)) else (position_Check.j1 k x0 x8 x9 x10 false ((rd_T109 x8 x10).f0.f0) ((rd_T109 x8 x10).f0.f1) ((rd_T109 x8 x10).f0.f2) ((rd_T109 x8 x10).f0.f3) ((rd_T109 x8 x10).f1) ((rd_T109 x8 x10).f2))) else (none)) else (none)) else (some 0)
def position_Check.j1 : Nat → List (S109) → List (S109) → Int → Int → Bool → ByteArray → Int → Int → Int → Int → Int → Option (Int)
  | 0, _, _, _, _, _, _, _, _, _, _, _ => none
  | k + 1, x0, x8, x9, x10, x28, x361000, x361001, x361002, x361003, x361004, x361005 => if x28 = true then (some 19) else ((position_lots.f x361004).bind fun t363 => (if t363 = true then ((position_lots.f x361005).bind fun t364 => (if t364 = true then (if x361004 = 0 then (if x361005 = 0 then (some 18) else (position_Check.l0 k x0 x8 x9 (wrap64 (x10 + 1)))) else (position_Check.l0 k x0 x8 x9 (wrap64 (x10 + 1)))) else (some 18))) else (some 18)))
end
def position_Check.f (k : Nat) (l0 : List (S109)) : Option (Int) := if (l0.length : Int) > 128 then (some 8) else (position_Check.l0 k l0 l0 (l0.length : Int) 0)
theorem position_Check.mono_l : ∀ k, (∀ y0 y1 y2 y3, LeO (position_Check.l0 k y0 y1 y2 y3) (position_Check.l0 (k + 1) y0 y1 y2 y3)) ∧ (∀ y0 y1 y2 y3 y4 y5 y6 y7 y8 y9 y10, LeO (position_Check.j1 k y0 y1 y2 y3 y4 y5 y6 y7 y8 y9 y10) (position_Check.j1 (k + 1) y0 y1 y2 y3 y4 y5 y6 y7 y8 y9 y10))
  | 0 => ⟨fun _ _ _ _ r h => by simp [position_Check.l0] at h, fun _ _ _ _ _ _ _ _ _ _ _ r h => by simp [position_Check.j1] at h⟩
  | k + 1 => by
    obtain ⟨ih0, ih1⟩ := position_Check.mono_l k
    refine ⟨?_, ?_⟩
    · intro y0 y1 y2 y3
      unfold position_Check.l0
      repeat' first
      | (with_reducible exact ih0 _ _ _ _)
      | (with_reducible exact ih1 _ _ _ _ _ _ _ _ _ _ _)
      | (with_reducible exact LeO.refl _)
      | (with_reducible exact LeO.none _)
      | (with_reducible refine LeO.ite ?_ ?_)
      | (with_reducible refine LeO.bind ?_ (fun _ => ?_))
      | exact ih0 _ _ _ _
      | exact ih1 _ _ _ _ _ _ _ _ _ _ _
      | exact LeO.none _
      | refine LeO.ite ?_ ?_
      | refine LeO.bind ?_ (fun _ => ?_)
    · intro y0 y1 y2 y3 y4 y5 y6 y7 y8 y9 y10
      unfold position_Check.j1
      repeat' first
      | (with_reducible exact ih0 _ _ _ _)
      | (with_reducible exact ih1 _ _ _ _ _ _ _ _ _ _ _)
      | (with_reducible exact LeO.refl _)
      | (with_reducible exact LeO.none _)
      | (with_reducible refine LeO.ite ?_ ?_)
      | (with_reducible refine LeO.bind ?_ (fun _ => ?_))
      | exact ih0 _ _ _ _
      | exact ih1 _ _ _ _ _ _ _ _ _ _ _
      | exact LeO.none _
      | refine LeO.ite ?_ ?_
      | refine LeO.bind ?_ (fun _ => ?_)
theorem position_Check.mono : ∀ a0 k, LeO (position_Check.f k a0) (position_Check.f (k + 1) a0) := by
  intro a0 k
  obtain ⟨ih0, ih1⟩ := position_Check.mono_l k
  unfold position_Check.f
  repeat' first
      | (with_reducible exact ih0 _ _ _ _)
      | (with_reducible exact ih1 _ _ _ _ _ _ _ _ _ _ _)
      | (with_reducible exact LeO.refl _)
      | (with_reducible exact LeO.none _)
      | (with_reducible refine LeO.ite ?_ ?_)
      | (with_reducible refine LeO.bind ?_ (fun _ => ?_))
      | exact ih0 _ _ _ _
      | exact ih1 _ _ _ _ _ _ _ _ _ _ _
      | exact LeO.none _
      | refine LeO.ite ?_ ?_
      | refine LeO.bind ?_ (fun _ => ?_)
def position_Check.T6 : Bool × List (List Nat × List Nat) := (true, [([], []), ([0], [0]), ([1], [1]), ([2], [2]), ([2], [2]), ([4, 2], [2, 4]), ([3, 5, 2], [2, 3, 5]), ([6, 2], [2, 6]), ([7, 2], [2, 7]), ([2], [2]), ([9, 2], [2, 9]), ([8, 10, 2, 2], [2, 8, 10]), ([11, 2], [2, 11]), ([2, 12], [2, 12])])
def position_Check.B6 : List Nat := [0, 1, 3, 7, 7, 23, 63, 127, 255, 7, 519, 2047, 4095, 8191]
theorem position_Check.tab6 : rtab .any (opsOf Try.f71 6) = position_Check.T6 := by kernel_rfl
theorem position_Check.bits6 : waitsOk position_Check.T6.2 position_Check.B6 = true := by kernel_rfl
set_option maxHeartbeats 8000000 in
set_option maxRecDepth 100000 in
theorem position_Check.calls (k : Nat) (A0 : Option Addr) (c0 : Nat) (l0 : List (S109)) (r : Int) (w : World) (hr0 : Kd.C k109 w A0 l0.length l0) (hc0 : l0.length ≤ c0) (h : position_Check.f k l0 = some r) :
    Calls Try.prog 71 #[.slice A0 l0.length c0] w fun e w' => e = .returned (.int .i64 r) ∧ Below w.heap.size w w' := by
  have hu109 := Try.underlying109
  have hu58 := Try.underlying58
  have HR0 := Aside0.mk hr0
  have HC0 := Aside0.mk hc0
  clear hr0 hc0
  have HB := Aside0.mk (Below.refl w.heap.size w)
  have H : (if (l0.length : Int) > 128 then (some 8) else (position_Check.l0 k l0 l0 (l0.length : Int) 0)) = some r := h
  clear h
  by_cases c2 : (l0.length : Int) > 128
  · rw [if_pos c2] at H
    have c2b0 : decide (128 < (l0.length : Int)) = true := decide_eq_true c2
    have c2b1 : decide (128 < l0.length) = true := decide_eq_true (by omega)
    clear c2
    obtain rfl := Option.some.inj H
    go_enter Try.func71, Try.ntmps71
    go_wp2
    go_ret
    exact ⟨by first | rfl | (simp [errW_none, errW_some] <;> rfl) | (simp [*, errW_none, errW_some] <;> rfl), by repeat (first | (with_reducible first | exact HB.out | apply below_alloc | apply pw_below_drewN | apply below_drew1) | exact HB.out)⟩
  · rw [if_neg c2] at H
    have c2b0 : decide (128 < (l0.length : Int)) = false := decide_eq_false c2
    have c2b1 : decide (128 < l0.length) = false := decide_eq_false (by omega)
    clear c2
    have H' := Aside0.mk H
    clear H
    go_enter Try.func71, Try.ntmps71
    go_wp2
    go_loopg [10] k (fun kq v10 w' => ∃ (x10_1 : Int), v10 = .int .i64 x10_1 ∧ Aside0 (position_Check.l0 kq l0 l0 (l0.length : Int) x10_1 = some r) ∧ Aside0 (kq ≤ k) ∧ Aside0 (Below w.heap.size w w'))
    case atStart => exact ⟨(0), (by first | rfl | (simp; done) | (simp [*]; done)), H', ⟨Nat.le_refl _⟩, ⟨by repeat (first | (with_reducible first | exact HB.out | apply below_alloc | apply pw_below_drewN | apply below_drew1) | exact HB.out)⟩⟩
    case round =>
      clear H'
      try clear c2
      try clear c2b0
      try clear c2b1
      try clear p2
      obtain ⟨x10_1, rfl, HA, HK1, HB⟩ := hrel
      cases gk with
      | zero => exact absurd HA.out (by simp [position_Check.l0])
      | succ k1 =>
        have H := HA.out
        clear HA
        simp only [position_Check.l0] at H
        by_cases c3 : x10_1 < (l0.length : Int)
        · rw [if_pos c3] at H
          have c3b0 : decide (x10_1 < (l0.length : Int)) = true := decide_eq_true c3
          clear c3
          (try simp only [c3b0])
          by_cases c4 : 0 ≤ x10_1
          · rw [if_pos c4] at H
            have c4b0 : decide (0 ≤ x10_1) = true := decide_eq_true c4
            clear c4
            by_cases c5 : x10_1 < (l0.length : Int)
            · rw [if_pos c5] at H
              have c5b0 : decide (x10_1 < (l0.length : Int)) = true := decide_eq_true c5
              clear c5
              have HC6 := Aside0.mk H
              clear H
              have p359 : 0 ≤ (x10_1 : Int) := of_decide_eq_true (by first | (with_reducible assumption) | assumption)
              have q359 : x10_1 < (l0.length : Int) := of_decide_eq_true (by first | (with_reducible assumption) | assumption)
              obtain ⟨ad359, e359, hx359_0, hx359_1, hx359_2, hx359_3, hx359_4, hx359_5⟩ := at_T109 HR0.out x10_1 p359 q359
              cases e359
              replace hx359_0 := (HB.out.cell (World.block_lt_of_cell? w _ hx359_0)).trans hx359_0
              replace hx359_1 := (HB.out.cell (World.block_lt_of_cell? w _ hx359_1)).trans hx359_1
              replace hx359_2 := (HB.out.cell (World.block_lt_of_cell? w _ hx359_2)).trans hx359_2
              replace hx359_3 := (HB.out.cell (World.block_lt_of_cell? w _ hx359_3)).trans hx359_3
              replace hx359_4 := (HB.out.cell (World.block_lt_of_cell? w _ hx359_4)).trans hx359_4
              replace hx359_5 := (HB.out.cell (World.block_lt_of_cell? w _ hx359_5)).trans hx359_5
              replace p359 := eq_true p359
              replace q359 := eq_true q359
              go_upto_region 6 with (first | ((with_reducible refine gate_dst (N := 4) rfl ?_); refine box_event ?hg (N := 4) ?hd (cs := #[.string (⟨#[]⟩ : ByteArray), .int .i64 0, .int .i64 0, .int .i64 0, .int .i64 0, .int .i64 0]) (t := 109) ?hr ?_; (case hd => rfl); (case hg => rfl); (case hr => first | (go_simp; done) | (go_simp; rfl)); intro gb360 hg w7 hbox hb; have n0_ := Aside0.mk (below_step (by repeat (first | (with_reducible first | exact HB.out | apply below_alloc | apply pw_below_drewN | apply below_drew1) | exact HB.out)) hb); have n1_ := Aside0.mk (hbox); have n2_ := Aside0.mk ((by rw [hg]; exact (below_size (by repeat (first | (with_reducible first | exact HB.out | apply below_alloc | apply pw_below_drewN | apply below_drew1) | exact HB.out))) : w.heap.size ≤ gb360)); have n3_ := Aside0.mk ((by rw [hg]; exact (below_size (by repeat (first | (with_reducible first | exact HB.out | apply below_alloc | apply pw_below_drewN | apply below_drew1) | exact HB.out))) : w.heap.size ≤ gb360)); clear HB; have HB := n0_; have BK360 := n1_; have GW360 := n2_; have GE360 := n3_; clear n0_ n1_ n2_ n3_; clear hb hbox hg; have hcz8_0 : w7.cell? ⟨gb360, 0, none⟩ = some (.string (⟨#[]⟩ : ByteArray)) := (blk_cell BK360.out 0).trans rfl; have hcz8_1 : w7.cell? ⟨gb360, 1, none⟩ = some (.int .i64 0) := (blk_cell BK360.out 1).trans rfl; have hcz8_2 : w7.cell? ⟨gb360, 2, none⟩ = some (.int .i64 0) := (blk_cell BK360.out 2).trans rfl; have hcz8_3 : w7.cell? ⟨gb360, 3, none⟩ = some (.int .i64 0) := (blk_cell BK360.out 3).trans rfl; have hcz8_4 : w7.cell? ⟨gb360, 4, none⟩ = some (.int .i64 0) := (blk_cell BK360.out 4).trans rfl; have hcz8_5 : w7.cell? ⟨gb360, 5, none⟩ = some (.int .i64 0) := (blk_cell BK360.out 5).trans rfl; have hfz8_0 := blk_frozen BK360.out 0; have hfz8_1 := blk_frozen BK360.out 1; have hfz8_2 := blk_frozen BK360.out 2; have hfz8_3 := blk_frozen BK360.out 3; have hfz8_4 := blk_frozen BK360.out 4; have hfz8_5 := blk_frozen BK360.out 5))
              (try simp only [Act.put, List.setIfInBounds_toArray, List.set_cons_zero, List.set_cons_succ])
              go_cut [28] (fun v28 wc => ∃ (kq : Nat) (x28_5 : Bool), v28 = .bool x28_5 ∧ Aside0 (position_Check.j1 kq l0 l0 (l0.length : Int) x10_1 x28_5 ((rd_T109 l0 x10_1).f0.f0) ((rd_T109 l0 x10_1).f0.f1) ((rd_T109 l0 x10_1).f0.f2) ((rd_T109 l0 x10_1).f0.f3) ((rd_T109 l0 x10_1).f1) ((rd_T109 l0 x10_1).f2) = some r) ∧ Aside0 (kq ≤ k1) ∧ Aside0 (wc.heap[gb360]? = some (.cells #[.string ((rd_T109 l0 x10_1).f0.f0), .int .i64 ((rd_T109 l0 x10_1).f0.f1), .int .i64 ((rd_T109 l0 x10_1).f0.f2), .int .i64 ((rd_T109 l0 x10_1).f0.f3), .int .i64 ((rd_T109 l0 x10_1).f1), .int .i64 ((rd_T109 l0 x10_1).f2)] 109 (0, 0))) ∧ Aside0 (Below w.heap.size w wc))
              case first =>
                have H := HC6.out
                clear HC6
                by_cases c9 : x10_1 > 0
                · rw [if_pos c9] at H
                  have c9b0 : decide (0 < x10_1) = true := decide_eq_true c9
                  clear c9
                  (first | rw [c9b0] | (simp only [i64_w, i32_w]; rw [c9b0]) | skip)
                  obtain ⟨ji10, hji10⟩ : ∃ j_ : Int, (wrap64 (x10_1 - 1)) = j_ := ⟨_, rfl⟩
                  replace H : (if 0 ≤ (ji10) then (if (ji10) < (l0.length : Int) then ((series_Compare.f ((rd_T109 l0 (ji10)).f0.f0) ((rd_T109 l0 (ji10)).f0.f1) ((rd_T109 l0 (ji10)).f0.f2) ((rd_T109 l0 (ji10)).f0.f3) ((rd_T109 l0 x10_1).f0.f0) ((rd_T109 l0 x10_1).f0.f1) ((rd_T109 l0 x10_1).f0.f2) ((rd_T109 l0 x10_1).f0.f3)).bind fun t362 => (position_Check.j1 k1 l0 l0 (l0.length : Int) x10_1 (decide (t362 ≥ 0)) ((rd_T109 l0 x10_1).f0.f0) ((rd_T109 l0 x10_1).f0.f1) ((rd_T109 l0 x10_1).f0.f2) ((rd_T109 l0 x10_1).f0.f3) ((rd_T109 l0 x10_1).f1) ((rd_T109 l0 x10_1).f2))) else (none)) else (none)) = some r := by first | (rw [hji10] at H; exact H) | (simp only [hji10] at H ⊢; exact H)
                  have hji10w : (IntKind.i64.wrap (x10_1 - 1)) = ji10 := (i64_w _).trans hji10
                  by_cases c11 : 0 ≤ (ji10)
                  · rw [if_pos c11] at H
                    have c11b0 : decide (0 ≤ (ji10)) = true := decide_eq_true c11
                    clear c11
                    by_cases c12 : (ji10) < (l0.length : Int)
                    · rw [if_pos c12] at H
                      have c12b0 : decide ((ji10) < (l0.length : Int)) = true := decide_eq_true c12
                      clear c12
                      replace H := Option.bind_eq_some_iff.mp H
                      obtain ⟨t362, A130, H⟩ := H
                      replace H : (position_Check.j1 k1 l0 l0 (l0.length : Int) x10_1 (decide (t362 ≥ 0)) ((rd_T109 l0 x10_1).f0.f0) ((rd_T109 l0 x10_1).f0.f1) ((rd_T109 l0 x10_1).f0.f2) ((rd_T109 l0 x10_1).f0.f3) ((rd_T109 l0 x10_1).f1) ((rd_T109 l0 x10_1).f2)) = some r := H
                      have A13 := Aside0.mk A130
                      clear A130
                      have H' := Aside0.mk H
                      clear H
                      try go_wp2
                      have n0_ : Aside0 (((((((w7.setCell ⟨gb360, 0, none⟩ (.string ((rd_T109 l0 x10_1).f0.f0))).setCell ⟨gb360, 1, none⟩ (.int .i64 ((rd_T109 l0 x10_1).f0.f1))).setCell ⟨gb360, 2, none⟩ (.int .i64 ((rd_T109 l0 x10_1).f0.f2))).setCell ⟨gb360, 3, none⟩ (.int .i64 ((rd_T109 l0 x10_1).f0.f3))).setCell ⟨gb360, 4, none⟩ (.int .i64 ((rd_T109 l0 x10_1).f1))).setCell ⟨gb360, 5, none⟩ (.int .i64 ((rd_T109 l0 x10_1).f2))).heap[gb360]? = some (.cells #[.string ((rd_T109 l0 x10_1).f0.f0), .int .i64 ((rd_T109 l0 x10_1).f0.f1), .int .i64 ((rd_T109 l0 x10_1).f0.f2), .int .i64 ((rd_T109 l0 x10_1).f0.f3), .int .i64 ((rd_T109 l0 x10_1).f1), .int .i64 ((rd_T109 l0 x10_1).f2)] 109 (0, 0))) := ⟨by (with_reducible repeat (first | refine blk_drewN ?_ _ | refine blk_drew ?_ | refine blk_alloc ?_ _)); refine blk_put (cs := #[.string ((rd_T109 l0 x10_1).f0.f0), .int .i64 ((rd_T109 l0 x10_1).f0.f1), .int .i64 ((rd_T109 l0 x10_1).f0.f2), .int .i64 ((rd_T109 l0 x10_1).f0.f3), .int .i64 ((rd_T109 l0 x10_1).f1), .int .i64 0]) ?_ 5 _ rfl; (with_reducible repeat (first | refine blk_drewN ?_ _ | refine blk_drew ?_ | refine blk_alloc ?_ _)); refine blk_put (cs := #[.string ((rd_T109 l0 x10_1).f0.f0), .int .i64 ((rd_T109 l0 x10_1).f0.f1), .int .i64 ((rd_T109 l0 x10_1).f0.f2), .int .i64 ((rd_T109 l0 x10_1).f0.f3), .int .i64 0, .int .i64 0]) ?_ 4 _ rfl; (with_reducible repeat (first | refine blk_drewN ?_ _ | refine blk_drew ?_ | refine blk_alloc ?_ _)); refine blk_put (cs := #[.string ((rd_T109 l0 x10_1).f0.f0), .int .i64 ((rd_T109 l0 x10_1).f0.f1), .int .i64 ((rd_T109 l0 x10_1).f0.f2), .int .i64 0, .int .i64 0, .int .i64 0]) ?_ 3 _ rfl; (with_reducible repeat (first | refine blk_drewN ?_ _ | refine blk_drew ?_ | refine blk_alloc ?_ _)); refine blk_put (cs := #[.string ((rd_T109 l0 x10_1).f0.f0), .int .i64 ((rd_T109 l0 x10_1).f0.f1), .int .i64 0, .int .i64 0, .int .i64 0, .int .i64 0]) ?_ 2 _ rfl; (with_reducible repeat (first | refine blk_drewN ?_ _ | refine blk_drew ?_ | refine blk_alloc ?_ _)); refine blk_put (cs := #[.string ((rd_T109 l0 x10_1).f0.f0), .int .i64 0, .int .i64 0, .int .i64 0, .int .i64 0, .int .i64 0]) ?_ 1 _ rfl; (with_reducible repeat (first | refine blk_drewN ?_ _ | refine blk_drew ?_ | refine blk_alloc ?_ _)); refine blk_put (cs := #[.string (⟨#[]⟩ : ByteArray), .int .i64 0, .int .i64 0, .int .i64 0, .int .i64 0, .int .i64 0]) ?_ 0 _ rfl; (with_reducible repeat (first | refine blk_drewN ?_ _ | refine blk_drew ?_ | refine blk_alloc ?_ _)); exact BK360.out⟩
                      have n1_ : Aside0 (Below w.heap.size w ((((((w7.setCell ⟨gb360, 0, none⟩ (.string ((rd_T109 l0 x10_1).f0.f0))).setCell ⟨gb360, 1, none⟩ (.int .i64 ((rd_T109 l0 x10_1).f0.f1))).setCell ⟨gb360, 2, none⟩ (.int .i64 ((rd_T109 l0 x10_1).f0.f2))).setCell ⟨gb360, 3, none⟩ (.int .i64 ((rd_T109 l0 x10_1).f0.f3))).setCell ⟨gb360, 4, none⟩ (.int .i64 ((rd_T109 l0 x10_1).f1))).setCell ⟨gb360, 5, none⟩ (.int .i64 ((rd_T109 l0 x10_1).f2)))) := ⟨by repeat (first | (with_reducible first | exact HB.out | apply below_alloc | apply pw_below_drewN | apply below_drew1 | refine below_set ?_ GE360.out) | exact HB.out)⟩
                      (try clear BK360)
                      (try clear HB)
                      generalize ((((((w7.setCell ⟨gb360, 0, none⟩ (.string ((rd_T109 l0 x10_1).f0.f0))).setCell ⟨gb360, 1, none⟩ (.int .i64 ((rd_T109 l0 x10_1).f0.f1))).setCell ⟨gb360, 2, none⟩ (.int .i64 ((rd_T109 l0 x10_1).f0.f2))).setCell ⟨gb360, 3, none⟩ (.int .i64 ((rd_T109 l0 x10_1).f0.f3))).setCell ⟨gb360, 4, none⟩ (.int .i64 ((rd_T109 l0 x10_1).f1))).setCell ⟨gb360, 5, none⟩ (.int .i64 ((rd_T109 l0 x10_1).f2))) = w14 at n0_ n1_ ⊢
                      have BK360 := n0_
                      have HB := n1_
                      clear n0_ n1_
                      have n0_ := Aside0.mk (blk_drew BK360.out)
                      have n1_ := Aside0.mk (below_drew1 HB.out)
                      clear BK360
                      clear HB
                      have BK360 := n0_
                      have HB := n1_
                      clear n0_ n1_
                      have p361 : 0 ≤ ((ji10) : Int) := of_decide_eq_true (by first | (with_reducible assumption) | assumption)
                      have q361 : (ji10) < (l0.length : Int) := of_decide_eq_true (by first | (with_reducible assumption) | assumption)
                      obtain ⟨ad361, e361, hx361_0, hx361_1, hx361_2, hx361_3, hx361_4, hx361_5⟩ := at_T109 HR0.out (ji10) p361 q361
                      have hw361_5 := hx361_5
                      have hw361_4 := hx361_4
                      have hw361_3 := hx361_3
                      have hw361_2 := hx361_2
                      have hw361_1 := hx361_1
                      have hw361_0 := hx361_0
                      obtain rfl : ad359 = ad361 := (by injection e361)
                      replace hx361_0 := (HB.out.cell (World.block_lt_of_cell? w _ hx361_0)).trans hx361_0
                      replace hx361_1 := (HB.out.cell (World.block_lt_of_cell? w _ hx361_1)).trans hx361_1
                      replace hx361_2 := (HB.out.cell (World.block_lt_of_cell? w _ hx361_2)).trans hx361_2
                      replace hx361_3 := (HB.out.cell (World.block_lt_of_cell? w _ hx361_3)).trans hx361_3
                      replace hx361_4 := (HB.out.cell (World.block_lt_of_cell? w _ hx361_4)).trans hx361_4
                      replace hx361_5 := (HB.out.cell (World.block_lt_of_cell? w _ hx361_5)).trans hx361_5
                      replace p361 := eq_true p361
                      replace q361 := eq_true q361
                      refine start_ (n := 14) (S := fun w' => w'.cell? ⟨gb360, 0, none⟩ = some (.string ((rd_T109 l0 x10_1).f0.f0)) ∧ w'.cell? ⟨gb360, 1, none⟩ = some (.int .i64 ((rd_T109 l0 x10_1).f0.f1)) ∧ w'.cell? ⟨gb360, 2, none⟩ = some (.int .i64 ((rd_T109 l0 x10_1).f0.f2)) ∧ w'.cell? ⟨gb360, 3, none⟩ = some (.int .i64 ((rd_T109 l0 x10_1).f0.f3)) ∧ w'.cell? ⟨gb360, 4, none⟩ = some (.int .i64 ((rd_T109 l0 x10_1).f1)) ∧ w'.cell? ⟨gb360, 5, none⟩ = some (.int .i64 ((rd_T109 l0 x10_1).f2)) ∧ w'.cell? (ad359.add (((ji10)).toNat * 6)) = some (.string ((rd_T109 l0 (ji10)).f0.f0)) ∧ w'.cell? ⟨(ad359.add (((ji10)).toNat * 6)).block, (ad359.add (((ji10)).toNat * 6)).off + 1, none⟩ = some (.int .i64 ((rd_T109 l0 (ji10)).f0.f1)) ∧ w'.cell? ⟨(ad359.add (((ji10)).toNat * 6)).block, (ad359.add (((ji10)).toNat * 6)).off + 2, none⟩ = some (.int .i64 ((rd_T109 l0 (ji10)).f0.f2)) ∧ w'.cell? ⟨(ad359.add (((ji10)).toNat * 6)).block, (ad359.add (((ji10)).toNat * 6)).off + 3, none⟩ = some (.int .i64 ((rd_T109 l0 (ji10)).f0.f3)) ∧ w'.cell? ⟨(ad359.add (((ji10)).toNat * 6)).block, (ad359.add (((ji10)).toNat * 6)).off + 4, none⟩ = some (.int .i64 ((rd_T109 l0 (ji10)).f1)) ∧ w'.cell? ⟨(ad359.add (((ji10)).toNat * 6)).block, (ad359.add (((ji10)).toNat * 6)).off + 5, none⟩ = some (.int .i64 ((rd_T109 l0 (ji10)).f2))) (ds := []) #[false, false, false, false, false, false, false, false, false, false, false, false, false, false] (by kernel_rfl) rfl rfl ⟨(blk_cell BK360.out 0).trans rfl, (blk_cell BK360.out 1).trans rfl, (blk_cell BK360.out 2).trans rfl, (blk_cell BK360.out 3).trans rfl, (blk_cell BK360.out 4).trans rfl, (blk_cell BK360.out 5).trans rfl, ((HB.out.cell (World.block_lt_of_cell? w _ hw361_0)).trans hw361_0), ((HB.out.cell (World.block_lt_of_cell? w _ hw361_1)).trans hw361_1), ((HB.out.cell (World.block_lt_of_cell? w _ hw361_2)).trans hw361_2), ((HB.out.cell (World.block_lt_of_cell? w _ hw361_3)).trans hw361_3), ((HB.out.cell (World.block_lt_of_cell? w _ hw361_4)).trans hw361_4), ((HB.out.cell (World.block_lt_of_cell? w _ hw361_5)).trans hw361_5)⟩ (fun hHeld => ?_); refine with_tabW position_Check.tab6 position_Check.bits6 (fun HT_ HW_ => ?_)
                      generalize w14.drew = w15 at BK360 HB hx361_0 hx361_1 hx361_2 hx361_3 hx361_4 hx361_5 hHeld ⊢
                      refine pure_ (i := 0) (N := some 15) (v := ?_) (a' := ?_) #[true, false, false, false, false, false, false, false, false, false, false, false, false, false] rfl rfl (any_of HT_.out (by kernel_rfl)) (fun _ _ _ h => h) (Or.inl ⟨by rfl, ?_⟩) ?_ ?_
                      rotate_left
                      · intro w'
                        go_simp
                        with_reducible rfl
                      rotate_left
                      · simp only [Act.put, List.setIfInBounds_toArray, List.set_cons_zero, List.set_cons_succ, i64_w, i32_w]
                        rfl
                      refine pure_ (i := 1) (N := some 16) (v := ?_) (a' := ?_) #[true, true, false, false, false, false, false, false, false, false, false, false, false, false] rfl rfl (any_of HT_.out (by kernel_rfl)) (fun _ _ _ h => h) (Or.inl ⟨by rfl, ?_⟩) ?_ ?_
                      rotate_left
                      · intro w'
                        go_simp
                        with_reducible rfl
                      rotate_left
                      · simp only [Act.put, List.setIfInBounds_toArray, List.set_cons_zero, List.set_cons_succ, i64_w, i32_w]
                        rfl
                      refine pure_ (i := 2) (N := some 17) (v := ?_) (a' := ?_) #[true, true, true, false, false, false, false, false, false, false, false, false, false, false] rfl rfl (any_of HT_.out (by kernel_rfl)) (fun _ _ _ h => h) (Or.inl ⟨by rfl, ?_⟩) ?_ ?_
                      rotate_left
                      · intro w'
                        go_simp
                        with_reducible rfl
                      rotate_left
                      · simp only [Act.put, List.setIfInBounds_toArray, List.set_cons_zero, List.set_cons_succ, i64_w, i32_w]
                        rfl
                      refine pure_ (i := 3) (N := some 18) (v := ?_) (a' := ?_) #[true, true, true, true, false, false, false, false, false, false, false, false, false, false] rfl rfl (any_of HT_.out (by kernel_rfl)) (fun _ _ _ h => h) (Or.inl ⟨by rfl, ?_⟩) ?_ ?_
                      rotate_left
                      · intro w'
                        go_simp
                        with_reducible rfl
                      rotate_left
                      · simp only [Act.put, List.setIfInBounds_toArray, List.set_cons_zero, List.set_cons_succ, i64_w, i32_w]
                        rfl
                      refine pure_ (i := 4) (N := some 19) (v := ?_) (a' := ?_) #[true, true, true, true, true, false, false, false, false, false, false, false, false, false] rfl rfl (any_of HT_.out (by kernel_rfl)) (fun _ _ _ h => h) (Or.inl ⟨by rfl, ?_⟩) ?_ ?_
                      rotate_left
                      · intro w'
                        go_simp
                        with_reducible rfl
                      rotate_left
                      · simp only [Act.put, List.setIfInBounds_toArray, List.set_cons_zero, List.set_cons_succ, i64_w, i32_w]
                        rfl
                      refine pure_ (i := 5) (N := some 20) (v := ?_) (a' := ?_) #[true, true, true, true, true, true, false, false, false, false, false, false, false, false] rfl rfl (any_of HT_.out (by kernel_rfl)) (fun _ _ _ h => h) (Or.inl ⟨by rfl, ?_⟩) ?_ ?_
                      rotate_left
                      · intro w'
                        go_simp
                        with_reducible rfl
                      rotate_left
                      · simp only [Act.put, List.setIfInBounds_toArray, List.set_cons_zero, List.set_cons_succ, i64_w, i32_w]
                        rfl
                      refine pure_ (i := 6) (N := some 21) (v := ?_) (a' := ?_) #[true, true, true, true, true, true, true, false, false, false, false, false, false, false] rfl rfl (any_of HT_.out (by kernel_rfl)) (fun _ _ _ h => h) (Or.inl ⟨by rfl, ?_⟩) ?_ ?_
                      rotate_left
                      · intro w'
                        go_simp
                        with_reducible rfl
                      rotate_left
                      · simp only [Act.put, List.setIfInBounds_toArray, List.set_cons_zero, List.set_cons_succ, i64_w, i32_w]
                        rfl
                      refine pure_ (i := 7) (N := some 22) (v := ?_) (a' := ?_) #[true, true, true, true, true, true, true, true, false, false, false, false, false, false] rfl rfl (any_of HT_.out (by kernel_rfl)) (fun _ _ _ h => h) (Or.inl ⟨by rfl, ?_⟩) ?_ ?_
                      rotate_left
                      · intro w'
                        go_simp
                        with_reducible rfl
                      rotate_left
                      · simp only [Act.put, List.setIfInBounds_toArray, List.set_cons_zero, List.set_cons_succ, i64_w, i32_w]
                        rfl
                      refine pure_ (i := 9) (N := some 24) (v := ?_) (a' := ?_) #[true, true, true, true, true, true, true, true, false, true, false, false, false, false] rfl rfl (any_of HT_.out (by kernel_rfl)) (fun _ _ _ h => h) (Or.inl ⟨by rfl, ?_⟩) ?_ ?_
                      rotate_left
                      · intro w'
                        go_simp
                        with_reducible rfl
                      rotate_left
                      · simp only [Act.put, List.setIfInBounds_toArray, List.set_cons_zero, List.set_cons_succ, i64_w, i32_w]
                        rfl
                      refine take_ (i := 8) (N := some 23) (v := ?_) (a' := ?_) #[true, true, true, true, true, true, true, true, true, true, false, false, false, false] rfl rfl (take_ofW HT_.out HW_.out (by kernel_rfl)) (fun _ _ _ h => h) (Or.inl ⟨by rfl, ?_⟩) hHeld ?_ ?_
                      rotate_left
                      · rintro w' ⟨s0, s1, s2, s3, s4, s5, s6, s7, s8, s9, s10, s11⟩
                        go_simp
                        with_reducible rfl
                      rotate_left
                      · simp only [Act.put, List.setIfInBounds_toArray, List.set_cons_zero, List.set_cons_succ, i64_w, i32_w]
                        rfl
                      refine take_ (i := 10) (N := some 25) (v := ?_) (a' := ?_) #[true, true, true, true, true, true, true, true, true, true, true, false, false, false] rfl rfl (take_ofW HT_.out HW_.out (by kernel_rfl)) (fun _ _ _ h => h) (Or.inl ⟨by rfl, ?_⟩) hHeld ?_ ?_
                      rotate_left
                      · rintro w' ⟨s0, s1, s2, s3, s4, s5, s6, s7, s8, s9, s10, s11⟩
                        go_simp
                        with_reducible rfl
                      rotate_left
                      · simp only [Act.put, List.setIfInBounds_toArray, List.set_cons_zero, List.set_cons_succ, i64_w, i32_w]
                        rfl
                      refine one_ (i := 11) (N := some 26) #[true, true, true, true, true, true, true, true, true, true, true, true, false, false] rfl rfl (one_of HT_.out (by kernel_rfl)) (by decide) (fun K hK => ?_)
                      refine goes_ Try.func104 (by kernel_rfl) rfl #[.agg #[.string ((rd_T109 l0 (ji10)).f0.f0), .int .i64 ((rd_T109 l0 (ji10)).f0.f1), .int .i64 ((rd_T109 l0 (ji10)).f0.f2), .int .i64 ((rd_T109 l0 (ji10)).f0.f3)], .agg #[.string ((rd_T109 l0 x10_1).f0.f0), .int .i64 ((rd_T109 l0 x10_1).f0.f1), .int .i64 ((rd_T109 l0 x10_1).f0.f2), .int .i64 ((rd_T109 l0 x10_1).f0.f3)]] (by rfl) rfl rfl (by (try simp only [List.map_toArray, List.map_cons, List.map_nil]); first | done | (simp only [hji10]; rfl) | rfl | (simp only [List.length_drop, List.length_take]; rfl)) ?_
                      with_reducible refine (series_Compare.calls ((rd_T109 l0 (ji10)).f0.f0) ((rd_T109 l0 (ji10)).f0.f1) ((rd_T109 l0 (ji10)).f0.f2) ((rd_T109 l0 (ji10)).f0.f3) ((rd_T109 l0 x10_1).f0.f0) ((rd_T109 l0 x10_1).f0.f1) ((rd_T109 l0 x10_1).f0.f2) ((rd_T109 l0 x10_1).f0.f3) t362 _ A13.out).mono ?_
                      rintro e w16 ⟨rfl, hb⟩
                      refine ⟨_, rfl, ?_⟩
                      have n0_ := Aside0.mk (blk_below (g := gb360) (o := .cells #[.string ((rd_T109 l0 x10_1).f0.f0), .int .i64 ((rd_T109 l0 x10_1).f0.f1), .int .i64 ((rd_T109 l0 x10_1).f0.f2), .int .i64 ((rd_T109 l0 x10_1).f0.f3), .int .i64 ((rd_T109 l0 x10_1).f1), .int .i64 ((rd_T109 l0 x10_1).f2)] 109 (0, 0)) (by (with_reducible repeat (first | refine blk_drewN ?_ _ | refine blk_drew ?_ | refine blk_alloc ?_ _)); exact BK360.out) hb)
                      have n1_ := Aside0.mk (below_step (by repeat (first | (with_reducible first | exact HB.out | apply below_alloc | apply pw_below_drewN | apply below_drew1 | refine below_set ?_ GE360.out) | exact HB.out)) hb)
                      clear BK360
                      clear HB
                      have BK360 := n0_
                      have HB := n1_
                      clear n0_ n1_
                      (try clear hb)
                      (try clear hb2)
                      (try clear hk)
                      (try clear hi)
                      refine hK.out _ _ ⟨(blk_cell BK360.out 0).trans rfl, (blk_cell BK360.out 1).trans rfl, (blk_cell BK360.out 2).trans rfl, (blk_cell BK360.out 3).trans rfl, (blk_cell BK360.out 4).trans rfl, (blk_cell BK360.out 5).trans rfl, ((HB.out.cell (World.block_lt_of_cell? w _ hw361_0)).trans hw361_0), ((HB.out.cell (World.block_lt_of_cell? w _ hw361_1)).trans hw361_1), ((HB.out.cell (World.block_lt_of_cell? w _ hw361_2)).trans hw361_2), ((HB.out.cell (World.block_lt_of_cell? w _ hw361_3)).trans hw361_3), ((HB.out.cell (World.block_lt_of_cell? w _ hw361_4)).trans hw361_4), ((HB.out.cell (World.block_lt_of_cell? w _ hw361_5)).trans hw361_5)⟩ (fun hHeld => ?_)
                      clear hK K
                      refine norm_ (a' := ?_) ?_ ?_
                      rotate_left
                      · show Act.put _ (some 26) _ = _
                        simp only [Act.put, List.setIfInBounds_toArray, List.set_cons_zero, List.set_cons_succ, i64_w, i32_w]
                        rfl
                      refine pure_ (i := 12) (N := some 27) (v := ?_) (a' := ?_) #[true, true, true, true, true, true, true, true, true, true, true, true, true, false] rfl rfl (any_of HT_.out (by kernel_rfl)) (fun _ _ _ h => h) (Or.inl ⟨by rfl, ?_⟩) ?_ ?_
                      rotate_left
                      · intro w'
                        go_simp
                        with_reducible rfl
                      rotate_left
                      · simp only [Act.put, List.setIfInBounds_toArray, List.set_cons_zero, List.set_cons_succ, i64_w, i32_w]
                        rfl
                      refine pure_ (i := 13) (N := some 28) (v := ?_) (a' := ?_) #[true, true, true, true, true, true, true, true, true, true, true, true, true, true] rfl rfl (any_of HT_.out (by kernel_rfl)) (fun _ _ _ h => h) (Or.inl ⟨by rfl, ?_⟩) ?_ ?_
                      rotate_left
                      · intro w'
                        go_simp
                        with_reducible rfl
                      rotate_left
                      · simp only [Act.put, List.setIfInBounds_toArray, List.set_cons_zero, List.set_cons_succ, i64_w, i32_w]
                        rfl
                      refine done_ (done_of HT_.out (by kernel_rfl)) ?_
                      try go_wp2
                      go_meet
                      case rel => exact ⟨_, (decide (t362 ≥ 0)), (by first | rfl | (simp; done) | (simp [*]; done)), H', ⟨by have := HK1.out; first | omega | exact Nat.le_refl _⟩, ⟨by (with_reducible repeat (first | refine blk_drewN ?_ _ | refine blk_drew ?_ | refine blk_alloc ?_ _)); exact BK360.out⟩, ⟨by repeat (first | (with_reducible first | exact HB.out | apply below_alloc | apply pw_below_drewN | apply below_drew1 | refine below_set ?_ GE360.out) | exact HB.out)⟩⟩
                    · rw [if_neg c12] at H
                      exact absurd H (by simp)
                  · rw [if_neg c11] at H
                    exact absurd H (by simp)
                · rw [if_neg c9] at H
                  have c9b0 : decide (0 < x10_1) = false := decide_eq_false c9
                  clear c9
                  (first | rw [c9b0] | (simp only [i64_w, i32_w]; rw [c9b0]) | skip)
                  have H' := Aside0.mk H
                  clear H
                  try go_wp2
                  have n0_ : Aside0 (((((((w7.setCell ⟨gb360, 0, none⟩ (.string ((rd_T109 l0 x10_1).f0.f0))).setCell ⟨gb360, 1, none⟩ (.int .i64 ((rd_T109 l0 x10_1).f0.f1))).setCell ⟨gb360, 2, none⟩ (.int .i64 ((rd_T109 l0 x10_1).f0.f2))).setCell ⟨gb360, 3, none⟩ (.int .i64 ((rd_T109 l0 x10_1).f0.f3))).setCell ⟨gb360, 4, none⟩ (.int .i64 ((rd_T109 l0 x10_1).f1))).setCell ⟨gb360, 5, none⟩ (.int .i64 ((rd_T109 l0 x10_1).f2))).heap[gb360]? = some (.cells #[.string ((rd_T109 l0 x10_1).f0.f0), .int .i64 ((rd_T109 l0 x10_1).f0.f1), .int .i64 ((rd_T109 l0 x10_1).f0.f2), .int .i64 ((rd_T109 l0 x10_1).f0.f3), .int .i64 ((rd_T109 l0 x10_1).f1), .int .i64 ((rd_T109 l0 x10_1).f2)] 109 (0, 0))) := ⟨by (with_reducible repeat (first | refine blk_drewN ?_ _ | refine blk_drew ?_ | refine blk_alloc ?_ _)); refine blk_put (cs := #[.string ((rd_T109 l0 x10_1).f0.f0), .int .i64 ((rd_T109 l0 x10_1).f0.f1), .int .i64 ((rd_T109 l0 x10_1).f0.f2), .int .i64 ((rd_T109 l0 x10_1).f0.f3), .int .i64 ((rd_T109 l0 x10_1).f1), .int .i64 0]) ?_ 5 _ rfl; (with_reducible repeat (first | refine blk_drewN ?_ _ | refine blk_drew ?_ | refine blk_alloc ?_ _)); refine blk_put (cs := #[.string ((rd_T109 l0 x10_1).f0.f0), .int .i64 ((rd_T109 l0 x10_1).f0.f1), .int .i64 ((rd_T109 l0 x10_1).f0.f2), .int .i64 ((rd_T109 l0 x10_1).f0.f3), .int .i64 0, .int .i64 0]) ?_ 4 _ rfl; (with_reducible repeat (first | refine blk_drewN ?_ _ | refine blk_drew ?_ | refine blk_alloc ?_ _)); refine blk_put (cs := #[.string ((rd_T109 l0 x10_1).f0.f0), .int .i64 ((rd_T109 l0 x10_1).f0.f1), .int .i64 ((rd_T109 l0 x10_1).f0.f2), .int .i64 0, .int .i64 0, .int .i64 0]) ?_ 3 _ rfl; (with_reducible repeat (first | refine blk_drewN ?_ _ | refine blk_drew ?_ | refine blk_alloc ?_ _)); refine blk_put (cs := #[.string ((rd_T109 l0 x10_1).f0.f0), .int .i64 ((rd_T109 l0 x10_1).f0.f1), .int .i64 0, .int .i64 0, .int .i64 0, .int .i64 0]) ?_ 2 _ rfl; (with_reducible repeat (first | refine blk_drewN ?_ _ | refine blk_drew ?_ | refine blk_alloc ?_ _)); refine blk_put (cs := #[.string ((rd_T109 l0 x10_1).f0.f0), .int .i64 0, .int .i64 0, .int .i64 0, .int .i64 0, .int .i64 0]) ?_ 1 _ rfl; (with_reducible repeat (first | refine blk_drewN ?_ _ | refine blk_drew ?_ | refine blk_alloc ?_ _)); refine blk_put (cs := #[.string (⟨#[]⟩ : ByteArray), .int .i64 0, .int .i64 0, .int .i64 0, .int .i64 0, .int .i64 0]) ?_ 0 _ rfl; (with_reducible repeat (first | refine blk_drewN ?_ _ | refine blk_drew ?_ | refine blk_alloc ?_ _)); exact BK360.out⟩
                  have n1_ : Aside0 (Below w.heap.size w ((((((w7.setCell ⟨gb360, 0, none⟩ (.string ((rd_T109 l0 x10_1).f0.f0))).setCell ⟨gb360, 1, none⟩ (.int .i64 ((rd_T109 l0 x10_1).f0.f1))).setCell ⟨gb360, 2, none⟩ (.int .i64 ((rd_T109 l0 x10_1).f0.f2))).setCell ⟨gb360, 3, none⟩ (.int .i64 ((rd_T109 l0 x10_1).f0.f3))).setCell ⟨gb360, 4, none⟩ (.int .i64 ((rd_T109 l0 x10_1).f1))).setCell ⟨gb360, 5, none⟩ (.int .i64 ((rd_T109 l0 x10_1).f2)))) := ⟨by repeat (first | (with_reducible first | exact HB.out | apply below_alloc | apply pw_below_drewN | apply below_drew1 | refine below_set ?_ GE360.out) | exact HB.out)⟩
                  (try clear BK360)
                  (try clear HB)
                  generalize ((((((w7.setCell ⟨gb360, 0, none⟩ (.string ((rd_T109 l0 x10_1).f0.f0))).setCell ⟨gb360, 1, none⟩ (.int .i64 ((rd_T109 l0 x10_1).f0.f1))).setCell ⟨gb360, 2, none⟩ (.int .i64 ((rd_T109 l0 x10_1).f0.f2))).setCell ⟨gb360, 3, none⟩ (.int .i64 ((rd_T109 l0 x10_1).f0.f3))).setCell ⟨gb360, 4, none⟩ (.int .i64 ((rd_T109 l0 x10_1).f1))).setCell ⟨gb360, 5, none⟩ (.int .i64 ((rd_T109 l0 x10_1).f2))) = w17 at n0_ n1_ ⊢
                  have BK360 := n0_
                  have HB := n1_
                  clear n0_ n1_
                  have n0_ := Aside0.mk (blk_drew BK360.out)
                  have n1_ := Aside0.mk (below_drew1 HB.out)
                  clear BK360
                  clear HB
                  have BK360 := n0_
                  have HB := n1_
                  clear n0_ n1_
                  refine start_ (n := 14) (S := fun w' => True) (ds := []) #[false, false, false, false, false, false, false, false, false, false, false, false, false, false] (by kernel_rfl) rfl rfl trivial (fun hHeld => ?_); refine with_tabW position_Check.tab6 position_Check.bits6 (fun HT_ HW_ => ?_)
                  generalize w17.drew = w18 at BK360 HB hHeld ⊢
                  refine pure_ (i := 0) (N := some 15) (v := ?_) (a' := ?_) #[true, false, false, false, false, false, false, false, false, false, false, false, false, false] rfl rfl (any_of HT_.out (by kernel_rfl)) (fun _ _ _ h => h) (Or.inl ⟨by rfl, ?_⟩) ?_ ?_
                  rotate_left
                  · intro w'
                    go_simp
                    with_reducible rfl
                  rotate_left
                  · simp only [Act.put, List.setIfInBounds_toArray, List.set_cons_zero, List.set_cons_succ, i64_w, i32_w]
                    rfl
                  refine pure_ (i := 1) (N := some 16) (v := ?_) (a' := ?_) #[true, true, false, false, false, false, false, false, false, false, false, false, false, false] rfl rfl (any_of HT_.out (by kernel_rfl)) (fun _ _ _ h => h) (Or.inl ⟨by rfl, ?_⟩) ?_ ?_
                  rotate_left
                  · intro w'
                    go_simp
                    with_reducible rfl
                  rotate_left
                  · simp only [Act.put, List.setIfInBounds_toArray, List.set_cons_zero, List.set_cons_succ, i64_w, i32_w]
                    rfl
                  refine pure_ (i := 2) (N := some 17) (v := ?_) (a' := ?_) #[true, true, true, false, false, false, false, false, false, false, false, false, false, false] rfl rfl (any_of HT_.out (by kernel_rfl)) (fun _ _ _ h => h) (Or.inl ⟨by rfl, ?_⟩) ?_ ?_
                  rotate_left
                  · intro w'
                    go_simp
                    with_reducible rfl
                  rotate_left
                  · simp only [Act.put, List.setIfInBounds_toArray, List.set_cons_zero, List.set_cons_succ, i64_w, i32_w]
                    rfl
                  refine pure_ (i := 3) (N := some 18) (v := undef) (a' := ?_) #[true, true, true, true, false, false, false, false, false, false, false, false, false, false] rfl rfl (any_of HT_.out (by kernel_rfl)) (fun _ _ _ h => h) (Or.inr ⟨by rfl, rfl⟩) ?_ ?_
                  rotate_left
                  · simp only [Act.put, List.setIfInBounds_toArray, List.set_cons_zero, List.set_cons_succ, i64_w, i32_w]
                    rfl
                  refine pure_ (i := 4) (N := some 19) (v := undef) (a' := ?_) #[true, true, true, true, true, false, false, false, false, false, false, false, false, false] rfl rfl (any_of HT_.out (by kernel_rfl)) (fun _ _ _ h => h) (Or.inr ⟨by rfl, rfl⟩) ?_ ?_
                  rotate_left
                  · simp only [Act.put, List.setIfInBounds_toArray, List.set_cons_zero, List.set_cons_succ, i64_w, i32_w]
                    rfl
                  refine pure_ (i := 5) (N := some 20) (v := undef) (a' := ?_) #[true, true, true, true, true, true, false, false, false, false, false, false, false, false] rfl rfl (any_of HT_.out (by kernel_rfl)) (fun _ _ _ h => h) (Or.inr ⟨by rfl, rfl⟩) ?_ ?_
                  rotate_left
                  · simp only [Act.put, List.setIfInBounds_toArray, List.set_cons_zero, List.set_cons_succ, i64_w, i32_w]
                    rfl
                  refine pure_ (i := 6) (N := some 21) (v := undef) (a' := ?_) #[true, true, true, true, true, true, true, false, false, false, false, false, false, false] rfl rfl (any_of HT_.out (by kernel_rfl)) (fun _ _ _ h => h) (Or.inr ⟨by rfl, rfl⟩) ?_ ?_
                  rotate_left
                  · simp only [Act.put, List.setIfInBounds_toArray, List.set_cons_zero, List.set_cons_succ, i64_w, i32_w]
                    rfl
                  refine pure_ (i := 7) (N := some 22) (v := undef) (a' := ?_) #[true, true, true, true, true, true, true, true, false, false, false, false, false, false] rfl rfl (any_of HT_.out (by kernel_rfl)) (fun _ _ _ h => h) (Or.inr ⟨by rfl, rfl⟩) ?_ ?_
                  rotate_left
                  · simp only [Act.put, List.setIfInBounds_toArray, List.set_cons_zero, List.set_cons_succ, i64_w, i32_w]
                    rfl
                  refine pure_ (i := 8) (N := some 23) (v := undef) (a' := ?_) #[true, true, true, true, true, true, true, true, true, false, false, false, false, false] rfl rfl (any_of HT_.out (by kernel_rfl)) (fun _ _ _ h => h) (Or.inr ⟨by rfl, rfl⟩) ?_ ?_
                  rotate_left
                  · simp only [Act.put, List.setIfInBounds_toArray, List.set_cons_zero, List.set_cons_succ, i64_w, i32_w]
                    rfl
                  refine pure_ (i := 9) (N := some 24) (v := undef) (a' := ?_) #[true, true, true, true, true, true, true, true, true, true, false, false, false, false] rfl rfl (any_of HT_.out (by kernel_rfl)) (fun _ _ _ h => h) (Or.inr ⟨by rfl, rfl⟩) ?_ ?_
                  rotate_left
                  · simp only [Act.put, List.setIfInBounds_toArray, List.set_cons_zero, List.set_cons_succ, i64_w, i32_w]
                    rfl
                  refine pure_ (i := 10) (N := some 25) (v := undef) (a' := ?_) #[true, true, true, true, true, true, true, true, true, true, true, false, false, false] rfl rfl (any_of HT_.out (by kernel_rfl)) (fun _ _ _ h => h) (Or.inr ⟨by rfl, rfl⟩) ?_ ?_
                  rotate_left
                  · simp only [Act.put, List.setIfInBounds_toArray, List.set_cons_zero, List.set_cons_succ, i64_w, i32_w]
                    rfl
                  refine pure_ (i := 11) (N := some 26) (v := undef) (a' := ?_) #[true, true, true, true, true, true, true, true, true, true, true, true, false, false] rfl rfl (any_of HT_.out (by kernel_rfl)) (fun _ _ _ h => h) (Or.inr ⟨by rfl, rfl⟩) ?_ ?_
                  rotate_left
                  · simp only [Act.put, List.setIfInBounds_toArray, List.set_cons_zero, List.set_cons_succ, i64_w, i32_w]
                    rfl
                  refine pure_ (i := 12) (N := some 27) (v := undef) (a' := ?_) #[true, true, true, true, true, true, true, true, true, true, true, true, true, false] rfl rfl (any_of HT_.out (by kernel_rfl)) (fun _ _ _ h => h) (Or.inr ⟨by rfl, rfl⟩) ?_ ?_
                  rotate_left
                  · simp only [Act.put, List.setIfInBounds_toArray, List.set_cons_zero, List.set_cons_succ, i64_w, i32_w]
                    rfl
                  refine pure_ (i := 13) (N := some 28) (v := ?_) (a' := ?_) #[true, true, true, true, true, true, true, true, true, true, true, true, true, true] rfl rfl (any_of HT_.out (by kernel_rfl)) (fun _ _ _ h => h) (Or.inl ⟨by rfl, ?_⟩) ?_ ?_
                  rotate_left
                  · intro w'
                    go_simp
                    with_reducible rfl
                  rotate_left
                  · simp only [Act.put, List.setIfInBounds_toArray, List.set_cons_zero, List.set_cons_succ, i64_w, i32_w]
                    rfl
                  refine done_ (done_of HT_.out (by kernel_rfl)) ?_
                  try go_wp2
                  go_meet
                  case rel => exact ⟨_, (false), (by first | rfl | (simp; done) | (simp [*]; done)), H', ⟨by have := HK1.out; first | omega | exact Nat.le_refl _⟩, ⟨by (with_reducible repeat (first | refine blk_drewN ?_ _ | refine blk_drew ?_ | refine blk_alloc ?_ _)); exact BK360.out⟩, ⟨by repeat (first | (with_reducible first | exact HB.out | apply below_alloc | apply pw_below_drewN | apply below_drew1 | refine below_set ?_ GE360.out) | exact HB.out)⟩⟩
              case rest =>
                clear HC6
                try clear c1
                try clear c2
                try clear c2b0
                try clear c2b1
                try clear p2
                try clear c3
                try clear c3b0
                try clear p3
                try clear q3
                try clear hx3
                try clear c4
                try clear c4b0
                try clear c5
                try clear c5b0
                try clear p6
                try clear c7
                try clear c9
                try clear c9b0
                try clear c10
                try clear c11
                try clear c11b0
                try clear c12
                try clear c12b0
                try clear hcz8_0
                try clear hcz8_1
                try clear hcz8_2
                try clear hcz8_3
                try clear hcz8_4
                try clear hcz8_5
                try clear hfz8_0
                try clear hfz8_1
                try clear hfz8_2
                try clear hfz8_3
                try clear hfz8_4
                try clear hfz8_5
                try clear hx359_0
                try clear hx359_1
                try clear hx359_2
                try clear hx359_3
                try clear hx359_4
                try clear hx359_5
                try clear hx361_0
                try clear hx361_1
                try clear hx361_2
                try clear hx361_3
                try clear hx361_4
                try clear hx361_5
                try clear p2
                try clear p359
                try clear p361
                try clear q359
                try clear q361
                obtain ⟨kq, x28_5, rfl, HA, HJ5, BK360, HB⟩ := hcut
                cases kq with
                | zero => exact absurd HA.out (by simp [position_Check.j1])
                | succ kj5 =>
                  have H := HA.out
                  clear HA
                  simp only [position_Check.j1] at H
                  by_cases c19 : x28_5 = true
                  · subst c19
                    have H1 : (some 19) = some r := by rw [if_pos rfl] at H; exact H
                    clear H
                    have H := H1
                    clear H1
                    obtain rfl := Option.some.inj H
                    go_wp2
                    go_ret
                    exact ⟨by first | rfl | (simp [errW_none, errW_some] <;> rfl) | (simp [*, errW_none, errW_some] <;> rfl), by repeat (first | (with_reducible first | exact HB.out | apply below_alloc | apply pw_below_drewN | apply below_drew1 | refine below_set ?_ GE360.out) | exact HB.out)⟩
                  · replace c19 := Bool.eq_false_iff.mpr c19
                    subst c19
                    have H1 : ((position_lots.f ((rd_T109 l0 x10_1).f1)).bind fun t363 => (if t363 = true then ((position_lots.f ((rd_T109 l0 x10_1).f2)).bind fun t364 => (if t364 = true then (if ((rd_T109 l0 x10_1).f1) = 0 then (if ((rd_T109 l0 x10_1).f2) = 0 then (some 18) else (position_Check.l0 kj5 l0 l0 (l0.length : Int) (wrap64 (x10_1 + 1)))) else (position_Check.l0 kj5 l0 l0 (l0.length : Int) (wrap64 (x10_1 + 1)))) else (some 18))) else (some 18))) = some r := by rw [if_neg (show ¬ (false = true) by decide)] at H; exact H
                    clear H
                    have H := H1
                    clear H1
                    replace H := Option.bind_eq_some_iff.mp H
                    obtain ⟨t363, A200, H⟩ := H
                    replace H : (if t363 = true then ((position_lots.f ((rd_T109 l0 x10_1).f2)).bind fun t364 => (if t364 = true then (if ((rd_T109 l0 x10_1).f1) = 0 then (if ((rd_T109 l0 x10_1).f2) = 0 then (some 18) else (position_Check.l0 kj5 l0 l0 (l0.length : Int) (wrap64 (x10_1 + 1)))) else (position_Check.l0 kj5 l0 l0 (l0.length : Int) (wrap64 (x10_1 + 1)))) else (some 18))) else (some 18)) = some r := H
                    have A20 := Aside0.mk A200
                    clear A200
                    by_cases c21 : t363 = true
                    · subst c21
                      have H1 : ((position_lots.f ((rd_T109 l0 x10_1).f2)).bind fun t364 => (if t364 = true then (if ((rd_T109 l0 x10_1).f1) = 0 then (if ((rd_T109 l0 x10_1).f2) = 0 then (some 18) else (position_Check.l0 kj5 l0 l0 (l0.length : Int) (wrap64 (x10_1 + 1)))) else (position_Check.l0 kj5 l0 l0 (l0.length : Int) (wrap64 (x10_1 + 1)))) else (some 18))) = some r := by rw [if_pos rfl] at H; exact H
                      clear H
                      have H := H1
                      clear H1
                      replace H := Option.bind_eq_some_iff.mp H
                      obtain ⟨t364, A220, H⟩ := H
                      replace H : (if t364 = true then (if ((rd_T109 l0 x10_1).f1) = 0 then (if ((rd_T109 l0 x10_1).f2) = 0 then (some 18) else (position_Check.l0 kj5 l0 l0 (l0.length : Int) (wrap64 (x10_1 + 1)))) else (position_Check.l0 kj5 l0 l0 (l0.length : Int) (wrap64 (x10_1 + 1)))) else (some 18)) = some r := H
                      have A22 := Aside0.mk A220
                      clear A220
                      by_cases c23 : t364 = true
                      · subst c23
                        have H1 : (if ((rd_T109 l0 x10_1).f1) = 0 then (if ((rd_T109 l0 x10_1).f2) = 0 then (some 18) else (position_Check.l0 kj5 l0 l0 (l0.length : Int) (wrap64 (x10_1 + 1)))) else (position_Check.l0 kj5 l0 l0 (l0.length : Int) (wrap64 (x10_1 + 1)))) = some r := by rw [if_pos rfl] at H; exact H
                        clear H
                        have H := H1
                        clear H1
                        by_cases c24 : ((rd_T109 l0 x10_1).f1) = 0
                        · rw [if_pos c24] at H
                          have c24b0 : (((rd_T109 l0 x10_1).f1) == 0) = true := beq_iff_eq.mpr c24
                          have c24b1 : (((rd_T109 l0 x10_1).f1) != 0) = false := bne_eq_false_iff_eq.mpr c24
                          clear c24
                          have hcz25_0 : wc.cell? ⟨gb360, 0, none⟩ = some (.string ((rd_T109 l0 x10_1).f0.f0)) := (blk_cell BK360.out 0).trans rfl
                          have hcz25_1 : wc.cell? ⟨gb360, 1, none⟩ = some (.int .i64 ((rd_T109 l0 x10_1).f0.f1)) := (blk_cell BK360.out 1).trans rfl
                          have hcz25_2 : wc.cell? ⟨gb360, 2, none⟩ = some (.int .i64 ((rd_T109 l0 x10_1).f0.f2)) := (blk_cell BK360.out 2).trans rfl
                          have hcz25_3 : wc.cell? ⟨gb360, 3, none⟩ = some (.int .i64 ((rd_T109 l0 x10_1).f0.f3)) := (blk_cell BK360.out 3).trans rfl
                          have hcz25_4 : wc.cell? ⟨gb360, 4, none⟩ = some (.int .i64 ((rd_T109 l0 x10_1).f1)) := (blk_cell BK360.out 4).trans rfl
                          have hcz25_5 : wc.cell? ⟨gb360, 5, none⟩ = some (.int .i64 ((rd_T109 l0 x10_1).f2)) := (blk_cell BK360.out 5).trans rfl
                          have hfz25_0 := blk_frozen BK360.out 0
                          have hfz25_1 := blk_frozen BK360.out 1
                          have hfz25_2 := blk_frozen BK360.out 2
                          have hfz25_3 := blk_frozen BK360.out 3
                          have hfz25_4 := blk_frozen BK360.out 4
                          have hfz25_5 := blk_frozen BK360.out 5
                          go_upto_if 48 with (first | ((with_reducible refine gate_callee (f := 105) rfl ?_); refine goesL_ (some 31) rfl rfl Try.func105 (by kernel_rfl) rfl #[.int .i64 ((rd_T109 l0 x10_1).f1)] rfl (by (try simp only [List.map_toArray, List.map_cons, List.map_nil]); first | done | rfl | (simp only [List.length_drop, List.length_take]; rfl)) ?_; (with_reducible refine (position_lots.calls ((rd_T109 l0 x10_1).f1) true _ A20.out).mono ?_); rintro e w' ⟨rfl, ⟨nd, rfl⟩⟩; refine ⟨_, rfl, ?_⟩) | (go_at_call 105; (with_reducible refine (position_lots.calls ((rd_T109 l0 x10_1).f2) true _ A22.out).mono ?_); rintro e w' ⟨rfl, ⟨nd, rfl⟩⟩))
                          (try simp only [Act.put, List.setIfInBounds_toArray, List.set_cons_zero, List.set_cons_succ])
                          by_cases c26 : ((rd_T109 l0 x10_1).f2) = 0
                          · rw [if_pos c26] at H
                            have c26b0 : (((rd_T109 l0 x10_1).f2) == 0) = true := beq_iff_eq.mpr c26
                            have c26b1 : (((rd_T109 l0 x10_1).f2) != 0) = false := bne_eq_false_iff_eq.mpr c26
                            clear c26
                            (try simp only [c26b0, c26b1])
                            obtain rfl := Option.some.inj H
                            go_wp2
                            go_ret
                            exact ⟨by first | rfl | (simp [errW_none, errW_some] <;> rfl) | (simp [*, errW_none, errW_some] <;> rfl), by repeat (first | (with_reducible first | exact HB.out | apply below_alloc | apply pw_below_drewN | apply below_drew1 | refine below_set ?_ GE360.out) | exact HB.out)⟩
                          · rw [if_neg c26] at H
                            have c26b0 : (((rd_T109 l0 x10_1).f2) == 0) = false := beq_eq_false_iff_ne.mpr c26
                            have c26b1 : (((rd_T109 l0 x10_1).f2) != 0) = true := bne_iff_ne.mpr c26
                            (try simp only [c26b0, c26b1])
                            have H' := Aside0.mk H
                            clear H
                            go_wp2
                            go_roundg kj5
                            case measure => have := HK1.out; have := HJ5.out; omega
                            case rel => exact ⟨(wrap64 (x10_1 + 1)), (by first | rfl | (simp; done) | (simp [*]; done)), H', ⟨by have := HK1.out; have := HJ5.out; omega⟩, ⟨by repeat (first | (with_reducible first | exact HB.out | apply below_alloc | apply pw_below_drewN | apply below_drew1 | refine below_set ?_ GE360.out) | exact HB.out)⟩⟩
                        · rw [if_neg c24] at H
                          have c24b0 : (((rd_T109 l0 x10_1).f1) == 0) = false := beq_eq_false_iff_ne.mpr c24
                          have c24b1 : (((rd_T109 l0 x10_1).f1) != 0) = true := bne_iff_ne.mpr c24
                          have H' := Aside0.mk H
                          clear H
                          have hcz27_0 : wc.cell? ⟨gb360, 0, none⟩ = some (.string ((rd_T109 l0 x10_1).f0.f0)) := (blk_cell BK360.out 0).trans rfl
                          have hcz27_1 : wc.cell? ⟨gb360, 1, none⟩ = some (.int .i64 ((rd_T109 l0 x10_1).f0.f1)) := (blk_cell BK360.out 1).trans rfl
                          have hcz27_2 : wc.cell? ⟨gb360, 2, none⟩ = some (.int .i64 ((rd_T109 l0 x10_1).f0.f2)) := (blk_cell BK360.out 2).trans rfl
                          have hcz27_3 : wc.cell? ⟨gb360, 3, none⟩ = some (.int .i64 ((rd_T109 l0 x10_1).f0.f3)) := (blk_cell BK360.out 3).trans rfl
                          have hcz27_4 : wc.cell? ⟨gb360, 4, none⟩ = some (.int .i64 ((rd_T109 l0 x10_1).f1)) := (blk_cell BK360.out 4).trans rfl
                          have hcz27_5 : wc.cell? ⟨gb360, 5, none⟩ = some (.int .i64 ((rd_T109 l0 x10_1).f2)) := (blk_cell BK360.out 5).trans rfl
                          have hfz27_0 := blk_frozen BK360.out 0
                          have hfz27_1 := blk_frozen BK360.out 1
                          have hfz27_2 := blk_frozen BK360.out 2
                          have hfz27_3 := blk_frozen BK360.out 3
                          have hfz27_4 := blk_frozen BK360.out 4
                          have hfz27_5 := blk_frozen BK360.out 5
                          go_wp2_with (first | ((with_reducible refine gate_callee (f := 105) rfl ?_); refine goesL_ (some 31) rfl rfl Try.func105 (by kernel_rfl) rfl #[.int .i64 ((rd_T109 l0 x10_1).f1)] rfl (by (try simp only [List.map_toArray, List.map_cons, List.map_nil]); first | done | rfl | (simp only [List.length_drop, List.length_take]; rfl)) ?_; (with_reducible refine (position_lots.calls ((rd_T109 l0 x10_1).f1) true _ A20.out).mono ?_); rintro e w' ⟨rfl, ⟨nd, rfl⟩⟩; refine ⟨_, rfl, ?_⟩) | (go_at_call 105; (with_reducible refine (position_lots.calls ((rd_T109 l0 x10_1).f2) true _ A22.out).mono ?_); rintro e w' ⟨rfl, ⟨nd, rfl⟩⟩))
                          go_roundg kj5
                          case measure => have := HK1.out; have := HJ5.out; omega
                          case rel => exact ⟨(wrap64 (x10_1 + 1)), (by first | rfl | (simp; done) | (simp [*]; done)), H', ⟨by have := HK1.out; have := HJ5.out; omega⟩, ⟨by repeat (first | (with_reducible first | exact HB.out | apply below_alloc | apply pw_below_drewN | apply below_drew1 | refine below_set ?_ GE360.out) | exact HB.out)⟩⟩
                      · replace c23 := Bool.eq_false_iff.mpr c23
                        subst c23
                        have H1 : (some 18) = some r := by rw [if_neg (show ¬ (false = true) by decide)] at H; exact H
                        clear H
                        have H := H1
                        clear H1
                        obtain rfl := Option.some.inj H
                        have hcz28_0 : wc.cell? ⟨gb360, 0, none⟩ = some (.string ((rd_T109 l0 x10_1).f0.f0)) := (blk_cell BK360.out 0).trans rfl
                        have hcz28_1 : wc.cell? ⟨gb360, 1, none⟩ = some (.int .i64 ((rd_T109 l0 x10_1).f0.f1)) := (blk_cell BK360.out 1).trans rfl
                        have hcz28_2 : wc.cell? ⟨gb360, 2, none⟩ = some (.int .i64 ((rd_T109 l0 x10_1).f0.f2)) := (blk_cell BK360.out 2).trans rfl
                        have hcz28_3 : wc.cell? ⟨gb360, 3, none⟩ = some (.int .i64 ((rd_T109 l0 x10_1).f0.f3)) := (blk_cell BK360.out 3).trans rfl
                        have hcz28_4 : wc.cell? ⟨gb360, 4, none⟩ = some (.int .i64 ((rd_T109 l0 x10_1).f1)) := (blk_cell BK360.out 4).trans rfl
                        have hcz28_5 : wc.cell? ⟨gb360, 5, none⟩ = some (.int .i64 ((rd_T109 l0 x10_1).f2)) := (blk_cell BK360.out 5).trans rfl
                        have hfz28_0 := blk_frozen BK360.out 0
                        have hfz28_1 := blk_frozen BK360.out 1
                        have hfz28_2 := blk_frozen BK360.out 2
                        have hfz28_3 := blk_frozen BK360.out 3
                        have hfz28_4 := blk_frozen BK360.out 4
                        have hfz28_5 := blk_frozen BK360.out 5
                        go_wp2_with (first | ((with_reducible refine gate_callee (f := 105) rfl ?_); refine goesL_ (some 31) rfl rfl Try.func105 (by kernel_rfl) rfl #[.int .i64 ((rd_T109 l0 x10_1).f1)] rfl (by (try simp only [List.map_toArray, List.map_cons, List.map_nil]); first | done | rfl | (simp only [List.length_drop, List.length_take]; rfl)) ?_; (with_reducible refine (position_lots.calls ((rd_T109 l0 x10_1).f1) true _ A20.out).mono ?_); rintro e w' ⟨rfl, ⟨nd, rfl⟩⟩; refine ⟨_, rfl, ?_⟩) | (go_at_call 105; (with_reducible refine (position_lots.calls ((rd_T109 l0 x10_1).f2) false _ A22.out).mono ?_); rintro e w' ⟨rfl, ⟨nd, rfl⟩⟩))
                        go_ret
                        exact ⟨by first | rfl | (simp [errW_none, errW_some] <;> rfl) | (simp [*, errW_none, errW_some] <;> rfl), by repeat (first | (with_reducible first | exact HB.out | apply below_alloc | apply pw_below_drewN | apply below_drew1 | refine below_set ?_ GE360.out) | exact HB.out)⟩
                    · replace c21 := Bool.eq_false_iff.mpr c21
                      subst c21
                      have H1 : (some 18) = some r := by rw [if_neg (show ¬ (false = true) by decide)] at H; exact H
                      clear H
                      have H := H1
                      clear H1
                      obtain rfl := Option.some.inj H
                      have hcz29_0 : wc.cell? ⟨gb360, 0, none⟩ = some (.string ((rd_T109 l0 x10_1).f0.f0)) := (blk_cell BK360.out 0).trans rfl
                      have hcz29_1 : wc.cell? ⟨gb360, 1, none⟩ = some (.int .i64 ((rd_T109 l0 x10_1).f0.f1)) := (blk_cell BK360.out 1).trans rfl
                      have hcz29_2 : wc.cell? ⟨gb360, 2, none⟩ = some (.int .i64 ((rd_T109 l0 x10_1).f0.f2)) := (blk_cell BK360.out 2).trans rfl
                      have hcz29_3 : wc.cell? ⟨gb360, 3, none⟩ = some (.int .i64 ((rd_T109 l0 x10_1).f0.f3)) := (blk_cell BK360.out 3).trans rfl
                      have hcz29_4 : wc.cell? ⟨gb360, 4, none⟩ = some (.int .i64 ((rd_T109 l0 x10_1).f1)) := (blk_cell BK360.out 4).trans rfl
                      have hcz29_5 : wc.cell? ⟨gb360, 5, none⟩ = some (.int .i64 ((rd_T109 l0 x10_1).f2)) := (blk_cell BK360.out 5).trans rfl
                      have hfz29_0 := blk_frozen BK360.out 0
                      have hfz29_1 := blk_frozen BK360.out 1
                      have hfz29_2 := blk_frozen BK360.out 2
                      have hfz29_3 := blk_frozen BK360.out 3
                      have hfz29_4 := blk_frozen BK360.out 4
                      have hfz29_5 := blk_frozen BK360.out 5
                      go_wp2_with (first | ((with_reducible refine gate_callee (f := 105) rfl ?_); refine goesL_ (some 31) rfl rfl Try.func105 (by kernel_rfl) rfl #[.int .i64 ((rd_T109 l0 x10_1).f1)] rfl (by (try simp only [List.map_toArray, List.map_cons, List.map_nil]); first | done | rfl | (simp only [List.length_drop, List.length_take]; rfl)) ?_; (with_reducible refine (position_lots.calls ((rd_T109 l0 x10_1).f1) false _ A20.out).mono ?_); rintro e w' ⟨rfl, ⟨nd, rfl⟩⟩; refine ⟨_, rfl, ?_⟩))
                      go_ret
                      exact ⟨by first | rfl | (simp [errW_none, errW_some] <;> rfl) | (simp [*, errW_none, errW_some] <;> rfl), by repeat (first | (with_reducible first | exact HB.out | apply below_alloc | apply pw_below_drewN | apply below_drew1 | refine below_set ?_ GE360.out) | exact HB.out)⟩
            · rw [if_neg c5] at H
              exact absurd H (by simp)
          · rw [if_neg c4] at H
            exact absurd H (by simp)
        · rw [if_neg c3] at H
          have c3b0 : decide (x10_1 < (l0.length : Int)) = false := decide_eq_false c3
          clear c3
          (try simp only [c3b0])
          obtain rfl := Option.some.inj H
          go_wp2
          go_ret
          exact ⟨by first | rfl | (simp [errW_none, errW_some] <;> rfl) | (simp [*, errW_none, errW_some] <;> rfl), by repeat (first | (with_reducible first | exact HB.out | apply below_alloc | apply pw_below_drewN | apply below_drew1) | exact HB.out)⟩
def addon_Largest.l0 : Nat → Int → List (S109) → Int → Int → ByteArray → Int → Int → Int → Option (Int × ByteArray × Int × Int × Int × Int)
  | 0, _, _, _, _, _, _, _, _ => none
  | k + 1, x6, x22, x23, x24, x369000, x369001, x369002, x369003 => if x24 < x23 then (if 0 ≤ x24 then (if x24 < (x22.length : Int) then ((position_Net.f ((rd_T109 x22 x24).f0.f0) ((rd_T109 x22 x24).f0.f1) ((rd_T109 x22 x24).f0.f2) ((rd_T109 x22 x24).f0.f3) ((rd_T109 x22 x24).f1) ((rd_T109 x22 x24).f2)).bind fun t371 => (if (mx t371 (wrap64 (-t371))) > x6 then (addon_Largest.l0 k (mx t371 (wrap64 (-t371))) x22 x23 (wrap64 (x24 + 1)) ((rd_T109 x22 x24).f0.f0) ((rd_T109 x22 x24).f0.f1) ((rd_T109 x22 x24).f0.f2) ((rd_T109 x22 x24).f0.f3)) else (addon_Largest.l0 k x6 x22 x23 (wrap64 (x24 + 1)) x369000 x369001 x369002 x369003))) else (none)) else (none)) else (some (x6, x369000, x369001, x369002, x369003, 0))
def addon_Largest.f (k : Nat) (l0 : List (S109)) : Option (Int × ByteArray × Int × Int × Int × Int) := (position_Check.f k l0).bind fun t367 => (if t367 = 0 then (if (l0.length : Int) = 0 then (some (0, (⟨#[]⟩ : ByteArray), 0, 0, 0, 11)) else (addon_Largest.l0 k (-1) l0 (l0.length : Int) 0 (⟨#[]⟩ : ByteArray) 0 0 0)) else (some (0, (⟨#[]⟩ : ByteArray), 0, 0, 0, t367)))
theorem addon_Largest.mono_l : ∀ k, (∀ y0 y1 y2 y3 y4 y5 y6 y7, LeO (addon_Largest.l0 k y0 y1 y2 y3 y4 y5 y6 y7) (addon_Largest.l0 (k + 1) y0 y1 y2 y3 y4 y5 y6 y7))
  | 0 => fun _ _ _ _ _ _ _ _ r h => by simp [addon_Largest.l0] at h
  | k + 1 => by
    have ih0 := addon_Largest.mono_l k
    · intro y0 y1 y2 y3 y4 y5 y6 y7
      unfold addon_Largest.l0
      repeat' first
      | (with_reducible exact ih0 _ _ _ _ _ _ _ _)
      | (with_reducible exact position_Check.mono _ _)
      | (with_reducible exact LeO.refl _)
      | (with_reducible exact LeO.none _)
      | (with_reducible refine LeO.ite ?_ ?_)
      | (with_reducible refine LeO.bind ?_ (fun _ => ?_))
      | exact ih0 _ _ _ _ _ _ _ _
      | exact position_Check.mono _ _
      | exact LeO.none _
      | refine LeO.ite ?_ ?_
      | refine LeO.bind ?_ (fun _ => ?_)
theorem addon_Largest.mono : ∀ a0 k, LeO (addon_Largest.f k a0) (addon_Largest.f (k + 1) a0) := by
  intro a0 k
  have ih0 := addon_Largest.mono_l k
  unfold addon_Largest.f
  repeat' first
      | (with_reducible exact ih0 _ _ _ _ _ _ _ _)
      | (with_reducible exact position_Check.mono _ _)
      | (with_reducible exact LeO.refl _)
      | (with_reducible exact LeO.none _)
      | (with_reducible refine LeO.ite ?_ ?_)
      | (with_reducible refine LeO.bind ?_ (fun _ => ?_))
      | exact ih0 _ _ _ _ _ _ _ _
      | exact position_Check.mono _ _
      | exact LeO.none _
      | refine LeO.ite ?_ ?_
      | refine LeO.bind ?_ (fun _ => ?_)
def addon_Largest.T12 : Bool × List (List Nat × List Nat) := (true, [([], []), ([], []), ([1], [1]), ([0, 2], [0, 2]), ([], []), ([4], [4]), ([3, 0, 1, 2, 3], [3]), ([5, 6, 0, 1, 2, 3, 4, 5, 6], [5])])
def addon_Largest.B12 : List Nat := [0, 0, 2, 7, 0, 16, 15, 127]
theorem addon_Largest.tab12 : rtab .any (opsOf Try.f37 12) = addon_Largest.T12 := by kernel_rfl
theorem addon_Largest.bits12 : waitsOk addon_Largest.T12.2 addon_Largest.B12 = true := by kernel_rfl
set_option maxHeartbeats 8000000 in
set_option maxRecDepth 100000 in
theorem addon_Largest.calls (k : Nat) (A0 : Option Addr) (c0 : Nat) (l0 : List (S109)) (r1 : Int) (r2 : ByteArray) (r3 : Int) (r4 : Int) (r5 : Int) (r6 : Int) (w : World) (hr0 : Kd.C k109 w A0 l0.length l0) (hc0 : l0.length ≤ c0) (h : addon_Largest.f k l0 = some (r1, r2, r3, r4, r5, r6)) :
    Calls Try.prog 37 #[.slice A0 l0.length c0] w fun e w' => e = .returned (.tuple #[.int .i64 r1, .agg #[.string r2, .int .i64 r3, .int .i64 r4, .int .i64 r5], .int .i64 r6]) ∧ Below w.heap.size w w' := by
  have hu58 := Try.underlying58
  have hu109 := Try.underlying109
  have HR0 := Aside0.mk hr0
  have HC0 := Aside0.mk hc0
  clear hr0 hc0
  have HB := Aside0.mk (Below.refl w.heap.size w)
  have H : ((position_Check.f k l0).bind fun t367 => (if t367 = 0 then (if (l0.length : Int) = 0 then (some (0, (⟨#[]⟩ : ByteArray), 0, 0, 0, 11)) else (addon_Largest.l0 k (-1) l0 (l0.length : Int) 0 (⟨#[]⟩ : ByteArray) 0 0 0)) else (some (0, (⟨#[]⟩ : ByteArray), 0, 0, 0, t367)))) = some (r1, r2, r3, r4, r5, r6) := h
  clear h
  replace H := Option.bind_eq_some_iff.mp H
  obtain ⟨t367, A20, H⟩ := H
  replace H : (if t367 = 0 then (if (l0.length : Int) = 0 then (some (0, (⟨#[]⟩ : ByteArray), 0, 0, 0, 11)) else (addon_Largest.l0 k (-1) l0 (l0.length : Int) 0 (⟨#[]⟩ : ByteArray) 0 0 0)) else (some (0, (⟨#[]⟩ : ByteArray), 0, 0, 0, t367))) = some (r1, r2, r3, r4, r5, r6) := H
  have A2 := Aside0.mk A20
  clear A20
  go_enter Try.func37, Try.ntmps37
  go_upto_if 14 with (first | ((with_reducible refine gate_dst (N := 3) rfl ?_); refine box_event ?hg (N := 3) ?hd (cs := #[.string (⟨#[]⟩ : ByteArray), .int .i64 0, .int .i64 0, .int .i64 0]) (t := 58) ?hr ?_; (case hd => rfl); (case hg => rfl); (case hr => first | (go_simp; done) | (go_simp; rfl)); intro gb366 hg w3 hbox hb; have n0_ := Aside0.mk (below_step (by repeat (first | (with_reducible first | exact HB.out | apply below_alloc | apply pw_below_drewN | apply below_drew1) | exact HB.out)) hb); have n1_ := Aside0.mk (hbox); have n2_ := Aside0.mk ((by rw [hg]; exact (below_size (by repeat (first | (with_reducible first | exact HB.out | apply below_alloc | apply pw_below_drewN | apply below_drew1) | exact HB.out))) : w.heap.size ≤ gb366)); have n3_ := Aside0.mk ((by rw [hg]; exact (below_size (by repeat (first | (with_reducible first | exact HB.out | apply below_alloc | apply pw_below_drewN | apply below_drew1) | exact HB.out))) : w.heap.size ≤ gb366)); clear HB; have HB := n0_; have BK366 := n1_; have GW366 := n2_; have GE366 := n3_; clear n0_ n1_ n2_ n3_; clear hb hbox hg) | ((with_reducible refine gate_callee (f := 71) rfl ?_); refine goesL_ (some 12) rfl rfl Try.func71 (by kernel_rfl) rfl #[.slice A0 l0.length c0] rfl (by (try simp only [List.map_toArray, List.map_cons, List.map_nil]); first | done | rfl | (simp only [List.length_drop, List.length_take]; rfl)) ?_; (with_reducible refine (position_Check.calls k _ _ l0 t367 _ ?side1 ?side2 A2.out).mono ?_); (case side1 => repeat (first | exact (Kd.C_below HR0.out HB.out) | (with_reducible refine Kd.C_alloc ?_ _) | (with_reducible refine Kd.C_drewN ?_ _) | (with_reducible refine Kd.C_drew ?_))); (case side2 => exact HC0.out); rintro e w4 ⟨rfl, hb⟩; refine ⟨_, rfl, ?_⟩; have n0_ := Aside0.mk (blk_below (g := gb366) (o := .cells #[.string (⟨#[]⟩ : ByteArray), .int .i64 0, .int .i64 0, .int .i64 0] 58 (0, 0)) (by (with_reducible repeat (first | refine blk_drewN ?_ _ | refine blk_drew ?_ | refine blk_alloc ?_ _)); exact BK366.out) hb); have n1_ := Aside0.mk (below_step (by repeat (first | (with_reducible first | exact HB.out | apply below_alloc | apply pw_below_drewN | apply below_drew1 | refine below_set ?_ GE366.out) | exact HB.out)) hb); clear BK366; clear HB; have BK366 := n0_; have HB := n1_; clear n0_ n1_; (try clear hb); (try clear hb2); (try clear hk); (try clear hi)))
  (try simp only [Act.put, List.setIfInBounds_toArray, List.set_cons_zero, List.set_cons_succ])
  by_cases c5 : t367 = 0
  · rw [if_pos c5] at H
    have c5b0 : (t367 == 0) = true := beq_iff_eq.mpr c5
    have c5b1 : (t367 != 0) = false := bne_eq_false_iff_eq.mpr c5
    clear c5
    (try simp only [c5b0, c5b1])
    by_cases c6 : (l0.length : Int) = 0
    · rw [if_pos c6] at H
      have c6b0 : ((l0.length : Int) == 0) = true := beq_iff_eq.mpr c6
      have c6b1 : ((l0.length : Int) != 0) = false := bne_eq_false_iff_eq.mpr c6
      clear c6
      (try simp only [c6b0, c6b1])
      simp only [Option.some.injEq, Prod.mk.injEq] at H
      obtain ⟨rfl, rfl, rfl, rfl, rfl, rfl⟩ := H
      have hcz7_0 : w4.cell? ⟨gb366, 0, none⟩ = some (.string (⟨#[]⟩ : ByteArray)) := (blk_cell BK366.out 0).trans rfl
      have hcz7_1 : w4.cell? ⟨gb366, 1, none⟩ = some (.int .i64 0) := (blk_cell BK366.out 1).trans rfl
      have hcz7_2 : w4.cell? ⟨gb366, 2, none⟩ = some (.int .i64 0) := (blk_cell BK366.out 2).trans rfl
      have hcz7_3 : w4.cell? ⟨gb366, 3, none⟩ = some (.int .i64 0) := (blk_cell BK366.out 3).trans rfl
      have hfz7_0 := blk_frozen BK366.out 0
      have hfz7_1 := blk_frozen BK366.out 1
      have hfz7_2 := blk_frozen BK366.out 2
      have hfz7_3 := blk_frozen BK366.out 3
      go_wp2
      refine bodyPost_ret (results_list (rs := [.tmp 2, .cell 3 58, .tmp 4]) rfl (by simp) (.tmp (.cell gb366 58 #[.string (⟨#[]⟩ : ByteArray), .int .i64 0, .int .i64 0, .int .i64 0] (0, 0) _ rfl (by (with_reducible repeat (first | refine blk_drewN ?_ _ | refine blk_drew ?_ | refine blk_alloc ?_ _)); refine blk_put (cs := #[.string (⟨#[]⟩ : ByteArray), .int .i64 0, .int .i64 0, .int .i64 0]) ?_ 3 _ rfl; (with_reducible repeat (first | refine blk_drewN ?_ _ | refine blk_drew ?_ | refine blk_alloc ?_ _)); refine blk_put (cs := #[.string (⟨#[]⟩ : ByteArray), .int .i64 0, .int .i64 0, .int .i64 0]) ?_ 2 _ rfl; (with_reducible repeat (first | refine blk_drewN ?_ _ | refine blk_drew ?_ | refine blk_alloc ?_ _)); refine blk_put (cs := #[.string (⟨#[]⟩ : ByteArray), .int .i64 0, .int .i64 0, .int .i64 0]) ?_ 1 _ rfl; (with_reducible repeat (first | refine blk_drewN ?_ _ | refine blk_drew ?_ | refine blk_alloc ?_ _)); refine blk_put (cs := #[.string (⟨#[]⟩ : ByteArray), .int .i64 0, .int .i64 0, .int .i64 0]) ?_ 0 _ rfl; (with_reducible repeat (first | refine blk_drewN ?_ _ | refine blk_drew ?_ | refine blk_alloc ?_ _)); exact BK366.out) Try.underlying58 rfl (by kernel_rfl) (.tmp .nil)))) rfl ?_
      exact ⟨by first | rfl | (simp [errW_none, errW_some] <;> rfl) | (simp [*, errW_none, errW_some] <;> rfl), by repeat (first | (with_reducible first | exact HB.out | apply below_alloc | apply pw_below_drewN | apply below_drew1 | refine below_set ?_ GE366.out) | exact HB.out)⟩
    · rw [if_neg c6] at H
      have c6b0 : ((l0.length : Int) == 0) = false := beq_eq_false_iff_ne.mpr c6
      have c6b1 : ((l0.length : Int) != 0) = true := bne_iff_ne.mpr c6
      have c6b2 : ¬ (l0 = []) := fun h_ => c6 (by rw [h_]; rfl)
      (try simp only [c6b0, c6b1, c6b2])
      have H' := Aside0.mk H
      clear H
      go_wp2_with (first | ((with_reducible refine gate_dst (N := 7) rfl ?_); refine box_event ?hg (N := 7) ?hd (cs := #[.string (⟨#[]⟩ : ByteArray), .int .i64 0, .int .i64 0, .int .i64 0]) (t := 58) ?hr ?_; (case hd => rfl); (case hg => rfl); (case hr => first | (go_simp; done) | (go_simp; rfl)); intro gb368 hg w8 hbox hb; have n0_ := Aside0.mk (blk_below (g := gb366) (o := .cells #[.string (⟨#[]⟩ : ByteArray), .int .i64 0, .int .i64 0, .int .i64 0] 58 (0, 0)) (by (with_reducible repeat (first | refine blk_drewN ?_ _ | refine blk_drew ?_ | refine blk_alloc ?_ _)); exact BK366.out) hb); have n1_ := Aside0.mk (below_step (by repeat (first | (with_reducible first | exact HB.out | apply below_alloc | apply pw_below_drewN | apply below_drew1 | refine below_set ?_ GE366.out) | exact HB.out)) hb); have n2_ := Aside0.mk (hbox); have n3_ := Aside0.mk ((by rw [hg]; exact (below_size (by repeat (first | (with_reducible first | exact HB.out | apply below_alloc | apply pw_below_drewN | apply below_drew1 | refine below_set ?_ GE366.out) | exact HB.out))) : w.heap.size ≤ gb368)); have n4_ := Aside0.mk ((by rw [hg]; exact (below_size (by repeat (first | (with_reducible first | exact HB.out | apply below_alloc | apply pw_below_drewN | apply below_drew1 | refine below_set ?_ GE366.out) | exact HB.out))) : w.heap.size ≤ gb368)); have n5_ := Aside0.mk ((by rw [hg]; exact Nat.ne_of_lt (blk_lt (g := gb366) (o := .cells #[.string (⟨#[]⟩ : ByteArray), .int .i64 0, .int .i64 0, .int .i64 0] 58 (0, 0)) (by (with_reducible repeat (first | refine blk_drewN ?_ _ | refine blk_drew ?_ | refine blk_alloc ?_ _)); exact BK366.out)) : gb366 ≠ gb368)); have n6_ := Aside0.mk ((by rw [hg]; exact Nat.ne_of_gt (blk_lt (g := gb366) (o := .cells #[.string (⟨#[]⟩ : ByteArray), .int .i64 0, .int .i64 0, .int .i64 0] 58 (0, 0)) (by (with_reducible repeat (first | refine blk_drewN ?_ _ | refine blk_drew ?_ | refine blk_alloc ?_ _)); exact BK366.out)) : gb368 ≠ gb366)); clear BK366; clear HB; have BK366 := n0_; have HB := n1_; have BK368 := n2_; have GW368 := n3_; have GE368 := n4_; have NB366_368 := n5_; have NB368_366 := n6_; clear n0_ n1_ n2_ n3_ n4_ n5_ n6_; clear hb hbox hg; have hnb9 := NB368_366.out; have hnc9 := NB366_368.out; have hcz10_0 : w8.cell? ⟨gb368, 0, none⟩ = some (.string (⟨#[]⟩ : ByteArray)) := (blk_cell BK368.out 0).trans rfl; have hcz10_1 : w8.cell? ⟨gb368, 1, none⟩ = some (.int .i64 0) := (blk_cell BK368.out 1).trans rfl; have hcz10_2 : w8.cell? ⟨gb368, 2, none⟩ = some (.int .i64 0) := (blk_cell BK368.out 2).trans rfl; have hcz10_3 : w8.cell? ⟨gb368, 3, none⟩ = some (.int .i64 0) := (blk_cell BK368.out 3).trans rfl; have hfz10_0 := blk_frozen BK368.out 0; have hfz10_1 := blk_frozen BK368.out 1; have hfz10_2 := blk_frozen BK368.out 2; have hfz10_3 := blk_frozen BK368.out 3))
      go_loopg [6, 24] k (fun kq v6 v24 w' => ∃ (x6_1 : Int) (x24_1 : Int) (x369000_1 : ByteArray) (x369001_1 : Int) (x369002_1 : Int) (x369003_1 : Int), v6 = .int .i64 x6_1 ∧ v24 = .int .i64 x24_1 ∧ Aside0 (addon_Largest.l0 kq x6_1 l0 (l0.length : Int) x24_1 x369000_1 x369001_1 x369002_1 x369003_1 = some (r1, r2, r3, r4, r5, r6)) ∧ Aside0 (kq ≤ k) ∧ Aside0 (w'.heap[gb366]? = some (.cells #[.string (⟨#[]⟩ : ByteArray), .int .i64 0, .int .i64 0, .int .i64 0] 58 (0, 0))) ∧ Aside0 (w'.heap[gb368]? = some (.cells #[.string x369000_1, .int .i64 x369001_1, .int .i64 x369002_1, .int .i64 x369003_1] 58 (0, 0))) ∧ Aside0 (Below w.heap.size w w'))
      case atStart => exact ⟨((-1)), (0), ((⟨#[]⟩ : ByteArray)), (0), (0), (0), (by first | rfl | (simp; done) | (simp [*]; done)), (by first | rfl | (simp; done) | (simp [*]; done)), H', ⟨Nat.le_refl _⟩, ⟨by (with_reducible repeat (first | refine blk_drewN ?_ _ | refine blk_drew ?_ | refine blk_alloc ?_ _)); refine blk_far ?_ NB366_368.out _; (with_reducible repeat (first | refine blk_drewN ?_ _ | refine blk_drew ?_ | refine blk_alloc ?_ _)); refine blk_far ?_ NB366_368.out _; (with_reducible repeat (first | refine blk_drewN ?_ _ | refine blk_drew ?_ | refine blk_alloc ?_ _)); refine blk_far ?_ NB366_368.out _; (with_reducible repeat (first | refine blk_drewN ?_ _ | refine blk_drew ?_ | refine blk_alloc ?_ _)); refine blk_far ?_ NB366_368.out _; (with_reducible repeat (first | refine blk_drewN ?_ _ | refine blk_drew ?_ | refine blk_alloc ?_ _)); exact BK366.out⟩, ⟨by (with_reducible repeat (first | refine blk_drewN ?_ _ | refine blk_drew ?_ | refine blk_alloc ?_ _)); refine blk_put (cs := #[.string (⟨#[]⟩ : ByteArray), .int .i64 0, .int .i64 0, .int .i64 0]) ?_ 3 _ rfl; (with_reducible repeat (first | refine blk_drewN ?_ _ | refine blk_drew ?_ | refine blk_alloc ?_ _)); refine blk_put (cs := #[.string (⟨#[]⟩ : ByteArray), .int .i64 0, .int .i64 0, .int .i64 0]) ?_ 2 _ rfl; (with_reducible repeat (first | refine blk_drewN ?_ _ | refine blk_drew ?_ | refine blk_alloc ?_ _)); refine blk_put (cs := #[.string (⟨#[]⟩ : ByteArray), .int .i64 0, .int .i64 0, .int .i64 0]) ?_ 1 _ rfl; (with_reducible repeat (first | refine blk_drewN ?_ _ | refine blk_drew ?_ | refine blk_alloc ?_ _)); refine blk_put (cs := #[.string (⟨#[]⟩ : ByteArray), .int .i64 0, .int .i64 0, .int .i64 0]) ?_ 0 _ rfl; (with_reducible repeat (first | refine blk_drewN ?_ _ | refine blk_drew ?_ | refine blk_alloc ?_ _)); exact BK368.out⟩, ⟨by repeat (first | (with_reducible first | exact HB.out | apply below_alloc | apply pw_below_drewN | apply below_drew1 | refine below_set ?_ GE366.out | refine below_set ?_ GE368.out) | exact HB.out)⟩⟩
      case round =>
        clear H'
        try clear p2
        try clear c3
        try clear c5
        try clear c5b0
        try clear c5b1
        try clear c6
        try clear c6b0
        try clear c6b1
        try clear c6b2
        try clear c7
        try clear c9
        try clear hcz10_0
        try clear hcz10_1
        try clear hcz10_2
        try clear hcz10_3
        try clear hcz7_0
        try clear hcz7_1
        try clear hcz7_2
        try clear hcz7_3
        try clear hfz10_0
        try clear hfz10_1
        try clear hfz10_2
        try clear hfz10_3
        try clear hfz7_0
        try clear hfz7_1
        try clear hfz7_2
        try clear hfz7_3
        obtain ⟨x6_1, x24_1, x369000_1, x369001_1, x369002_1, x369003_1, rfl, rfl, HA, HK1, BK366, BK368, HB⟩ := hrel
        cases gk with
        | zero => exact absurd HA.out (by simp [addon_Largest.l0])
        | succ k1 =>
          have H := HA.out
          clear HA
          simp only [addon_Largest.l0] at H
          by_cases c11 : x24_1 < (l0.length : Int)
          · rw [if_pos c11] at H
            have c11b0 : decide (x24_1 < (l0.length : Int)) = true := decide_eq_true c11
            clear c11
            (try simp only [c11b0])
            by_cases c12 : 0 ≤ x24_1
            · rw [if_pos c12] at H
              have c12b0 : decide (0 ≤ x24_1) = true := decide_eq_true c12
              clear c12
              by_cases c13 : x24_1 < (l0.length : Int)
              · rw [if_pos c13] at H
                have c13b0 : decide (x24_1 < (l0.length : Int)) = true := decide_eq_true c13
                clear c13
                replace H := Option.bind_eq_some_iff.mp H
                obtain ⟨t371, A140, H⟩ := H
                replace H : (if (mx t371 (wrap64 (-t371))) > x6_1 then (addon_Largest.l0 k1 (mx t371 (wrap64 (-t371))) l0 (l0.length : Int) (wrap64 (x24_1 + 1)) ((rd_T109 l0 x24_1).f0.f0) ((rd_T109 l0 x24_1).f0.f1) ((rd_T109 l0 x24_1).f0.f2) ((rd_T109 l0 x24_1).f0.f3)) else (addon_Largest.l0 k1 x6_1 l0 (l0.length : Int) (wrap64 (x24_1 + 1)) x369000_1 x369001_1 x369002_1 x369003_1)) = some (r1, r2, r3, r4, r5, r6) := H
                have A14 := Aside0.mk A140
                clear A140
                obtain ⟨ji15, hji15⟩ : ∃ j_ : Int, (mx t371 (wrap64 (-t371))) = j_ := ⟨_, rfl⟩
                replace H : (if (ji15) > x6_1 then (addon_Largest.l0 k1 ji15 l0 (l0.length : Int) (wrap64 (x24_1 + 1)) ((rd_T109 l0 x24_1).f0.f0) ((rd_T109 l0 x24_1).f0.f1) ((rd_T109 l0 x24_1).f0.f2) ((rd_T109 l0 x24_1).f0.f3)) else (addon_Largest.l0 k1 x6_1 l0 (l0.length : Int) (wrap64 (x24_1 + 1)) x369000_1 x369001_1 x369002_1 x369003_1)) = some (r1, r2, r3, r4, r5, r6) := by first | (rw [hji15] at H; exact H) | (simp only [hji15] at H ⊢; exact H)
                (try rw [hji15] at A14)
                have hji15_ : (if t371 < (wrap64 (-t371)) then (wrap64 (-t371)) else t371) = ji15 := hji15
                have p369 : 0 ≤ (x24_1 : Int) := of_decide_eq_true (by first | (with_reducible assumption) | assumption)
                have q369 : x24_1 < (l0.length : Int) := of_decide_eq_true (by first | (with_reducible assumption) | assumption)
                obtain ⟨ad369, e369, hx369_0, hx369_1, hx369_2, hx369_3, hx369_4, hx369_5⟩ := at_T109 HR0.out x24_1 p369 q369
                cases e369
                replace hx369_0 := (HB.out.cell (World.block_lt_of_cell? w _ hx369_0)).trans hx369_0
                replace hx369_1 := (HB.out.cell (World.block_lt_of_cell? w _ hx369_1)).trans hx369_1
                replace hx369_2 := (HB.out.cell (World.block_lt_of_cell? w _ hx369_2)).trans hx369_2
                replace hx369_3 := (HB.out.cell (World.block_lt_of_cell? w _ hx369_3)).trans hx369_3
                replace hx369_4 := (HB.out.cell (World.block_lt_of_cell? w _ hx369_4)).trans hx369_4
                replace hx369_5 := (HB.out.cell (World.block_lt_of_cell? w _ hx369_5)).trans hx369_5
                replace p369 := eq_true p369
                replace q369 := eq_true q369
                go_upto_if 35 with (first | ((with_reducible refine gate_dst (N := 9) rfl ?_); refine box_event ?hg (N := 9) ?hd (cs := #[.string (⟨#[]⟩ : ByteArray), .int .i64 0, .int .i64 0, .int .i64 0, .int .i64 0, .int .i64 0]) (t := 109) ?hr ?_; (case hd => rfl); (case hg => rfl); (case hr => first | (go_simp; done) | (go_simp; rfl)); intro gb370 hg w16 hbox hb; have n0_ := Aside0.mk (blk_below (g := gb366) (o := .cells #[.string (⟨#[]⟩ : ByteArray), .int .i64 0, .int .i64 0, .int .i64 0] 58 (0, 0)) (by (with_reducible repeat (first | refine blk_drewN ?_ _ | refine blk_drew ?_ | refine blk_alloc ?_ _)); exact BK366.out) hb); have n1_ := Aside0.mk (blk_below (g := gb368) (o := .cells #[.string x369000_1, .int .i64 x369001_1, .int .i64 x369002_1, .int .i64 x369003_1] 58 (0, 0)) (by (with_reducible repeat (first | refine blk_drewN ?_ _ | refine blk_drew ?_ | refine blk_alloc ?_ _)); exact BK368.out) hb); have n2_ := Aside0.mk (below_step (by repeat (first | (with_reducible first | exact HB.out | apply below_alloc | apply pw_below_drewN | apply below_drew1 | refine below_set ?_ GE366.out | refine below_set ?_ GE368.out) | exact HB.out)) hb); have n3_ := Aside0.mk (hbox); have n4_ := Aside0.mk ((by rw [hg]; exact (below_size (by repeat (first | (with_reducible first | exact HB.out | apply below_alloc | apply pw_below_drewN | apply below_drew1 | refine below_set ?_ GE366.out | refine below_set ?_ GE368.out) | exact HB.out))) : w.heap.size ≤ gb370)); have n5_ := Aside0.mk ((by rw [hg]; exact (below_size (by repeat (first | (with_reducible first | exact HB.out | apply below_alloc | apply pw_below_drewN | apply below_drew1 | refine below_set ?_ GE366.out | refine below_set ?_ GE368.out) | exact HB.out))) : w.heap.size ≤ gb370)); have n6_ := Aside0.mk ((by rw [hg]; exact Nat.ne_of_lt (blk_lt (g := gb366) (o := .cells #[.string (⟨#[]⟩ : ByteArray), .int .i64 0, .int .i64 0, .int .i64 0] 58 (0, 0)) (by (with_reducible repeat (first | refine blk_drewN ?_ _ | refine blk_drew ?_ | refine blk_alloc ?_ _)); exact BK366.out)) : gb366 ≠ gb370)); have n7_ := Aside0.mk ((by rw [hg]; exact Nat.ne_of_gt (blk_lt (g := gb366) (o := .cells #[.string (⟨#[]⟩ : ByteArray), .int .i64 0, .int .i64 0, .int .i64 0] 58 (0, 0)) (by (with_reducible repeat (first | refine blk_drewN ?_ _ | refine blk_drew ?_ | refine blk_alloc ?_ _)); exact BK366.out)) : gb370 ≠ gb366)); have n8_ := Aside0.mk ((by rw [hg]; exact Nat.ne_of_lt (blk_lt (g := gb368) (o := .cells #[.string x369000_1, .int .i64 x369001_1, .int .i64 x369002_1, .int .i64 x369003_1] 58 (0, 0)) (by (with_reducible repeat (first | refine blk_drewN ?_ _ | refine blk_drew ?_ | refine blk_alloc ?_ _)); exact BK368.out)) : gb368 ≠ gb370)); have n9_ := Aside0.mk ((by rw [hg]; exact Nat.ne_of_gt (blk_lt (g := gb368) (o := .cells #[.string x369000_1, .int .i64 x369001_1, .int .i64 x369002_1, .int .i64 x369003_1] 58 (0, 0)) (by (with_reducible repeat (first | refine blk_drewN ?_ _ | refine blk_drew ?_ | refine blk_alloc ?_ _)); exact BK368.out)) : gb370 ≠ gb368)); clear BK366; clear BK368; clear HB; have BK366 := n0_; have BK368 := n1_; have HB := n2_; have BK370 := n3_; have GW370 := n4_; have GE370 := n5_; have NB366_370 := n6_; have NB370_366 := n7_; have NB368_370 := n8_; have NB370_368 := n9_; clear n0_ n1_ n2_ n3_ n4_ n5_ n6_ n7_ n8_ n9_; clear hb hbox hg; have hnb17 := NB370_366.out; have hnc17 := NB366_370.out; have hnb18 := NB370_368.out; have hnc18 := NB368_370.out; have hcz19_0 : w16.cell? ⟨gb370, 0, none⟩ = some (.string (⟨#[]⟩ : ByteArray)) := (blk_cell BK370.out 0).trans rfl; have hcz19_1 : w16.cell? ⟨gb370, 1, none⟩ = some (.int .i64 0) := (blk_cell BK370.out 1).trans rfl; have hcz19_2 : w16.cell? ⟨gb370, 2, none⟩ = some (.int .i64 0) := (blk_cell BK370.out 2).trans rfl; have hcz19_3 : w16.cell? ⟨gb370, 3, none⟩ = some (.int .i64 0) := (blk_cell BK370.out 3).trans rfl; have hcz19_4 : w16.cell? ⟨gb370, 4, none⟩ = some (.int .i64 0) := (blk_cell BK370.out 4).trans rfl; have hcz19_5 : w16.cell? ⟨gb370, 5, none⟩ = some (.int .i64 0) := (blk_cell BK370.out 5).trans rfl; have hfz19_0 := blk_frozen BK370.out 0; have hfz19_1 := blk_frozen BK370.out 1; have hfz19_2 := blk_frozen BK370.out 2; have hfz19_3 := blk_frozen BK370.out 3; have hfz19_4 := blk_frozen BK370.out 4; have hfz19_5 := blk_frozen BK370.out 5) | ((with_reducible refine gate_callee (f := 72) rfl ?_); refine goesL_ (some 29) rfl rfl Try.func72 (by kernel_rfl) rfl #[.agg #[.string ((rd_T109 l0 x24_1).f0.f0), .int .i64 ((rd_T109 l0 x24_1).f0.f1), .int .i64 ((rd_T109 l0 x24_1).f0.f2), .int .i64 ((rd_T109 l0 x24_1).f0.f3), .int .i64 ((rd_T109 l0 x24_1).f1), .int .i64 ((rd_T109 l0 x24_1).f2)]] rfl (by (try simp only [List.map_toArray, List.map_cons, List.map_nil]); first | done | rfl | (simp only [List.length_drop, List.length_take]; rfl)) ?_; (with_reducible refine (position_Net.calls ((rd_T109 l0 x24_1).f0.f0) ((rd_T109 l0 x24_1).f0.f1) ((rd_T109 l0 x24_1).f0.f2) ((rd_T109 l0 x24_1).f0.f3) ((rd_T109 l0 x24_1).f1) ((rd_T109 l0 x24_1).f2) t371 _ A14.out).mono ?_); rintro e w20 ⟨rfl, hb⟩; refine ⟨_, rfl, ?_⟩; have n0_ := Aside0.mk (blk_below (g := gb366) (o := .cells #[.string (⟨#[]⟩ : ByteArray), .int .i64 0, .int .i64 0, .int .i64 0] 58 (0, 0)) (by (with_reducible repeat (first | refine blk_drewN ?_ _ | refine blk_drew ?_ | refine blk_alloc ?_ _)); refine blk_far ?_ NB366_370.out _; (with_reducible repeat (first | refine blk_drewN ?_ _ | refine blk_drew ?_ | refine blk_alloc ?_ _)); refine blk_far ?_ NB366_370.out _; (with_reducible repeat (first | refine blk_drewN ?_ _ | refine blk_drew ?_ | refine blk_alloc ?_ _)); refine blk_far ?_ NB366_370.out _; (with_reducible repeat (first | refine blk_drewN ?_ _ | refine blk_drew ?_ | refine blk_alloc ?_ _)); refine blk_far ?_ NB366_370.out _; (with_reducible repeat (first | refine blk_drewN ?_ _ | refine blk_drew ?_ | refine blk_alloc ?_ _)); refine blk_far ?_ NB366_370.out _; (with_reducible repeat (first | refine blk_drewN ?_ _ | refine blk_drew ?_ | refine blk_alloc ?_ _)); refine blk_far ?_ NB366_370.out _; (with_reducible repeat (first | refine blk_drewN ?_ _ | refine blk_drew ?_ | refine blk_alloc ?_ _)); exact BK366.out) hb); have n1_ := Aside0.mk (blk_below (g := gb368) (o := .cells #[.string x369000_1, .int .i64 x369001_1, .int .i64 x369002_1, .int .i64 x369003_1] 58 (0, 0)) (by (with_reducible repeat (first | refine blk_drewN ?_ _ | refine blk_drew ?_ | refine blk_alloc ?_ _)); refine blk_far ?_ NB368_370.out _; (with_reducible repeat (first | refine blk_drewN ?_ _ | refine blk_drew ?_ | refine blk_alloc ?_ _)); refine blk_far ?_ NB368_370.out _; (with_reducible repeat (first | refine blk_drewN ?_ _ | refine blk_drew ?_ | refine blk_alloc ?_ _)); refine blk_far ?_ NB368_370.out _; (with_reducible repeat (first | refine blk_drewN ?_ _ | refine blk_drew ?_ | refine blk_alloc ?_ _)); refine blk_far ?_ NB368_370.out _; (with_reducible repeat (first | refine blk_drewN ?_ _ | refine blk_drew ?_ | refine blk_alloc ?_ _)); refine blk_far ?_ NB368_370.out _; (with_reducible repeat (first | refine blk_drewN ?_ _ | refine blk_drew ?_ | refine blk_alloc ?_ _)); refine blk_far ?_ NB368_370.out _; (with_reducible repeat (first | refine blk_drewN ?_ _ | refine blk_drew ?_ | refine blk_alloc ?_ _)); exact BK368.out) hb); have n2_ := Aside0.mk (blk_below (g := gb370) (o := .cells #[.string ((rd_T109 l0 x24_1).f0.f0), .int .i64 ((rd_T109 l0 x24_1).f0.f1), .int .i64 ((rd_T109 l0 x24_1).f0.f2), .int .i64 ((rd_T109 l0 x24_1).f0.f3), .int .i64 ((rd_T109 l0 x24_1).f1), .int .i64 ((rd_T109 l0 x24_1).f2)] 109 (0, 0)) (by (with_reducible repeat (first | refine blk_drewN ?_ _ | refine blk_drew ?_ | refine blk_alloc ?_ _)); refine blk_put (cs := #[.string ((rd_T109 l0 x24_1).f0.f0), .int .i64 ((rd_T109 l0 x24_1).f0.f1), .int .i64 ((rd_T109 l0 x24_1).f0.f2), .int .i64 ((rd_T109 l0 x24_1).f0.f3), .int .i64 ((rd_T109 l0 x24_1).f1), .int .i64 0]) ?_ 5 _ rfl; (with_reducible repeat (first | refine blk_drewN ?_ _ | refine blk_drew ?_ | refine blk_alloc ?_ _)); refine blk_put (cs := #[.string ((rd_T109 l0 x24_1).f0.f0), .int .i64 ((rd_T109 l0 x24_1).f0.f1), .int .i64 ((rd_T109 l0 x24_1).f0.f2), .int .i64 ((rd_T109 l0 x24_1).f0.f3), .int .i64 0, .int .i64 0]) ?_ 4 _ rfl; (with_reducible repeat (first | refine blk_drewN ?_ _ | refine blk_drew ?_ | refine blk_alloc ?_ _)); refine blk_put (cs := #[.string ((rd_T109 l0 x24_1).f0.f0), .int .i64 ((rd_T109 l0 x24_1).f0.f1), .int .i64 ((rd_T109 l0 x24_1).f0.f2), .int .i64 0, .int .i64 0, .int .i64 0]) ?_ 3 _ rfl; (with_reducible repeat (first | refine blk_drewN ?_ _ | refine blk_drew ?_ | refine blk_alloc ?_ _)); refine blk_put (cs := #[.string ((rd_T109 l0 x24_1).f0.f0), .int .i64 ((rd_T109 l0 x24_1).f0.f1), .int .i64 0, .int .i64 0, .int .i64 0, .int .i64 0]) ?_ 2 _ rfl; (with_reducible repeat (first | refine blk_drewN ?_ _ | refine blk_drew ?_ | refine blk_alloc ?_ _)); refine blk_put (cs := #[.string ((rd_T109 l0 x24_1).f0.f0), .int .i64 0, .int .i64 0, .int .i64 0, .int .i64 0, .int .i64 0]) ?_ 1 _ rfl; (with_reducible repeat (first | refine blk_drewN ?_ _ | refine blk_drew ?_ | refine blk_alloc ?_ _)); refine blk_put (cs := #[.string (⟨#[]⟩ : ByteArray), .int .i64 0, .int .i64 0, .int .i64 0, .int .i64 0, .int .i64 0]) ?_ 0 _ rfl; (with_reducible repeat (first | refine blk_drewN ?_ _ | refine blk_drew ?_ | refine blk_alloc ?_ _)); exact BK370.out) hb); have n3_ := Aside0.mk (below_step (by repeat (first | (with_reducible first | exact HB.out | apply below_alloc | apply pw_below_drewN | apply below_drew1 | refine below_set ?_ GE366.out | refine below_set ?_ GE368.out | refine below_set ?_ GE370.out) | exact HB.out)) hb); clear BK366; clear BK368; clear BK370; clear HB; have BK366 := n0_; have BK368 := n1_; have BK370 := n2_; have HB := n3_; clear n0_ n1_ n2_ n3_; (try clear hb); (try clear hb2); (try clear hk); (try clear hi)))
                (try simp only [Act.put, List.setIfInBounds_toArray, List.set_cons_zero, List.set_cons_succ])
                by_cases c21 : (ji15) > x6_1
                · rw [if_pos c21] at H
                  have c21b0 : decide (x6_1 < (ji15)) = true := decide_eq_true c21
                  clear c21
                  (try simp only [c21b0])
                  have H' := Aside0.mk H
                  clear H
                  try go_wp2
                  have n0_ := Aside0.mk (blk_drew BK366.out)
                  have n1_ := Aside0.mk (blk_drew BK368.out)
                  have n2_ := Aside0.mk (blk_drew BK370.out)
                  have n3_ := Aside0.mk (below_drew1 HB.out)
                  clear BK366
                  clear BK368
                  clear BK370
                  clear HB
                  have BK366 := n0_
                  have BK368 := n1_
                  have BK370 := n2_
                  have HB := n3_
                  clear n0_ n1_ n2_ n3_
                  refine start_ (n := 8) (S := fun w' => w'.cell? ⟨gb370, 0, none⟩ = some (.string ((rd_T109 l0 x24_1).f0.f0)) ∧ w'.cell? ⟨gb370, 1, none⟩ = some (.int .i64 ((rd_T109 l0 x24_1).f0.f1)) ∧ w'.cell? ⟨gb370, 2, none⟩ = some (.int .i64 ((rd_T109 l0 x24_1).f0.f2)) ∧ w'.cell? ⟨gb370, 3, none⟩ = some (.int .i64 ((rd_T109 l0 x24_1).f0.f3)) ∧ w'.cell? ⟨gb370, 4, none⟩ = some (.int .i64 ((rd_T109 l0 x24_1).f1)) ∧ w'.cell? ⟨gb370, 5, none⟩ = some (.int .i64 ((rd_T109 l0 x24_1).f2))) (ds := []) #[false, false, false, false, false, false, false, false] (by kernel_rfl) rfl rfl ⟨(blk_cell BK370.out 0).trans rfl, (blk_cell BK370.out 1).trans rfl, (blk_cell BK370.out 2).trans rfl, (blk_cell BK370.out 3).trans rfl, (blk_cell BK370.out 4).trans rfl, (blk_cell BK370.out 5).trans rfl⟩ (fun hHeld => ?_); refine with_tabW addon_Largest.tab12 addon_Largest.bits12 (fun HT_ HW_ => ?_)
                  generalize w20.drew = w22 at BK366 BK368 BK370 HB hHeld ⊢
                  refine pure_ (i := 0) (N := some 36) (v := ?_) (a' := ?_) #[true, false, false, false, false, false, false, false] rfl rfl (any_of HT_.out (by kernel_rfl)) (fun _ _ _ h => h) (Or.inl ⟨by rfl, ?_⟩) ?_ ?_
                  rotate_left
                  · intro w'
                    go_simp
                    with_reducible rfl
                  rotate_left
                  · simp only [Act.put, List.setIfInBounds_toArray, List.set_cons_zero, List.set_cons_succ, i64_w, i32_w]
                    rfl
                  refine pure_ (i := 1) (N := some 37) (v := ?_) (a' := ?_) #[true, true, false, false, false, false, false, false] rfl rfl (any_of HT_.out (by kernel_rfl)) (fun _ _ _ h => h) (Or.inl ⟨by rfl, ?_⟩) ?_ ?_
                  rotate_left
                  · intro w'
                    go_simp
                    with_reducible rfl
                  rotate_left
                  · simp only [Act.put, List.setIfInBounds_toArray, List.set_cons_zero, List.set_cons_succ, i64_w, i32_w]
                    rfl
                  refine pure_ (i := 2) (N := some 38) (v := ?_) (a' := ?_) #[true, true, true, false, false, false, false, false] rfl rfl (any_of HT_.out (by kernel_rfl)) (fun _ _ _ h => h) (Or.inl ⟨by rfl, ?_⟩) ?_ ?_
                  rotate_left
                  · intro w'
                    go_simp
                    with_reducible rfl
                  rotate_left
                  · simp only [Act.put, List.setIfInBounds_toArray, List.set_cons_zero, List.set_cons_succ, i64_w, i32_w]
                    rfl
                  refine pure_ (i := 3) (N := some 39) (v := ?_) (a' := ?_) #[true, true, true, true, false, false, false, false] rfl rfl (any_of HT_.out (by kernel_rfl)) (fun _ _ _ h => h) (Or.inl ⟨by rfl, ?_⟩) ?_ ?_
                  rotate_left
                  · intro w'
                    go_simp
                    with_reducible rfl
                  rotate_left
                  · simp only [Act.put, List.setIfInBounds_toArray, List.set_cons_zero, List.set_cons_succ, i64_w, i32_w]
                    rfl
                  refine pure_ (i := 4) (N := some 40) (v := ?_) (a' := ?_) #[true, true, true, true, true, false, false, false] rfl rfl (any_of HT_.out (by kernel_rfl)) (fun _ _ _ h => h) (Or.inl ⟨by rfl, ?_⟩) ?_ ?_
                  rotate_left
                  · intro w'
                    go_simp
                    with_reducible rfl
                  rotate_left
                  · simp only [Act.put, List.setIfInBounds_toArray, List.set_cons_zero, List.set_cons_succ, i64_w, i32_w]
                    rfl
                  refine pure_ (i := 6) (N := some 6) (v := ?_) (a' := ?_) #[true, true, true, true, true, false, true, false] rfl rfl (any_of HT_.out (by kernel_rfl)) (fun _ _ _ h => h) (Or.inl ⟨by rfl, ?_⟩) ?_ ?_
                  rotate_left
                  · intro w'
                    go_simp
                    with_reducible rfl
                  rotate_left
                  · simp only [Act.put, List.setIfInBounds_toArray, List.set_cons_zero, List.set_cons_succ, i64_w, i32_w]
                    rfl
                  refine take_ (i := 5) (N := some 41) (v := ?_) (a' := ?_) #[true, true, true, true, true, true, true, false] rfl rfl (take_ofW HT_.out HW_.out (by kernel_rfl)) (fun _ _ _ h => h) (Or.inl ⟨by rfl, ?_⟩) hHeld ?_ ?_
                  rotate_left
                  · rintro w' ⟨s0, s1, s2, s3, s4, s5⟩
                    go_simp
                    with_reducible rfl
                  rotate_left
                  · simp only [Act.put, List.setIfInBounds_toArray, List.set_cons_zero, List.set_cons_succ, i64_w, i32_w]
                    rfl
                  refine one_ (i := 7) (N := none) #[true, true, true, true, true, true, true, true] rfl rfl (one_of HT_.out (by kernel_rfl)) (by decide) (fun K hK => ?_)
                  have hs23 : w22.cell? ⟨gb368, 0, none⟩ = some (.string x369000_1) := (blk_cell BK368.out 0).trans rfl
                  have hfs23 := blk_frozen BK368.out 0
                  have hns23_0 := NB366_368.out
                  have hns23_2 := NB370_368.out
                  have hms23_0 := NB368_366.out
                  have hms23_2 := NB368_370.out
                  have hs24 : w22.cell? ⟨gb368, 1, none⟩ = some (.int .i64 x369001_1) := (blk_cell BK368.out 1).trans rfl
                  have hfs24 := blk_frozen BK368.out 1
                  have hns24_0 := NB366_368.out
                  have hns24_2 := NB370_368.out
                  have hms24_0 := NB368_366.out
                  have hms24_2 := NB368_370.out
                  have hs25 : w22.cell? ⟨gb368, 2, none⟩ = some (.int .i64 x369002_1) := (blk_cell BK368.out 2).trans rfl
                  have hfs25 := blk_frozen BK368.out 2
                  have hns25_0 := NB366_368.out
                  have hns25_2 := NB370_368.out
                  have hms25_0 := NB368_366.out
                  have hms25_2 := NB368_370.out
                  have hs26 : w22.cell? ⟨gb368, 3, none⟩ = some (.int .i64 x369003_1) := (blk_cell BK368.out 3).trans rfl
                  have hfs26 := blk_frozen BK368.out 3
                  have hns26_0 := NB366_368.out
                  have hns26_2 := NB370_368.out
                  have hms26_0 := NB368_366.out
                  have hms26_2 := NB368_370.out
                  refine skip_ (w1 := ?_) (by rfl) rfl ?_ ?_
                  rotate_left
                  · go_simp
                    rfl
                  refine hK.out _ _ ⟨((cell_far (p := ⟨gb368, _, none⟩) NB370_368.out _).trans (((cell_far (p := ⟨gb368, _, none⟩) NB370_368.out _).trans (((cell_far (p := ⟨gb368, _, none⟩) NB370_368.out _).trans (((cell_far (p := ⟨gb368, _, none⟩) NB370_368.out _).trans (hHeld.1)))))))), ((cell_far (p := ⟨gb368, _, none⟩) NB370_368.out _).trans (((cell_far (p := ⟨gb368, _, none⟩) NB370_368.out _).trans (((cell_far (p := ⟨gb368, _, none⟩) NB370_368.out _).trans (((cell_far (p := ⟨gb368, _, none⟩) NB370_368.out _).trans (hHeld.2.1)))))))), ((cell_far (p := ⟨gb368, _, none⟩) NB370_368.out _).trans (((cell_far (p := ⟨gb368, _, none⟩) NB370_368.out _).trans (((cell_far (p := ⟨gb368, _, none⟩) NB370_368.out _).trans (((cell_far (p := ⟨gb368, _, none⟩) NB370_368.out _).trans (hHeld.2.2.1)))))))), ((cell_far (p := ⟨gb368, _, none⟩) NB370_368.out _).trans (((cell_far (p := ⟨gb368, _, none⟩) NB370_368.out _).trans (((cell_far (p := ⟨gb368, _, none⟩) NB370_368.out _).trans (((cell_far (p := ⟨gb368, _, none⟩) NB370_368.out _).trans (hHeld.2.2.2.1)))))))), ((cell_far (p := ⟨gb368, _, none⟩) NB370_368.out _).trans (((cell_far (p := ⟨gb368, _, none⟩) NB370_368.out _).trans (((cell_far (p := ⟨gb368, _, none⟩) NB370_368.out _).trans (((cell_far (p := ⟨gb368, _, none⟩) NB370_368.out _).trans (hHeld.2.2.2.2.1)))))))), ((cell_far (p := ⟨gb368, _, none⟩) NB370_368.out _).trans (((cell_far (p := ⟨gb368, _, none⟩) NB370_368.out _).trans (((cell_far (p := ⟨gb368, _, none⟩) NB370_368.out _).trans (((cell_far (p := ⟨gb368, _, none⟩) NB370_368.out _).trans (hHeld.2.2.2.2.2))))))))⟩ (fun hHeld => ?_)
                  clear hK K
                  refine done_ (done_of HT_.out (by kernel_rfl)) ?_
                  try go_wp2
                  go_roundg k1
                  case measure => have := HK1.out; omega
                  case rel => exact ⟨(ji15), (wrap64 (x24_1 + 1)), ((rd_T109 l0 x24_1).f0.f0), ((rd_T109 l0 x24_1).f0.f1), ((rd_T109 l0 x24_1).f0.f2), ((rd_T109 l0 x24_1).f0.f3), (by first | rfl | (simp; done) | (simp only [← hji15] <;> (first | rfl | simp)) | (simp [*]; done)), (by first | rfl | (simp; done) | (simp [*]; done)), H', ⟨by have := HK1.out; omega⟩, ⟨by (with_reducible repeat (first | refine blk_drewN ?_ _ | refine blk_drew ?_ | refine blk_alloc ?_ _)); refine blk_far ?_ NB366_368.out _; (with_reducible repeat (first | refine blk_drewN ?_ _ | refine blk_drew ?_ | refine blk_alloc ?_ _)); refine blk_far ?_ NB366_368.out _; (with_reducible repeat (first | refine blk_drewN ?_ _ | refine blk_drew ?_ | refine blk_alloc ?_ _)); refine blk_far ?_ NB366_368.out _; (with_reducible repeat (first | refine blk_drewN ?_ _ | refine blk_drew ?_ | refine blk_alloc ?_ _)); refine blk_far ?_ NB366_368.out _; (with_reducible repeat (first | refine blk_drewN ?_ _ | refine blk_drew ?_ | refine blk_alloc ?_ _)); exact BK366.out⟩, ⟨by (with_reducible repeat (first | refine blk_drewN ?_ _ | refine blk_drew ?_ | refine blk_alloc ?_ _)); refine blk_put (cs := #[.string ((rd_T109 l0 x24_1).f0.f0), .int .i64 ((rd_T109 l0 x24_1).f0.f1), .int .i64 ((rd_T109 l0 x24_1).f0.f2), .int .i64 x369003_1]) ?_ 3 _ rfl; (with_reducible repeat (first | refine blk_drewN ?_ _ | refine blk_drew ?_ | refine blk_alloc ?_ _)); refine blk_put (cs := #[.string ((rd_T109 l0 x24_1).f0.f0), .int .i64 ((rd_T109 l0 x24_1).f0.f1), .int .i64 x369002_1, .int .i64 x369003_1]) ?_ 2 _ rfl; (with_reducible repeat (first | refine blk_drewN ?_ _ | refine blk_drew ?_ | refine blk_alloc ?_ _)); refine blk_put (cs := #[.string ((rd_T109 l0 x24_1).f0.f0), .int .i64 x369001_1, .int .i64 x369002_1, .int .i64 x369003_1]) ?_ 1 _ rfl; (with_reducible repeat (first | refine blk_drewN ?_ _ | refine blk_drew ?_ | refine blk_alloc ?_ _)); refine blk_put (cs := #[.string x369000_1, .int .i64 x369001_1, .int .i64 x369002_1, .int .i64 x369003_1]) ?_ 0 _ rfl; (with_reducible repeat (first | refine blk_drewN ?_ _ | refine blk_drew ?_ | refine blk_alloc ?_ _)); exact BK368.out⟩, ⟨by repeat (first | (with_reducible first | exact HB.out | apply below_alloc | apply pw_below_drewN | apply below_drew1 | refine below_set ?_ GE366.out | refine below_set ?_ GE368.out | refine below_set ?_ GE370.out) | exact HB.out)⟩⟩
                · rw [if_neg c21] at H
                  have c21b0 : decide (x6_1 < (ji15)) = false := decide_eq_false c21
                  clear c21
                  (try simp only [c21b0])
                  have H' := Aside0.mk H
                  clear H
                  go_wp2
                  go_roundg k1
                  case measure => have := HK1.out; omega
                  case rel => exact ⟨(x6_1), (wrap64 (x24_1 + 1)), (x369000_1), (x369001_1), (x369002_1), (x369003_1), (by first | rfl | (simp; done) | (simp [*]; done)), (by first | rfl | (simp; done) | (simp [*]; done)), H', ⟨by have := HK1.out; omega⟩, ⟨by (with_reducible repeat (first | refine blk_drewN ?_ _ | refine blk_drew ?_ | refine blk_alloc ?_ _)); exact BK366.out⟩, ⟨by (with_reducible repeat (first | refine blk_drewN ?_ _ | refine blk_drew ?_ | refine blk_alloc ?_ _)); exact BK368.out⟩, ⟨by repeat (first | (with_reducible first | exact HB.out | apply below_alloc | apply pw_below_drewN | apply below_drew1 | refine below_set ?_ GE366.out | refine below_set ?_ GE368.out | refine below_set ?_ GE370.out) | exact HB.out)⟩⟩
              · rw [if_neg c13] at H
                exact absurd H (by simp)
            · rw [if_neg c12] at H
              exact absurd H (by simp)
          · rw [if_neg c11] at H
            have c11b0 : decide (x24_1 < (l0.length : Int)) = false := decide_eq_false c11
            clear c11
            (try simp only [c11b0])
            simp only [Option.some.injEq, Prod.mk.injEq] at H
            obtain ⟨rfl, rfl, rfl, rfl, rfl, rfl⟩ := H
            try go_wp2
            have n0_ := Aside0.mk (blk_drew BK366.out)
            have n1_ := Aside0.mk (blk_drew BK368.out)
            have n2_ := Aside0.mk (below_drew1 HB.out)
            clear BK366
            clear BK368
            clear HB
            have BK366 := n0_
            have BK368 := n1_
            have HB := n2_
            clear n0_ n1_ n2_
            refine start_ (n := 5) (S := fun w' => w'.cell? ⟨gb368, 0, none⟩ = some (.string x369000_1) ∧ w'.cell? ⟨gb368, 1, none⟩ = some (.int .i64 x369001_1) ∧ w'.cell? ⟨gb368, 2, none⟩ = some (.int .i64 x369002_1) ∧ w'.cell? ⟨gb368, 3, none⟩ = some (.int .i64 x369003_1)) (ds := []) #[false, false, false, false, false] (by kernel_rfl) rfl rfl ⟨(blk_cell BK368.out 0).trans rfl, (blk_cell BK368.out 1).trans rfl, (blk_cell BK368.out 2).trans rfl, (blk_cell BK368.out 3).trans rfl⟩ (fun hHeld => ?_)
            generalize wr.drew = w27 at BK366 BK368 HB hHeld ⊢
            refine pure_ (i := 0) (N := some 43) (v := ?_) (a' := ?_) #[true, false, false, false, false] rfl rfl (by kernel_rfl) (fun _ _ _ h => h) (Or.inl ⟨by rfl, ?_⟩) ?_ ?_
            rotate_left
            · intro w'
              go_simp
              with_reducible rfl
            rotate_left
            · simp only [Act.put, List.setIfInBounds_toArray, List.set_cons_zero, List.set_cons_succ, i64_w, i32_w]
              rfl
            refine pure_ (i := 2) (N := some 2) (v := ?_) (a' := ?_) #[true, false, true, false, false] rfl rfl (by kernel_rfl) (fun _ _ _ h => h) (Or.inl ⟨by rfl, ?_⟩) ?_ ?_
            rotate_left
            · intro w'
              go_simp
              with_reducible rfl
            rotate_left
            · simp only [Act.put, List.setIfInBounds_toArray, List.set_cons_zero, List.set_cons_succ, i64_w, i32_w]
              rfl
            refine take_ (i := 1) (N := some 44) (v := ?_) (a' := ?_) #[true, true, true, false, false] rfl rfl (by kernel_rfl) (fun _ _ _ h => h) (Or.inl ⟨by rfl, ?_⟩) hHeld ?_ ?_
            rotate_left
            · rintro w' ⟨s0, s1, s2, s3⟩
              go_simp
              with_reducible rfl
            rotate_left
            · simp only [Act.put, List.setIfInBounds_toArray, List.set_cons_zero, List.set_cons_succ, i64_w, i32_w]
              rfl
            refine one_ (i := 3) (N := none) #[true, true, true, true, false] rfl rfl (by kernel_rfl) (by decide) (fun K hK => ?_)
            have hs28 : w27.cell? ⟨gb366, 0, none⟩ = some (.string (⟨#[]⟩ : ByteArray)) := (blk_cell BK366.out 0).trans rfl
            have hfs28 := blk_frozen BK366.out 0
            have hns28_1 := NB368_366.out
            have hms28_1 := NB366_368.out
            have hs29 : w27.cell? ⟨gb366, 1, none⟩ = some (.int .i64 0) := (blk_cell BK366.out 1).trans rfl
            have hfs29 := blk_frozen BK366.out 1
            have hns29_1 := NB368_366.out
            have hms29_1 := NB366_368.out
            have hs30 : w27.cell? ⟨gb366, 2, none⟩ = some (.int .i64 0) := (blk_cell BK366.out 2).trans rfl
            have hfs30 := blk_frozen BK366.out 2
            have hns30_1 := NB368_366.out
            have hms30_1 := NB366_368.out
            have hs31 : w27.cell? ⟨gb366, 3, none⟩ = some (.int .i64 0) := (blk_cell BK366.out 3).trans rfl
            have hfs31 := blk_frozen BK366.out 3
            have hns31_1 := NB368_366.out
            have hms31_1 := NB366_368.out
            refine skip_ (w1 := ?_) (by rfl) rfl ?_ ?_
            rotate_left
            · go_simp
              rfl
            refine hK.out _ _ ⟨((cell_far (p := ⟨gb366, _, none⟩) NB368_366.out _).trans (((cell_far (p := ⟨gb366, _, none⟩) NB368_366.out _).trans (((cell_far (p := ⟨gb366, _, none⟩) NB368_366.out _).trans (((cell_far (p := ⟨gb366, _, none⟩) NB368_366.out _).trans (hHeld.1)))))))), ((cell_far (p := ⟨gb366, _, none⟩) NB368_366.out _).trans (((cell_far (p := ⟨gb366, _, none⟩) NB368_366.out _).trans (((cell_far (p := ⟨gb366, _, none⟩) NB368_366.out _).trans (((cell_far (p := ⟨gb366, _, none⟩) NB368_366.out _).trans (hHeld.2.1)))))))), ((cell_far (p := ⟨gb366, _, none⟩) NB368_366.out _).trans (((cell_far (p := ⟨gb366, _, none⟩) NB368_366.out _).trans (((cell_far (p := ⟨gb366, _, none⟩) NB368_366.out _).trans (((cell_far (p := ⟨gb366, _, none⟩) NB368_366.out _).trans (hHeld.2.2.1)))))))), ((cell_far (p := ⟨gb366, _, none⟩) NB368_366.out _).trans (((cell_far (p := ⟨gb366, _, none⟩) NB368_366.out _).trans (((cell_far (p := ⟨gb366, _, none⟩) NB368_366.out _).trans (((cell_far (p := ⟨gb366, _, none⟩) NB368_366.out _).trans (hHeld.2.2.2))))))))⟩ (fun hHeld => ?_)
            clear hK K
            refine pure_ (i := 4) (N := some 4) (v := ?_) (a' := ?_) #[true, true, true, true, true] rfl rfl (by kernel_rfl) (fun _ _ _ h => h) (Or.inl ⟨by rfl, ?_⟩) ?_ ?_
            rotate_left
            · intro w'
              go_simp
              with_reducible rfl
            rotate_left
            · simp only [Act.put, List.setIfInBounds_toArray, List.set_cons_zero, List.set_cons_succ, i64_w, i32_w]
              rfl
            refine done_ (by kernel_rfl) ?_
            try go_wp2
            refine bodyPost_ret (results_list (rs := [.tmp 2, .cell 3 58, .tmp 4]) rfl (by simp) (.tmp (.cell gb366 58 #[.string x369000_1, .int .i64 x369001_1, .int .i64 x369002_1, .int .i64 x369003_1] (0, 0) _ rfl (by (with_reducible repeat (first | refine blk_drewN ?_ _ | refine blk_drew ?_ | refine blk_alloc ?_ _)); refine blk_put (cs := #[.string x369000_1, .int .i64 x369001_1, .int .i64 x369002_1, .int .i64 0]) ?_ 3 _ rfl; (with_reducible repeat (first | refine blk_drewN ?_ _ | refine blk_drew ?_ | refine blk_alloc ?_ _)); refine blk_put (cs := #[.string x369000_1, .int .i64 x369001_1, .int .i64 0, .int .i64 0]) ?_ 2 _ rfl; (with_reducible repeat (first | refine blk_drewN ?_ _ | refine blk_drew ?_ | refine blk_alloc ?_ _)); refine blk_put (cs := #[.string x369000_1, .int .i64 0, .int .i64 0, .int .i64 0]) ?_ 1 _ rfl; (with_reducible repeat (first | refine blk_drewN ?_ _ | refine blk_drew ?_ | refine blk_alloc ?_ _)); refine blk_put (cs := #[.string (⟨#[]⟩ : ByteArray), .int .i64 0, .int .i64 0, .int .i64 0]) ?_ 0 _ rfl; (with_reducible repeat (first | refine blk_drewN ?_ _ | refine blk_drew ?_ | refine blk_alloc ?_ _)); exact BK366.out) Try.underlying58 rfl (by kernel_rfl) (.tmp .nil)))) rfl ?_
            exact ⟨by first | rfl | (simp [errW_none, errW_some] <;> rfl) | (simp [*, errW_none, errW_some] <;> rfl), by repeat (first | (with_reducible first | exact HB.out | apply below_alloc | apply pw_below_drewN | apply below_drew1 | refine below_set ?_ GE366.out | refine below_set ?_ GE368.out) | exact HB.out)⟩
  · rw [if_neg c5] at H
    have c5b0 : (t367 == 0) = false := beq_eq_false_iff_ne.mpr c5
    have c5b1 : (t367 != 0) = true := bne_iff_ne.mpr c5
    (try simp only [c5b0, c5b1])
    simp only [Option.some.injEq, Prod.mk.injEq] at H
    obtain ⟨rfl, rfl, rfl, rfl, rfl, rfl⟩ := H
    have hcz32_0 : w4.cell? ⟨gb366, 0, none⟩ = some (.string (⟨#[]⟩ : ByteArray)) := (blk_cell BK366.out 0).trans rfl
    have hcz32_1 : w4.cell? ⟨gb366, 1, none⟩ = some (.int .i64 0) := (blk_cell BK366.out 1).trans rfl
    have hcz32_2 : w4.cell? ⟨gb366, 2, none⟩ = some (.int .i64 0) := (blk_cell BK366.out 2).trans rfl
    have hcz32_3 : w4.cell? ⟨gb366, 3, none⟩ = some (.int .i64 0) := (blk_cell BK366.out 3).trans rfl
    have hfz32_0 := blk_frozen BK366.out 0
    have hfz32_1 := blk_frozen BK366.out 1
    have hfz32_2 := blk_frozen BK366.out 2
    have hfz32_3 := blk_frozen BK366.out 3
    go_wp2
    refine bodyPost_ret (results_list (rs := [.tmp 2, .cell 3 58, .tmp 4]) rfl (by simp) (.tmp (.cell gb366 58 #[.string (⟨#[]⟩ : ByteArray), .int .i64 0, .int .i64 0, .int .i64 0] (0, 0) _ rfl (by (with_reducible repeat (first | refine blk_drewN ?_ _ | refine blk_drew ?_ | refine blk_alloc ?_ _)); refine blk_put (cs := #[.string (⟨#[]⟩ : ByteArray), .int .i64 0, .int .i64 0, .int .i64 0]) ?_ 3 _ rfl; (with_reducible repeat (first | refine blk_drewN ?_ _ | refine blk_drew ?_ | refine blk_alloc ?_ _)); refine blk_put (cs := #[.string (⟨#[]⟩ : ByteArray), .int .i64 0, .int .i64 0, .int .i64 0]) ?_ 2 _ rfl; (with_reducible repeat (first | refine blk_drewN ?_ _ | refine blk_drew ?_ | refine blk_alloc ?_ _)); refine blk_put (cs := #[.string (⟨#[]⟩ : ByteArray), .int .i64 0, .int .i64 0, .int .i64 0]) ?_ 1 _ rfl; (with_reducible repeat (first | refine blk_drewN ?_ _ | refine blk_drew ?_ | refine blk_alloc ?_ _)); refine blk_put (cs := #[.string (⟨#[]⟩ : ByteArray), .int .i64 0, .int .i64 0, .int .i64 0]) ?_ 0 _ rfl; (with_reducible repeat (first | refine blk_drewN ?_ _ | refine blk_drew ?_ | refine blk_alloc ?_ _)); exact BK366.out) Try.underlying58 rfl (by kernel_rfl) (.tmp .nil)))) rfl ?_
    exact ⟨by first | rfl | (simp [errW_none, errW_some] <;> rfl) | (simp [*, errW_none, errW_some] <;> rfl), by repeat (first | (with_reducible first | exact HB.out | apply below_alloc | apply pw_below_drewN | apply below_drew1 | refine below_set ?_ GE366.out) | exact HB.out)⟩
def contangolaw28_goes.f (k : Nat)  : Option (Bool) := (some (([(⟨10, 5⟩ : S104), (⟨30, 8⟩ : S104)] : List (S104)) : List (S104))).bind fun y372 => ((addon_Charge.f k 12 y372).bind fun bt375 => ((addon_Charge.f k 40 y372).bind fun bt377 => ((addon_Over.f k 500 1000 400 100).bind fun bt379 => ((addon_Largest.f k ([] : List (S109))).bind fun bt381 => (if bt375.1 = 66 then (if bt375.2 = 0 then (if bt377.1 = 290 then (if bt377.2 = 0 then (if bt379.1 = 10 then (if bt379.2 = 0 then (some (bt381.2.2.2.2.2 == 11)) else (some false)) else (some false)) else (some false)) else (some false)) else (some false)) else (some false))))))
theorem contangolaw28_goes.mono : ∀ k, LeO (contangolaw28_goes.f k ) (contangolaw28_goes.f (k + 1) ) := by
  intro  k
  unfold contangolaw28_goes.f
  repeat' first
      | (with_reducible exact addon_Charge.mono _ _ _)
      | (with_reducible exact addon_Largest.mono _ _)
      | (with_reducible exact addon_Over.mono _ _ _ _ _)
      | (with_reducible exact LeO.refl _)
      | (with_reducible exact LeO.none _)
      | (with_reducible refine LeO.ite ?_ ?_)
      | (with_reducible refine LeO.bind ?_ (fun _ => ?_))
      | exact addon_Charge.mono _ _ _
      | exact addon_Largest.mono _ _
      | exact addon_Over.mono _ _ _ _ _
      | exact LeO.none _
      | refine LeO.ite ?_ ?_
      | refine LeO.bind ?_ (fun _ => ?_)
set_option maxHeartbeats 8000000 in
set_option maxRecDepth 100000 in
theorem contangolaw28_goes.calls (k : Nat)  (r : Bool) (w : World) (h : contangolaw28_goes.f k  = some r) :
    Calls Try.prog 34 #[] w fun e w' => e = .returned (.bool r) ∧ Below w.heap.size w w' := by
  have hu104 := Try.underlying104
  have hu58 := Try.underlying58
  have HB := Aside0.mk (Below.refl w.heap.size w)
  have H : ((some (([(⟨10, 5⟩ : S104), (⟨30, 8⟩ : S104)] : List (S104)) : List (S104))).bind fun y372 => ((addon_Charge.f k 12 y372).bind fun bt375 => ((addon_Charge.f k 40 y372).bind fun bt377 => ((addon_Over.f k 500 1000 400 100).bind fun bt379 => ((addon_Largest.f k ([] : List (S109))).bind fun bt381 => (if bt375.1 = 66 then (if bt375.2 = 0 then (if bt377.1 = 290 then (if bt377.2 = 0 then (if bt379.1 = 10 then (if bt379.2 = 0 then (some (bt381.2.2.2.2.2 == 11)) else (some false)) else (some false)) else (some false)) else (some false)) else (some false)) else (some false))))))) = some r := h
  clear h
  obtain ⟨y372, hy372⟩ : ∃ y_ : List (S104), y_ = (([(⟨10, 5⟩ : S104), (⟨30, 8⟩ : S104)] : List (S104))) := ⟨_, rfl⟩
  replace H : ((addon_Charge.f k 12 y372).bind fun bt375 => ((addon_Charge.f k 40 y372).bind fun bt377 => ((addon_Over.f k 500 1000 400 100).bind fun bt379 => ((addon_Largest.f k ([] : List (S109))).bind fun bt381 => (if bt375.1 = 66 then (if bt375.2 = 0 then (if bt377.1 = 290 then (if bt377.2 = 0 then (if bt379.1 = 10 then (if bt379.2 = 0 then (some (bt381.2.2.2.2.2 == 11)) else (some false)) else (some false)) else (some false)) else (some false)) else (some false)) else (some false)))))) = some r := by first | (rw [hy372]; with_reducible exact H) | (have H2_ := (Option.bind_some _ _).symm.trans H; rw [hy372]; with_reducible exact H2_) | (have H2_ := (Option.bind_some _ _).symm.trans H; with_reducible exact H2_) | with_reducible exact H | (rw [hy372]; exact H) | exact H
  have Ny372 := Aside0.mk hy372
  clear hy372
  replace H := Option.bind_eq_some_iff.mp H
  obtain ⟨⟨t375, t376⟩, A10, H⟩ := H
  replace H : ((addon_Charge.f k 40 y372).bind fun bt377 => ((addon_Over.f k 500 1000 400 100).bind fun bt379 => ((addon_Largest.f k ([] : List (S109))).bind fun bt381 => (if t375 = 66 then (if t376 = 0 then (if bt377.1 = 290 then (if bt377.2 = 0 then (if bt379.1 = 10 then (if bt379.2 = 0 then (some (bt381.2.2.2.2.2 == 11)) else (some false)) else (some false)) else (some false)) else (some false)) else (some false)) else (some false))))) = some r := H
  have A1 := Aside0.mk A10
  clear A10
  replace H := Option.bind_eq_some_iff.mp H
  obtain ⟨⟨t377, t378⟩, A20, H⟩ := H
  replace H : ((addon_Over.f k 500 1000 400 100).bind fun bt379 => ((addon_Largest.f k ([] : List (S109))).bind fun bt381 => (if t375 = 66 then (if t376 = 0 then (if t377 = 290 then (if t378 = 0 then (if bt379.1 = 10 then (if bt379.2 = 0 then (some (bt381.2.2.2.2.2 == 11)) else (some false)) else (some false)) else (some false)) else (some false)) else (some false)) else (some false)))) = some r := H
  have A2 := Aside0.mk A20
  clear A20
  replace H := Option.bind_eq_some_iff.mp H
  obtain ⟨⟨t379, t380⟩, A30, H⟩ := H
  replace H : ((addon_Largest.f k ([] : List (S109))).bind fun bt381 => (if t375 = 66 then (if t376 = 0 then (if t377 = 290 then (if t378 = 0 then (if t379 = 10 then (if t380 = 0 then (some (bt381.2.2.2.2.2 == 11)) else (some false)) else (some false)) else (some false)) else (some false)) else (some false)) else (some false))) = some r := H
  have A3 := Aside0.mk A30
  clear A30
  replace H := Option.bind_eq_some_iff.mp H
  obtain ⟨⟨t381, t382, t383, t384, t385, t386⟩, A40, H⟩ := H
  replace H : (if t375 = 66 then (if t376 = 0 then (if t377 = 290 then (if t378 = 0 then (if t379 = 10 then (if t380 = 0 then (some (t386 == 11)) else (some false)) else (some false)) else (some false)) else (some false)) else (some false)) else (some false)) = some r := H
  have A4 := Aside0.mk A40
  clear A40
  go_enter Try.func34, Try.ntmps34
  go_upto_region 6 with (first | ((with_reducible refine gate_dst (N := 13) rfl ?_); refine Kd.R_lit k104 _ 104 ?hg (N := 13) ?hd (xs := ([(⟨10, 5⟩ : S104), (⟨30, 8⟩ : S104)] : List (S104))) (inner := [.int .i64 10, .int .i64 5, .int .i64 30, .int .i64 8]) (ok := fun _ => True) (okp := fun _ => True) ?hr ?hp (fun _ hk => hk) trivial (Below.refl _ _) (Nat.le_refl _) (by simp) ?_; (case hd => rfl); (case hg => rfl); (case hr => first | (go_simp; done) | (go_simp; rfl)); (case hp => exact (Reps.c2 (show Kd.M k104 _ _ _ (⟨10, 5⟩ : S104) [.int .i64 10, .int .i64 5] from (k104_mkM _ _ _ (⟨10, 5⟩ : S104) )) (Reps.c2 (show Kd.M k104 _ _ _ (⟨30, 8⟩ : S104) [.int .i64 30, .int .i64 8] from (k104_mkM _ _ _ (⟨30, 8⟩ : S104) )) (Reps.none _ _)))); intro v373 w5 ho6 hb hg_ hnew_; clear hg_ hnew_; (first | rw [← Ny372.out] at ho6 | (simp only [Int.reduceToNat] at ho6; rw [← Ny372.out] at ho6)); have n0_ := Aside0.mk (Kd.R_lower ho6 (below_size (by repeat (first | (with_reducible first | exact HB.out | apply below_alloc | apply pw_below_drewN | apply below_drew1) | exact HB.out)))); have n1_ := Aside0.mk (below_step (by repeat (first | (with_reducible first | exact HB.out | apply below_alloc | apply pw_below_drewN | apply below_drew1) | exact HB.out)) hb); clear HB; have HO374 := n0_; have HB := n1_; clear n0_ n1_; clear hb ho6; obtain ⟨Ao7, co7, eo7⟩ := Kd.R_slice HO374.out; subst eo7) | ((with_reducible refine gate_callee (f := 30) rfl ?_); refine goesL_ (some 16) rfl rfl Try.func30 (by kernel_rfl) rfl #[.int .i64 12, .slice Ao7 y372.length co7] rfl (by (try simp only [List.map_toArray, List.map_cons, List.map_nil]); first | done | rfl | (simp only [List.length_drop, List.length_take]; rfl)) ?_; (with_reducible refine (addon_Charge.calls k 12 _ _ y372 t375 t376 _ ?side1 ?side2 A1.out).mono ?_); (case side1 => repeat (first | exact (Kd.R_reads' HO374.out).2.2 | (with_reducible refine Kd.C_alloc ?_ _) | (with_reducible refine Kd.C_drewN ?_ _) | (with_reducible refine Kd.C_drew ?_))); (case side2 => exact (Kd.R_reads' HO374.out).2.1); rintro e w8 ⟨rfl, hb⟩; refine ⟨_, rfl, ?_⟩; have n0_ := Aside0.mk (Kd.R_below (by (with_reducible repeat (first | apply Kd.R_alloc | apply Kd.R_drewN | apply Kd.R_drew)); exact HO374.out) hb); have n1_ := Aside0.mk (below_step (by repeat (first | (with_reducible first | exact HB.out | apply below_alloc | apply pw_below_drewN | apply below_drew1) | exact HB.out)) hb); clear HO374; clear HB; have HO374 := n0_; have HB := n1_; clear n0_ n1_; (try clear hb); (try clear hb2); (try clear hk); (try clear hi)) | ((with_reducible refine gate_callee (f := 30) rfl ?_); refine goesL_ (some 21) rfl rfl Try.func30 (by kernel_rfl) rfl #[.int .i64 40, .slice Ao7 y372.length co7] rfl (by (try simp only [List.map_toArray, List.map_cons, List.map_nil]); first | done | rfl | (simp only [List.length_drop, List.length_take]; rfl)) ?_; (with_reducible refine (addon_Charge.calls k 40 _ _ y372 t377 t378 _ ?side1 ?side2 A2.out).mono ?_); (case side1 => repeat (first | exact (Kd.R_reads' HO374.out).2.2 | (with_reducible refine Kd.C_alloc ?_ _) | (with_reducible refine Kd.C_drewN ?_ _) | (with_reducible refine Kd.C_drew ?_))); (case side2 => exact (Kd.R_reads' HO374.out).2.1); rintro e w9 ⟨rfl, hb⟩; refine ⟨_, rfl, ?_⟩; have n0_ := Aside0.mk (Kd.R_below (by (with_reducible repeat (first | apply Kd.R_alloc | apply Kd.R_drewN | apply Kd.R_drew)); exact HO374.out) hb); have n1_ := Aside0.mk (below_step (by repeat (first | (with_reducible first | exact HB.out | apply below_alloc | apply pw_below_drewN | apply below_drew1) | exact HB.out)) hb); clear HO374; clear HB; have HO374 := n0_; have HB := n1_; clear n0_ n1_; (try clear hb); (try clear hb2); (try clear hk); (try clear hi)) | ((with_reducible refine gate_callee (f := 35) rfl ?_); refine goesL_ (some 25) rfl rfl Try.func35 (by kernel_rfl) rfl #[.int .i64 500, .int .i64 1000, .int .i64 400, .int .i64 100] rfl (by (try simp only [List.map_toArray, List.map_cons, List.map_nil]); first | done | rfl | (simp only [List.length_drop, List.length_take]; rfl)) ?_; (with_reducible refine (addon_Over.calls k 500 1000 400 100 t379 t380 _ A3.out).mono ?_); rintro e w10 ⟨rfl, hb⟩; refine ⟨_, rfl, ?_⟩; have n0_ := Aside0.mk (Kd.R_below (by (with_reducible repeat (first | apply Kd.R_alloc | apply Kd.R_drewN | apply Kd.R_drew)); exact HO374.out) hb); have n1_ := Aside0.mk (below_step (by repeat (first | (with_reducible first | exact HB.out | apply below_alloc | apply pw_below_drewN | apply below_drew1) | exact HB.out)) hb); clear HO374; clear HB; have HO374 := n0_; have HB := n1_; clear n0_ n1_; (try clear hb); (try clear hb2); (try clear hk); (try clear hi)) | ((with_reducible refine gate_callee (f := 37) rfl ?_); refine goesL_ (some 29) rfl rfl Try.func37 (by kernel_rfl) rfl #[.slice none 0 0] rfl (by (try simp only [List.map_toArray, List.map_cons, List.map_nil]); first | done | rfl | (simp only [List.length_drop, List.length_take]; rfl)) ?_; (refine (addon_Largest.calls k _ _ ([] : List (S109)) t381 t382 t383 t384 t385 t386 _ ?side1 ?side2 A4.out).mono ?_); (case side1 => exact Kd.C_nil _ _); (case side2 => exact Nat.le_refl _); rintro e w11 ⟨rfl, hb⟩; refine ⟨_, rfl, ?_⟩; have n0_ := Aside0.mk (Kd.R_below (by (with_reducible repeat (first | apply Kd.R_alloc | apply Kd.R_drewN | apply Kd.R_drew)); exact HO374.out) hb); have n1_ := Aside0.mk (below_step (by repeat (first | (with_reducible first | exact HB.out | apply below_alloc | apply pw_below_drewN | apply below_drew1) | exact HB.out)) hb); clear HO374; clear HB; have HO374 := n0_; have HB := n1_; clear n0_ n1_; (try clear hb); (try clear hb2); (try clear hk); (try clear hi)) | ((with_reducible refine gate_dst (N := 9) rfl ?_); refine box_event ?hg (N := 9) ?hd (cs := #[.string (⟨#[]⟩ : ByteArray), .int .i64 0, .int .i64 0, .int .i64 0]) (t := 58) ?hr ?_; (case hd => rfl); (case hg => rfl); (case hr => first | (go_simp; done) | (go_simp; rfl)); intro gb387 hg w12 hbox hb; have n0_ := Aside0.mk (Kd.R_below (by (with_reducible repeat (first | apply Kd.R_alloc | apply Kd.R_drewN | apply Kd.R_drew)); exact HO374.out) hb); have n1_ := Aside0.mk (below_step (by repeat (first | (with_reducible first | exact HB.out | apply below_alloc | apply pw_below_drewN | apply below_drew1) | exact HB.out)) hb); have n2_ := Aside0.mk (hbox); have n3_ := Aside0.mk ((by rw [hg]; exact (below_size (by repeat (first | (with_reducible first | exact HB.out | apply below_alloc | apply pw_below_drewN | apply below_drew1) | exact HB.out))) : w.heap.size ≤ gb387)); have n4_ := Aside0.mk ((by rw [hg]; exact (below_size (by repeat (first | (with_reducible first | exact HB.out | apply below_alloc | apply pw_below_drewN | apply below_drew1) | exact HB.out))) : w.heap.size ≤ gb387)); clear HO374; clear HB; have HO374 := n0_; have HB := n1_; have BK387 := n2_; have GW387 := n3_; have GE387 := n4_; clear n0_ n1_ n2_ n3_ n4_; clear hb hbox hg; have hcz13_0 : w12.cell? ⟨gb387, 0, none⟩ = some (.string (⟨#[]⟩ : ByteArray)) := (blk_cell BK387.out 0).trans rfl; have hcz13_1 : w12.cell? ⟨gb387, 1, none⟩ = some (.int .i64 0) := (blk_cell BK387.out 1).trans rfl; have hcz13_2 : w12.cell? ⟨gb387, 2, none⟩ = some (.int .i64 0) := (blk_cell BK387.out 2).trans rfl; have hcz13_3 : w12.cell? ⟨gb387, 3, none⟩ = some (.int .i64 0) := (blk_cell BK387.out 3).trans rfl; have hfz13_0 := blk_frozen BK387.out 0; have hfz13_1 := blk_frozen BK387.out 1; have hfz13_2 := blk_frozen BK387.out 2; have hfz13_3 := blk_frozen BK387.out 3))
  (try simp only [Act.put, List.setIfInBounds_toArray, List.set_cons_zero, List.set_cons_succ])
  by_cases c14 : t375 = 66
  · rw [if_pos c14] at H
    have c14b0 : (t375 == 66) = true := beq_iff_eq.mpr c14
    have c14b1 : (t375 != 66) = false := bne_eq_false_iff_eq.mpr c14
    clear c14
    (try simp only [c14b0, c14b1])
    by_cases c15 : t376 = 0
    · rw [if_pos c15] at H
      have c15b0 : (t376 == 0) = true := beq_iff_eq.mpr c15
      have c15b1 : (t376 != 0) = false := bne_eq_false_iff_eq.mpr c15
      clear c15
      by_cases c16 : t377 = 290
      · rw [if_pos c16] at H
        have c16b0 : (t377 == 290) = true := beq_iff_eq.mpr c16
        have c16b1 : (t377 != 290) = false := bne_eq_false_iff_eq.mpr c16
        clear c16
        by_cases c17 : t378 = 0
        · rw [if_pos c17] at H
          have c17b0 : (t378 == 0) = true := beq_iff_eq.mpr c17
          have c17b1 : (t378 != 0) = false := bne_eq_false_iff_eq.mpr c17
          clear c17
          by_cases c18 : t379 = 10
          · rw [if_pos c18] at H
            have c18b0 : (t379 == 10) = true := beq_iff_eq.mpr c18
            have c18b1 : (t379 != 10) = false := bne_eq_false_iff_eq.mpr c18
            clear c18
            by_cases c19 : t380 = 0
            · rw [if_pos c19] at H
              have c19b0 : (t380 == 0) = true := beq_iff_eq.mpr c19
              have c19b1 : (t380 != 0) = false := bne_eq_false_iff_eq.mpr c19
              clear c19
              obtain rfl := Option.some.inj H
              go_wp2
              go_ret
              exact ⟨by first | rfl | (simp [errW_none, errW_some] <;> rfl) | (simp [*, errW_none, errW_some] <;> rfl), by repeat (first | (with_reducible first | exact HB.out | apply below_alloc | apply pw_below_drewN | apply below_drew1 | refine below_set ?_ GE387.out) | exact HB.out)⟩
            · rw [if_neg c19] at H
              have c19b0 : (t380 == 0) = false := beq_eq_false_iff_ne.mpr c19
              have c19b1 : (t380 != 0) = true := bne_iff_ne.mpr c19
              obtain rfl := Option.some.inj H
              go_wp2
              go_ret
              exact ⟨by first | rfl | (simp [errW_none, errW_some] <;> rfl) | (simp [*, errW_none, errW_some] <;> rfl), by repeat (first | (with_reducible first | exact HB.out | apply below_alloc | apply pw_below_drewN | apply below_drew1 | refine below_set ?_ GE387.out) | exact HB.out)⟩
          · rw [if_neg c18] at H
            have c18b0 : (t379 == 10) = false := beq_eq_false_iff_ne.mpr c18
            have c18b1 : (t379 != 10) = true := bne_iff_ne.mpr c18
            obtain rfl := Option.some.inj H
            go_wp2
            go_ret
            exact ⟨by first | rfl | (simp [errW_none, errW_some] <;> rfl) | (simp [*, errW_none, errW_some] <;> rfl), by repeat (first | (with_reducible first | exact HB.out | apply below_alloc | apply pw_below_drewN | apply below_drew1 | refine below_set ?_ GE387.out) | exact HB.out)⟩
        · rw [if_neg c17] at H
          have c17b0 : (t378 == 0) = false := beq_eq_false_iff_ne.mpr c17
          have c17b1 : (t378 != 0) = true := bne_iff_ne.mpr c17
          obtain rfl := Option.some.inj H
          go_wp2
          go_ret
          exact ⟨by first | rfl | (simp [errW_none, errW_some] <;> rfl) | (simp [*, errW_none, errW_some] <;> rfl), by repeat (first | (with_reducible first | exact HB.out | apply below_alloc | apply pw_below_drewN | apply below_drew1 | refine below_set ?_ GE387.out) | exact HB.out)⟩
      · rw [if_neg c16] at H
        have c16b0 : (t377 == 290) = false := beq_eq_false_iff_ne.mpr c16
        have c16b1 : (t377 != 290) = true := bne_iff_ne.mpr c16
        obtain rfl := Option.some.inj H
        go_wp2
        go_ret
        exact ⟨by first | rfl | (simp [errW_none, errW_some] <;> rfl) | (simp [*, errW_none, errW_some] <;> rfl), by repeat (first | (with_reducible first | exact HB.out | apply below_alloc | apply pw_below_drewN | apply below_drew1 | refine below_set ?_ GE387.out) | exact HB.out)⟩
    · rw [if_neg c15] at H
      have c15b0 : (t376 == 0) = false := beq_eq_false_iff_ne.mpr c15
      have c15b1 : (t376 != 0) = true := bne_iff_ne.mpr c15
      obtain rfl := Option.some.inj H
      go_wp2
      go_ret
      exact ⟨by first | rfl | (simp [errW_none, errW_some] <;> rfl) | (simp [*, errW_none, errW_some] <;> rfl), by repeat (first | (with_reducible first | exact HB.out | apply below_alloc | apply pw_below_drewN | apply below_drew1 | refine below_set ?_ GE387.out) | exact HB.out)⟩
  · rw [if_neg c14] at H
    have c14b0 : (t375 == 66) = false := beq_eq_false_iff_ne.mpr c14
    have c14b1 : (t375 != 66) = true := bne_iff_ne.mpr c14
    (try simp only [c14b0, c14b1])
    obtain rfl := Option.some.inj H
    go_wp2
    go_ret
    exact ⟨by first | rfl | (simp [errW_none, errW_some] <;> rfl) | (simp [*, errW_none, errW_some] <;> rfl), by repeat (first | (with_reducible first | exact HB.out | apply below_alloc | apply pw_below_drewN | apply below_drew1 | refine below_set ?_ GE387.out) | exact HB.out)⟩
def contangolaw28_AddonCharges.f (k : Nat) (a0 : Int) (l1 : List (S103)) : Option (Bool) := (contangolaw28_Steps.f k l1).bind fun t388 => ((addon_Charge.f k a0 t388).bind fun bt391 => ((contangoref28_Charge.f k a0 l1).bind fun bt393 => ((addon_Check.f k t388).bind fun t395 => ((contangoref28_Check.f k l1).bind fun t396 => (if t395 = t396 then (if bt391.1 = bt393.1 then (if bt391.2 = bt393.2 then ((contangolaw28_goes.f k).bind fun t397 => (some t397)) else (some false)) else (some false)) else (some false))))))
theorem contangolaw28_AddonCharges.mono : ∀ a0 a1 k, LeO (contangolaw28_AddonCharges.f k a0 a1) (contangolaw28_AddonCharges.f (k + 1) a0 a1) := by
  intro a0 a1 k
  unfold contangolaw28_AddonCharges.f
  repeat' first
      | (with_reducible exact addon_Charge.mono _ _ _)
      | (with_reducible exact addon_Check.mono _ _)
      | (with_reducible exact contangolaw28_Steps.mono _ _)
      | (with_reducible exact contangolaw28_goes.mono _)
      | (with_reducible exact contangoref28_Charge.mono _ _ _)
      | (with_reducible exact contangoref28_Check.mono _ _)
      | (with_reducible exact LeO.refl _)
      | (with_reducible exact LeO.none _)
      | (with_reducible refine LeO.ite ?_ ?_)
      | (with_reducible refine LeO.bind ?_ (fun _ => ?_))
      | exact addon_Charge.mono _ _ _
      | exact addon_Check.mono _ _
      | exact contangolaw28_Steps.mono _ _
      | exact contangolaw28_goes.mono _
      | exact contangoref28_Charge.mono _ _ _
      | exact contangoref28_Check.mono _ _
      | exact LeO.none _
      | refine LeO.ite ?_ ?_
      | refine LeO.bind ?_ (fun _ => ?_)
set_option maxHeartbeats 8000000 in
set_option maxRecDepth 100000 in
theorem contangolaw28_AddonCharges.calls (k : Nat) (a0 : Int) (A1 : Option Addr) (c1 : Nat) (l1 : List (S103)) (r : Bool) (w : World) (hr1 : Kd.C k103 w A1 l1.length l1) (hc1 : l1.length ≤ c1) (h : contangolaw28_AddonCharges.f k a0 l1 = some r) :
    Calls Try.prog 8 #[.int .i64 a0, .slice A1 l1.length c1] w fun e w' => e = .returned (.bool r) ∧ Below w.heap.size w w' := by
  have HR1 := Aside0.mk hr1
  have HC1 := Aside0.mk hc1
  clear hr1 hc1
  have HB := Aside0.mk (Below.refl w.heap.size w)
  have H : ((contangolaw28_Steps.f k l1).bind fun t388 => ((addon_Charge.f k a0 t388).bind fun bt391 => ((contangoref28_Charge.f k a0 l1).bind fun bt393 => ((addon_Check.f k t388).bind fun t395 => ((contangoref28_Check.f k l1).bind fun t396 => (if t395 = t396 then (if bt391.1 = bt393.1 then (if bt391.2 = bt393.2 then ((contangolaw28_goes.f k).bind fun t397 => (some t397)) else (some false)) else (some false)) else (some false))))))) = some r := h
  clear h
  replace H := Option.bind_eq_some_iff.mp H
  obtain ⟨t388, A30, H⟩ := H
  replace H : ((addon_Charge.f k a0 t388).bind fun bt391 => ((contangoref28_Charge.f k a0 l1).bind fun bt393 => ((addon_Check.f k t388).bind fun t395 => ((contangoref28_Check.f k l1).bind fun t396 => (if t395 = t396 then (if bt391.1 = bt393.1 then (if bt391.2 = bt393.2 then ((contangolaw28_goes.f k).bind fun t397 => (some t397)) else (some false)) else (some false)) else (some false)))))) = some r := H
  have A3 := Aside0.mk A30
  clear A30
  replace H := Option.bind_eq_some_iff.mp H
  obtain ⟨⟨t391, t392⟩, A40, H⟩ := H
  replace H : ((contangoref28_Charge.f k a0 l1).bind fun bt393 => ((addon_Check.f k t388).bind fun t395 => ((contangoref28_Check.f k l1).bind fun t396 => (if t395 = t396 then (if t391 = bt393.1 then (if t392 = bt393.2 then ((contangolaw28_goes.f k).bind fun t397 => (some t397)) else (some false)) else (some false)) else (some false))))) = some r := H
  have A4 := Aside0.mk A40
  clear A40
  replace H := Option.bind_eq_some_iff.mp H
  obtain ⟨⟨t393, t394⟩, A50, H⟩ := H
  replace H : ((addon_Check.f k t388).bind fun t395 => ((contangoref28_Check.f k l1).bind fun t396 => (if t395 = t396 then (if t391 = t393 then (if t392 = t394 then ((contangolaw28_goes.f k).bind fun t397 => (some t397)) else (some false)) else (some false)) else (some false)))) = some r := H
  have A5 := Aside0.mk A50
  clear A50
  go_enter Try.func8, Try.ntmps8
  go_upto_region 4 with (first | ((with_reducible refine gate_callee (f := 29) rfl ?_); refine goesL_ (some 11) rfl rfl Try.func29 (by kernel_rfl) rfl #[.slice A1 l1.length c1] rfl (by (try simp only [List.map_toArray, List.map_cons, List.map_nil]); first | done | rfl | (simp only [List.length_drop, List.length_take]; rfl)) ?_; (with_reducible refine (contangolaw28_Steps.calls k _ _ l1 t388 _ ?side1 ?side2 A3.out).mono ?_); (case side1 => repeat (first | exact HR1.out | (with_reducible refine Kd.C_alloc ?_ _) | (with_reducible refine Kd.C_drewN ?_ _) | (with_reducible refine Kd.C_drew ?_))); (case side2 => exact HC1.out); rintro e w6 ⟨v389, rfl, ho0, hb⟩; refine ⟨_, rfl, ?_⟩; have n0_ := Aside0.mk (Kd.R_lower ho0 (below_size (by repeat (first | (with_reducible first | exact HB.out | apply below_alloc | apply pw_below_drewN | apply below_drew1) | exact HB.out)))); have n1_ := Aside0.mk (below_step (by repeat (first | (with_reducible first | exact HB.out | apply below_alloc | apply pw_below_drewN | apply below_drew1) | exact HB.out)) hb); clear HB; have HO390 := n0_; have HB := n1_; clear n0_ n1_; (try clear hb); (try clear hb2); (try clear hk); (try clear hi); (try clear ho0); obtain ⟨Ao7, co7, eo7⟩ := Kd.R_slice HO390.out; subst eo7) | ((with_reducible refine gate_callee (f := 30) rfl ?_); refine goesL_ (some 15) rfl rfl Try.func30 (by kernel_rfl) rfl #[.int .i64 a0, .slice Ao7 t388.length co7] rfl (by (try simp only [List.map_toArray, List.map_cons, List.map_nil]); first | done | rfl | (simp only [List.length_drop, List.length_take]; rfl)) ?_; (with_reducible refine (addon_Charge.calls k a0 _ _ t388 t391 t392 _ ?side1 ?side2 A4.out).mono ?_); (case side1 => repeat (first | exact (Kd.R_reads' HO390.out).2.2 | (with_reducible refine Kd.C_alloc ?_ _) | (with_reducible refine Kd.C_drewN ?_ _) | (with_reducible refine Kd.C_drew ?_))); (case side2 => exact (Kd.R_reads' HO390.out).2.1); rintro e w8 ⟨rfl, hb⟩; refine ⟨_, rfl, ?_⟩; have n0_ := Aside0.mk (Kd.R_below (by (with_reducible repeat (first | apply Kd.R_alloc | apply Kd.R_drewN | apply Kd.R_drew)); exact HO390.out) hb); have n1_ := Aside0.mk (below_step (by repeat (first | (with_reducible first | exact HB.out | apply below_alloc | apply pw_below_drewN | apply below_drew1) | exact HB.out)) hb); clear HO390; clear HB; have HO390 := n0_; have HB := n1_; clear n0_ n1_; (try clear hb); (try clear hb2); (try clear hk); (try clear hi)) | ((with_reducible refine gate_callee (f := 31) rfl ?_); refine goesL_ (some 21) rfl rfl Try.func31 (by kernel_rfl) rfl #[.int .i64 a0, .slice A1 l1.length c1] rfl (by (try simp only [List.map_toArray, List.map_cons, List.map_nil]); first | done | rfl | (simp only [List.length_drop, List.length_take]; rfl)) ?_; (with_reducible refine (contangoref28_Charge.calls k a0 _ _ l1 t393 t394 _ ?side1 ?side2 A5.out).mono ?_); (case side1 => repeat (first | exact (Kd.C_below HR1.out HB.out) | (with_reducible refine Kd.C_alloc ?_ _) | (with_reducible refine Kd.C_drewN ?_ _) | (with_reducible refine Kd.C_drew ?_))); (case side2 => exact HC1.out); rintro e w9 ⟨rfl, hb⟩; refine ⟨_, rfl, ?_⟩; have n0_ := Aside0.mk (Kd.R_below (by (with_reducible repeat (first | apply Kd.R_alloc | apply Kd.R_drewN | apply Kd.R_drew)); exact HO390.out) hb); have n1_ := Aside0.mk (below_step (by repeat (first | (with_reducible first | exact HB.out | apply below_alloc | apply pw_below_drewN | apply below_drew1) | exact HB.out)) hb); clear HO390; clear HB; have HO390 := n0_; have HB := n1_; clear n0_ n1_; (try clear hb); (try clear hb2); (try clear hk); (try clear hi)))
  (try simp only [Act.put, List.setIfInBounds_toArray, List.set_cons_zero, List.set_cons_succ])
  replace H := Option.bind_eq_some_iff.mp H
  obtain ⟨t395, A100, H⟩ := H
  replace H : ((contangoref28_Check.f k l1).bind fun t396 => (if t395 = t396 then (if t391 = t393 then (if t392 = t394 then ((contangolaw28_goes.f k).bind fun t397 => (some t397)) else (some false)) else (some false)) else (some false))) = some r := H
  have A10 := Aside0.mk A100
  clear A100
  replace H := Option.bind_eq_some_iff.mp H
  obtain ⟨t396, A110, H⟩ := H
  replace H : (if t395 = t396 then (if t391 = t393 then (if t392 = t394 then ((contangolaw28_goes.f k).bind fun t397 => (some t397)) else (some false)) else (some false)) else (some false)) = some r := H
  have A11 := Aside0.mk A110
  clear A110
  by_cases c12 : t395 = t396
  · rw [if_pos c12] at H
    have c12b0 : (t395 == t396) = true := beq_iff_eq.mpr c12
    have c12b1 : (t395 != t396) = false := bne_eq_false_iff_eq.mpr c12
    clear c12
    (try simp only [c12b0, c12b1])
    by_cases c13 : t391 = t393
    · rw [if_pos c13] at H
      have c13b0 : (t391 == t393) = true := beq_iff_eq.mpr c13
      have c13b1 : (t391 != t393) = false := bne_eq_false_iff_eq.mpr c13
      clear c13
      by_cases c14 : t392 = t394
      · rw [if_pos c14] at H
        have c14b0 : (t392 == t394) = true := beq_iff_eq.mpr c14
        have c14b1 : (t392 != t394) = false := bne_eq_false_iff_eq.mpr c14
        clear c14
        replace H := Option.bind_eq_some_iff.mp H
        obtain ⟨t397, A150, H⟩ := H
        replace H : (some t397) = some r := H
        have A15 := Aside0.mk A150
        clear A150
        obtain rfl := Option.some.inj H
        go_wp2_with (first | ((with_reducible refine gate_callee (f := 32) rfl ?_); refine goesL_ (some 25) rfl rfl Try.func32 (by kernel_rfl) rfl #[.slice Ao7 t388.length co7] rfl (by (try simp only [List.map_toArray, List.map_cons, List.map_nil]); first | done | rfl | (simp only [List.length_drop, List.length_take]; rfl)) ?_; (with_reducible refine (addon_Check.calls k _ _ t388 t395 _ ?side1 ?side2 A10.out).mono ?_); (case side1 => repeat (first | exact (Kd.R_reads' HO390.out).2.2 | (with_reducible refine Kd.C_alloc ?_ _) | (with_reducible refine Kd.C_drewN ?_ _) | (with_reducible refine Kd.C_drew ?_))); (case side2 => exact (Kd.R_reads' HO390.out).2.1); rintro e w16 ⟨rfl, hb⟩; refine ⟨_, rfl, ?_⟩; have n0_ := Aside0.mk (Kd.R_below (by (with_reducible repeat (first | apply Kd.R_alloc | apply Kd.R_drewN | apply Kd.R_drew)); exact HO390.out) hb); have n1_ := Aside0.mk (below_step (by repeat (first | (with_reducible first | exact HB.out | apply below_alloc | apply pw_below_drewN | apply below_drew1) | exact HB.out)) hb); clear HO390; clear HB; have HO390 := n0_; have HB := n1_; clear n0_ n1_; (try clear hb); (try clear hb2); (try clear hk); (try clear hi)) | ((with_reducible refine gate_callee (f := 33) rfl ?_); refine goesL_ (some 27) rfl rfl Try.func33 (by kernel_rfl) rfl #[.slice A1 l1.length c1] rfl (by (try simp only [List.map_toArray, List.map_cons, List.map_nil]); first | done | rfl | (simp only [List.length_drop, List.length_take]; rfl)) ?_; (with_reducible refine (contangoref28_Check.calls k _ _ l1 t396 _ ?side1 ?side2 A11.out).mono ?_); (case side1 => repeat (first | exact (Kd.C_below HR1.out HB.out) | (with_reducible refine Kd.C_alloc ?_ _) | (with_reducible refine Kd.C_drewN ?_ _) | (with_reducible refine Kd.C_drew ?_))); (case side2 => exact HC1.out); rintro e w17 ⟨rfl, hb⟩; refine ⟨_, rfl, ?_⟩; have n0_ := Aside0.mk (Kd.R_below (by (with_reducible repeat (first | apply Kd.R_alloc | apply Kd.R_drewN | apply Kd.R_drew)); exact HO390.out) hb); have n1_ := Aside0.mk (below_step (by repeat (first | (with_reducible first | exact HB.out | apply below_alloc | apply pw_below_drewN | apply below_drew1) | exact HB.out)) hb); clear HO390; clear HB; have HO390 := n0_; have HB := n1_; clear n0_ n1_; (try clear hb); (try clear hb2); (try clear hk); (try clear hi)) | (go_at_call 34; (with_reducible refine (contangolaw28_goes.calls k  t397 _ A15.out).mono ?_); rintro e w18 ⟨rfl, hb⟩; have n0_ := Aside0.mk (Kd.R_below (by (with_reducible repeat (first | apply Kd.R_alloc | apply Kd.R_drewN | apply Kd.R_drew)); exact HO390.out) hb); have n1_ := Aside0.mk (below_step (by repeat (first | (with_reducible first | exact HB.out | apply below_alloc | apply pw_below_drewN | apply below_drew1) | exact HB.out)) hb); clear HO390; clear HB; have HO390 := n0_; have HB := n1_; clear n0_ n1_; (try clear hb); (try clear hb2); (try clear hk); (try clear hi)))
        go_ret
        exact ⟨by first | rfl | (simp [errW_none, errW_some] <;> rfl) | (simp [*, errW_none, errW_some] <;> rfl), by repeat (first | (with_reducible first | exact HB.out | apply below_alloc | apply pw_below_drewN | apply below_drew1) | exact HB.out)⟩
      · rw [if_neg c14] at H
        have c14b0 : (t392 == t394) = false := beq_eq_false_iff_ne.mpr c14
        have c14b1 : (t392 != t394) = true := bne_iff_ne.mpr c14
        obtain rfl := Option.some.inj H
        go_wp2_with (first | ((with_reducible refine gate_callee (f := 32) rfl ?_); refine goesL_ (some 25) rfl rfl Try.func32 (by kernel_rfl) rfl #[.slice Ao7 t388.length co7] rfl (by (try simp only [List.map_toArray, List.map_cons, List.map_nil]); first | done | rfl | (simp only [List.length_drop, List.length_take]; rfl)) ?_; (with_reducible refine (addon_Check.calls k _ _ t388 t395 _ ?side1 ?side2 A10.out).mono ?_); (case side1 => repeat (first | exact (Kd.R_reads' HO390.out).2.2 | (with_reducible refine Kd.C_alloc ?_ _) | (with_reducible refine Kd.C_drewN ?_ _) | (with_reducible refine Kd.C_drew ?_))); (case side2 => exact (Kd.R_reads' HO390.out).2.1); rintro e w19 ⟨rfl, hb⟩; refine ⟨_, rfl, ?_⟩; have n0_ := Aside0.mk (Kd.R_below (by (with_reducible repeat (first | apply Kd.R_alloc | apply Kd.R_drewN | apply Kd.R_drew)); exact HO390.out) hb); have n1_ := Aside0.mk (below_step (by repeat (first | (with_reducible first | exact HB.out | apply below_alloc | apply pw_below_drewN | apply below_drew1) | exact HB.out)) hb); clear HO390; clear HB; have HO390 := n0_; have HB := n1_; clear n0_ n1_; (try clear hb); (try clear hb2); (try clear hk); (try clear hi)) | ((with_reducible refine gate_callee (f := 33) rfl ?_); refine goesL_ (some 27) rfl rfl Try.func33 (by kernel_rfl) rfl #[.slice A1 l1.length c1] rfl (by (try simp only [List.map_toArray, List.map_cons, List.map_nil]); first | done | rfl | (simp only [List.length_drop, List.length_take]; rfl)) ?_; (with_reducible refine (contangoref28_Check.calls k _ _ l1 t396 _ ?side1 ?side2 A11.out).mono ?_); (case side1 => repeat (first | exact (Kd.C_below HR1.out HB.out) | (with_reducible refine Kd.C_alloc ?_ _) | (with_reducible refine Kd.C_drewN ?_ _) | (with_reducible refine Kd.C_drew ?_))); (case side2 => exact HC1.out); rintro e w20 ⟨rfl, hb⟩; refine ⟨_, rfl, ?_⟩; have n0_ := Aside0.mk (Kd.R_below (by (with_reducible repeat (first | apply Kd.R_alloc | apply Kd.R_drewN | apply Kd.R_drew)); exact HO390.out) hb); have n1_ := Aside0.mk (below_step (by repeat (first | (with_reducible first | exact HB.out | apply below_alloc | apply pw_below_drewN | apply below_drew1) | exact HB.out)) hb); clear HO390; clear HB; have HO390 := n0_; have HB := n1_; clear n0_ n1_; (try clear hb); (try clear hb2); (try clear hk); (try clear hi)))
        go_ret
        exact ⟨by first | rfl | (simp [errW_none, errW_some] <;> rfl) | (simp [*, errW_none, errW_some] <;> rfl), by repeat (first | (with_reducible first | exact HB.out | apply below_alloc | apply pw_below_drewN | apply below_drew1) | exact HB.out)⟩
    · rw [if_neg c13] at H
      have c13b0 : (t391 == t393) = false := beq_eq_false_iff_ne.mpr c13
      have c13b1 : (t391 != t393) = true := bne_iff_ne.mpr c13
      obtain rfl := Option.some.inj H
      go_wp2_with (first | ((with_reducible refine gate_callee (f := 32) rfl ?_); refine goesL_ (some 25) rfl rfl Try.func32 (by kernel_rfl) rfl #[.slice Ao7 t388.length co7] rfl (by (try simp only [List.map_toArray, List.map_cons, List.map_nil]); first | done | rfl | (simp only [List.length_drop, List.length_take]; rfl)) ?_; (with_reducible refine (addon_Check.calls k _ _ t388 t395 _ ?side1 ?side2 A10.out).mono ?_); (case side1 => repeat (first | exact (Kd.R_reads' HO390.out).2.2 | (with_reducible refine Kd.C_alloc ?_ _) | (with_reducible refine Kd.C_drewN ?_ _) | (with_reducible refine Kd.C_drew ?_))); (case side2 => exact (Kd.R_reads' HO390.out).2.1); rintro e w21 ⟨rfl, hb⟩; refine ⟨_, rfl, ?_⟩; have n0_ := Aside0.mk (Kd.R_below (by (with_reducible repeat (first | apply Kd.R_alloc | apply Kd.R_drewN | apply Kd.R_drew)); exact HO390.out) hb); have n1_ := Aside0.mk (below_step (by repeat (first | (with_reducible first | exact HB.out | apply below_alloc | apply pw_below_drewN | apply below_drew1) | exact HB.out)) hb); clear HO390; clear HB; have HO390 := n0_; have HB := n1_; clear n0_ n1_; (try clear hb); (try clear hb2); (try clear hk); (try clear hi)) | ((with_reducible refine gate_callee (f := 33) rfl ?_); refine goesL_ (some 27) rfl rfl Try.func33 (by kernel_rfl) rfl #[.slice A1 l1.length c1] rfl (by (try simp only [List.map_toArray, List.map_cons, List.map_nil]); first | done | rfl | (simp only [List.length_drop, List.length_take]; rfl)) ?_; (with_reducible refine (contangoref28_Check.calls k _ _ l1 t396 _ ?side1 ?side2 A11.out).mono ?_); (case side1 => repeat (first | exact (Kd.C_below HR1.out HB.out) | (with_reducible refine Kd.C_alloc ?_ _) | (with_reducible refine Kd.C_drewN ?_ _) | (with_reducible refine Kd.C_drew ?_))); (case side2 => exact HC1.out); rintro e w22 ⟨rfl, hb⟩; refine ⟨_, rfl, ?_⟩; have n0_ := Aside0.mk (Kd.R_below (by (with_reducible repeat (first | apply Kd.R_alloc | apply Kd.R_drewN | apply Kd.R_drew)); exact HO390.out) hb); have n1_ := Aside0.mk (below_step (by repeat (first | (with_reducible first | exact HB.out | apply below_alloc | apply pw_below_drewN | apply below_drew1) | exact HB.out)) hb); clear HO390; clear HB; have HO390 := n0_; have HB := n1_; clear n0_ n1_; (try clear hb); (try clear hb2); (try clear hk); (try clear hi)))
      go_ret
      exact ⟨by first | rfl | (simp [errW_none, errW_some] <;> rfl) | (simp [*, errW_none, errW_some] <;> rfl), by repeat (first | (with_reducible first | exact HB.out | apply below_alloc | apply pw_below_drewN | apply below_drew1) | exact HB.out)⟩
  · rw [if_neg c12] at H
    have c12b0 : (t395 == t396) = false := beq_eq_false_iff_ne.mpr c12
    have c12b1 : (t395 != t396) = true := bne_iff_ne.mpr c12
    (try simp only [c12b0, c12b1])
    obtain rfl := Option.some.inj H
    go_wp2_with (first | ((with_reducible refine gate_callee (f := 32) rfl ?_); refine goesL_ (some 25) rfl rfl Try.func32 (by kernel_rfl) rfl #[.slice Ao7 t388.length co7] rfl (by (try simp only [List.map_toArray, List.map_cons, List.map_nil]); first | done | rfl | (simp only [List.length_drop, List.length_take]; rfl)) ?_; (with_reducible refine (addon_Check.calls k _ _ t388 t395 _ ?side1 ?side2 A10.out).mono ?_); (case side1 => repeat (first | exact (Kd.R_reads' HO390.out).2.2 | (with_reducible refine Kd.C_alloc ?_ _) | (with_reducible refine Kd.C_drewN ?_ _) | (with_reducible refine Kd.C_drew ?_))); (case side2 => exact (Kd.R_reads' HO390.out).2.1); rintro e w23 ⟨rfl, hb⟩; refine ⟨_, rfl, ?_⟩; have n0_ := Aside0.mk (Kd.R_below (by (with_reducible repeat (first | apply Kd.R_alloc | apply Kd.R_drewN | apply Kd.R_drew)); exact HO390.out) hb); have n1_ := Aside0.mk (below_step (by repeat (first | (with_reducible first | exact HB.out | apply below_alloc | apply pw_below_drewN | apply below_drew1) | exact HB.out)) hb); clear HO390; clear HB; have HO390 := n0_; have HB := n1_; clear n0_ n1_; (try clear hb); (try clear hb2); (try clear hk); (try clear hi)) | ((with_reducible refine gate_callee (f := 33) rfl ?_); refine goesL_ (some 27) rfl rfl Try.func33 (by kernel_rfl) rfl #[.slice A1 l1.length c1] rfl (by (try simp only [List.map_toArray, List.map_cons, List.map_nil]); first | done | rfl | (simp only [List.length_drop, List.length_take]; rfl)) ?_; (with_reducible refine (contangoref28_Check.calls k _ _ l1 t396 _ ?side1 ?side2 A11.out).mono ?_); (case side1 => repeat (first | exact (Kd.C_below HR1.out HB.out) | (with_reducible refine Kd.C_alloc ?_ _) | (with_reducible refine Kd.C_drewN ?_ _) | (with_reducible refine Kd.C_drew ?_))); (case side2 => exact HC1.out); rintro e w24 ⟨rfl, hb⟩; refine ⟨_, rfl, ?_⟩; have n0_ := Aside0.mk (Kd.R_below (by (with_reducible repeat (first | apply Kd.R_alloc | apply Kd.R_drewN | apply Kd.R_drew)); exact HO390.out) hb); have n1_ := Aside0.mk (below_step (by repeat (first | (with_reducible first | exact HB.out | apply below_alloc | apply pw_below_drewN | apply below_drew1) | exact HB.out)) hb); clear HO390; clear HB; have HO390 := n0_; have HB := n1_; clear n0_ n1_; (try clear hb); (try clear hb2); (try clear hk); (try clear hi)))
    go_ret
    exact ⟨by first | rfl | (simp [errW_none, errW_some] <;> rfl) | (simp [*, errW_none, errW_some] <;> rfl), by repeat (first | (with_reducible first | exact HB.out | apply below_alloc | apply pw_below_drewN | apply below_drew1) | exact HB.out)⟩
mutual
def contangolaw28_AddonRises.j0 : Nat → Int → Int → List (S103) → Bool → Option (Bool)
  | 0, _, _, _, _ => none
  | k + 1, x0, x1, x2, x31 => if x31 = true then ((contangolaw28_goes.f k).bind fun t449 => (some t449)) else ((contangolaw28_Steps.f k x2).bind fun t450 => ((addon_Charge.f k (wrap64 (x0 - 1)) t450).bind fun bt453 => ((addon_Charge.f k x0 t450).bind fun bt455 => ((addon_Charge.f k (wrap64 (x0 + 1)) t450).bind fun bt457 => ((addon_Charge.f k x1 t450).bind fun bt459 => ((addon_Charge.f k (wrap64 (x0 + x1)) t450).bind fun bt461 => (if bt457.2 = 0 then (contangolaw28_AddonRises.j1 k bt453.1 bt453.2 bt455.1 bt455.2 bt457.1 bt459.1 bt459.2 bt461.1 (bt461.2 != 0)) else (contangolaw28_AddonRises.j1 k bt453.1 bt453.2 bt455.1 bt455.2 bt457.1 bt459.1 bt459.2 bt461.1 true))))))))
def contangolaw28_AddonRises.j1 : Nat → Int → Int → Int → Int → Int → Int → Int → Int → Bool → Option (Bool)
  | 0, _, _, _, _, _, _, _, _, _ => none
  | k + 1, x8, x9, x10, x11, x12, x14, x15, x16, x74 => if x74 = true then ((contangolaw28_goes.f k).bind fun t463 => (some t463)) else (if x9 = 0 then (if x11 = 0 then (if x15 = 0 then (if x8 ≤ x10 then (if x10 ≤ x12 then (if (wrap64 (x10 - x8)) ≤ (wrap64 (x12 - x10)) then (if (wrap64 (x10 + x14)) ≤ x16 then ((contangolaw28_goes.f k).bind fun t464 => (some t464)) else (some false)) else (some false)) else (some false)) else (some false)) else (some false)) else (some false)) else (some false))
end
def contangolaw28_AddonRises.f (k : Nat) (a0 : Int) (a1 : Int) (l2 : List (S103)) : Option (Bool) := if a0 < 1 then (contangolaw28_AddonRises.j0 k a0 a1 l2 true) else (if a1 < 0 then (contangolaw28_AddonRises.j0 k a0 a1 l2 true) else (if a0 > 1099511627776 then (contangolaw28_AddonRises.j0 k a0 a1 l2 true) else (contangolaw28_AddonRises.j0 k a0 a1 l2 (decide (a1 > 1099511627776)))))
theorem contangolaw28_AddonRises.mono_l : ∀ k, (∀ y0 y1 y2 y3, LeO (contangolaw28_AddonRises.j0 k y0 y1 y2 y3) (contangolaw28_AddonRises.j0 (k + 1) y0 y1 y2 y3)) ∧ (∀ y0 y1 y2 y3 y4 y5 y6 y7 y8, LeO (contangolaw28_AddonRises.j1 k y0 y1 y2 y3 y4 y5 y6 y7 y8) (contangolaw28_AddonRises.j1 (k + 1) y0 y1 y2 y3 y4 y5 y6 y7 y8))
  | 0 => ⟨fun _ _ _ _ r h => by simp [contangolaw28_AddonRises.j0] at h, fun _ _ _ _ _ _ _ _ _ r h => by simp [contangolaw28_AddonRises.j1] at h⟩
  | k + 1 => by
    obtain ⟨ih0, ih1⟩ := contangolaw28_AddonRises.mono_l k
    refine ⟨?_, ?_⟩
    · intro y0 y1 y2 y3
      unfold contangolaw28_AddonRises.j0
      repeat' first
      | (with_reducible exact ih0 _ _ _ _)
      | (with_reducible exact ih1 _ _ _ _ _ _ _ _ _)
      | (with_reducible exact addon_Charge.mono _ _ _)
      | (with_reducible exact contangolaw28_Steps.mono _ _)
      | (with_reducible exact contangolaw28_goes.mono _)
      | (with_reducible exact LeO.refl _)
      | (with_reducible exact LeO.none _)
      | (with_reducible refine LeO.ite ?_ ?_)
      | (with_reducible refine LeO.bind ?_ (fun _ => ?_))
      | exact ih0 _ _ _ _
      | exact ih1 _ _ _ _ _ _ _ _ _
      | exact addon_Charge.mono _ _ _
      | exact contangolaw28_Steps.mono _ _
      | exact contangolaw28_goes.mono _
      | exact LeO.none _
      | refine LeO.ite ?_ ?_
      | refine LeO.bind ?_ (fun _ => ?_)
    · intro y0 y1 y2 y3 y4 y5 y6 y7 y8
      unfold contangolaw28_AddonRises.j1
      repeat' first
      | (with_reducible exact ih0 _ _ _ _)
      | (with_reducible exact ih1 _ _ _ _ _ _ _ _ _)
      | (with_reducible exact addon_Charge.mono _ _ _)
      | (with_reducible exact contangolaw28_Steps.mono _ _)
      | (with_reducible exact contangolaw28_goes.mono _)
      | (with_reducible exact LeO.refl _)
      | (with_reducible exact LeO.none _)
      | (with_reducible refine LeO.ite ?_ ?_)
      | (with_reducible refine LeO.bind ?_ (fun _ => ?_))
      | exact ih0 _ _ _ _
      | exact ih1 _ _ _ _ _ _ _ _ _
      | exact addon_Charge.mono _ _ _
      | exact contangolaw28_Steps.mono _ _
      | exact contangolaw28_goes.mono _
      | exact LeO.none _
      | refine LeO.ite ?_ ?_
      | refine LeO.bind ?_ (fun _ => ?_)
theorem contangolaw28_AddonRises.mono : ∀ a0 a1 a2 k, LeO (contangolaw28_AddonRises.f k a0 a1 a2) (contangolaw28_AddonRises.f (k + 1) a0 a1 a2) := by
  intro a0 a1 a2 k
  obtain ⟨ih0, ih1⟩ := contangolaw28_AddonRises.mono_l k
  unfold contangolaw28_AddonRises.f
  repeat' first
      | (with_reducible exact ih0 _ _ _ _)
      | (with_reducible exact ih1 _ _ _ _ _ _ _ _ _)
      | (with_reducible exact addon_Charge.mono _ _ _)
      | (with_reducible exact contangolaw28_Steps.mono _ _)
      | (with_reducible exact contangolaw28_goes.mono _)
      | (with_reducible exact LeO.refl _)
      | (with_reducible exact LeO.none _)
      | (with_reducible refine LeO.ite ?_ ?_)
      | (with_reducible refine LeO.bind ?_ (fun _ => ?_))
      | exact ih0 _ _ _ _
      | exact ih1 _ _ _ _ _ _ _ _ _
      | exact addon_Charge.mono _ _ _
      | exact contangolaw28_Steps.mono _ _
      | exact contangolaw28_goes.mono _
      | exact LeO.none _
      | refine LeO.ite ?_ ?_
      | refine LeO.bind ?_ (fun _ => ?_)
set_option maxHeartbeats 8000000 in
set_option maxRecDepth 100000 in
theorem contangolaw28_AddonRises.calls (k : Nat) (a0 : Int) (a1 : Int) (A2 : Option Addr) (c2 : Nat) (l2 : List (S103)) (r : Bool) (w : World) (hr2 : Kd.C k103 w A2 l2.length l2) (hc2 : l2.length ≤ c2) (h : contangolaw28_AddonRises.f k a0 a1 l2 = some r) :
    Calls Try.prog 11 #[.int .i64 a0, .int .i64 a1, .slice A2 l2.length c2] w fun e w' => e = .returned (.bool r) ∧ Below w.heap.size w w' := by
  have HR2 := Aside0.mk hr2
  have HC2 := Aside0.mk hc2
  clear hr2 hc2
  have HB := Aside0.mk (Below.refl w.heap.size w)
  have H : (if a0 < 1 then (contangolaw28_AddonRises.j0 k a0 a1 l2 true) else (if a1 < 0 then (contangolaw28_AddonRises.j0 k a0 a1 l2 true) else (if a0 > 1099511627776 then (contangolaw28_AddonRises.j0 k a0 a1 l2 true) else (contangolaw28_AddonRises.j0 k a0 a1 l2 (decide (a1 > 1099511627776)))))) = some r := h
  clear h
  have HC4 := Aside0.mk H
  clear H
  go_enter Try.func11, Try.ntmps11
  go_upto_region 1 with (fail)
  go_cut [31] (fun v31 wc => ∃ (kq : Nat) (x31_3 : Bool), v31 = .bool x31_3 ∧ Aside0 (contangolaw28_AddonRises.j0 kq a0 a1 l2 x31_3 = some r) ∧ Aside0 (kq ≤ k) ∧ Aside0 (Below w.heap.size w wc))
  case first =>
    have H := HC4.out
    clear HC4
    by_cases c5 : a0 < 1
    · rw [if_pos c5] at H
      have c5b0 : decide (a0 < 1) = true := decide_eq_true c5
      clear c5
      have H' := Aside0.mk H
      clear H
      go_wp2
      go_meet
      case rel => exact ⟨_, (true), (by first | rfl | (simp; done) | (simp [*]; done)), H', ⟨by first | omega | exact Nat.le_refl _⟩, ⟨by repeat (first | (with_reducible first | exact HB.out | apply below_alloc | apply pw_below_drewN | apply below_drew1) | exact HB.out)⟩⟩
    · rw [if_neg c5] at H
      have c5b0 : decide (a0 < 1) = false := decide_eq_false c5
      clear c5
      by_cases c6 : a1 < 0
      · rw [if_pos c6] at H
        have c6b0 : decide (a1 < 0) = true := decide_eq_true c6
        clear c6
        have H' := Aside0.mk H
        clear H
        go_wp2
        go_meet
        case rel => exact ⟨_, (true), (by first | rfl | (simp; done) | (simp [*]; done)), H', ⟨by first | omega | exact Nat.le_refl _⟩, ⟨by repeat (first | (with_reducible first | exact HB.out | apply below_alloc | apply pw_below_drewN | apply below_drew1) | exact HB.out)⟩⟩
      · rw [if_neg c6] at H
        have c6b0 : decide (a1 < 0) = false := decide_eq_false c6
        clear c6
        by_cases c7 : a0 > 1099511627776
        · rw [if_pos c7] at H
          have c7b0 : decide (1099511627776 < a0) = true := decide_eq_true c7
          clear c7
          have H' := Aside0.mk H
          clear H
          go_wp2
          go_meet
          case rel => exact ⟨_, (true), (by first | rfl | (simp; done) | (simp [*]; done)), H', ⟨by first | omega | exact Nat.le_refl _⟩, ⟨by repeat (first | (with_reducible first | exact HB.out | apply below_alloc | apply pw_below_drewN | apply below_drew1) | exact HB.out)⟩⟩
        · rw [if_neg c7] at H
          have c7b0 : decide (1099511627776 < a0) = false := decide_eq_false c7
          clear c7
          have H' := Aside0.mk H
          clear H
          go_wp2
          go_meet
          case rel => exact ⟨_, (decide (a1 > 1099511627776)), (by first | rfl | (simp; done) | (simp [*]; done)), H', ⟨by first | omega | exact Nat.le_refl _⟩, ⟨by repeat (first | (with_reducible first | exact HB.out | apply below_alloc | apply pw_below_drewN | apply below_drew1) | exact HB.out)⟩⟩
  case rest =>
    clear HC4
    try clear c1
    try clear c2
    try clear p2
    try clear c5
    try clear c5b0
    try clear c6
    try clear c6b0
    try clear c7
    try clear c7b0
    obtain ⟨kq, x31_3, rfl, HA, HJ3, HB⟩ := hcut
    cases kq with
    | zero => exact absurd HA.out (by simp [contangolaw28_AddonRises.j0])
    | succ kj3 =>
      have H := HA.out
      clear HA
      simp only [contangolaw28_AddonRises.j0] at H
      by_cases c8 : x31_3 = true
      · subst c8
        have H1 : ((contangolaw28_goes.f kj3).bind fun t449 => (some t449)) = some r := by rw [if_pos rfl] at H; exact H
        clear H
        have H := H1
        clear H1
        replace H := Option.bind_eq_some_iff.mp H
        obtain ⟨t449, A90, H⟩ := H
        replace H : (some t449) = some r := H
        have A9 := Aside0.mk A90
        clear A90
        obtain rfl := Option.some.inj H
        go_wp2_with (first | ((with_reducible refine gate_callee (f := 34) rfl ?_); refine goesL_ (some 32) rfl rfl Try.func34 (by kernel_rfl) rfl #[] rfl (by (try simp only [List.map_toArray, List.map_cons, List.map_nil]); first | done | rfl | (simp only [List.length_drop, List.length_take]; rfl)) ?_; (with_reducible refine (contangolaw28_goes.calls kj3  t449 _ A9.out).mono ?_); rintro e w10 ⟨rfl, hb⟩; refine ⟨_, rfl, ?_⟩; have n0_ := Aside0.mk (below_step (by repeat (first | (with_reducible first | exact HB.out | apply below_alloc | apply pw_below_drewN | apply below_drew1) | exact HB.out)) hb); clear HB; have HB := n0_; clear n0_; (try clear hb); (try clear hb2); (try clear hk); (try clear hi)))
        go_ret
        exact ⟨by first | rfl | (simp [errW_none, errW_some] <;> rfl) | (simp [*, errW_none, errW_some] <;> rfl), by repeat (first | (with_reducible first | exact HB.out | apply below_alloc | apply pw_below_drewN | apply below_drew1) | exact HB.out)⟩
      · replace c8 := Bool.eq_false_iff.mpr c8
        subst c8
        have H1 : ((contangolaw28_Steps.f kj3 l2).bind fun t450 => ((addon_Charge.f kj3 (wrap64 (a0 - 1)) t450).bind fun bt453 => ((addon_Charge.f kj3 a0 t450).bind fun bt455 => ((addon_Charge.f kj3 (wrap64 (a0 + 1)) t450).bind fun bt457 => ((addon_Charge.f kj3 a1 t450).bind fun bt459 => ((addon_Charge.f kj3 (wrap64 (a0 + a1)) t450).bind fun bt461 => (if bt457.2 = 0 then (contangolaw28_AddonRises.j1 kj3 bt453.1 bt453.2 bt455.1 bt455.2 bt457.1 bt459.1 bt459.2 bt461.1 (bt461.2 != 0)) else (contangolaw28_AddonRises.j1 kj3 bt453.1 bt453.2 bt455.1 bt455.2 bt457.1 bt459.1 bt459.2 bt461.1 true)))))))) = some r := by rw [if_neg (show ¬ (false = true) by decide)] at H; exact H
        clear H
        have H := H1
        clear H1
        replace H := Option.bind_eq_some_iff.mp H
        obtain ⟨t450, A110, H⟩ := H
        replace H : ((addon_Charge.f kj3 (wrap64 (a0 - 1)) t450).bind fun bt453 => ((addon_Charge.f kj3 a0 t450).bind fun bt455 => ((addon_Charge.f kj3 (wrap64 (a0 + 1)) t450).bind fun bt457 => ((addon_Charge.f kj3 a1 t450).bind fun bt459 => ((addon_Charge.f kj3 (wrap64 (a0 + a1)) t450).bind fun bt461 => (if bt457.2 = 0 then (contangolaw28_AddonRises.j1 kj3 bt453.1 bt453.2 bt455.1 bt455.2 bt457.1 bt459.1 bt459.2 bt461.1 (bt461.2 != 0)) else (contangolaw28_AddonRises.j1 kj3 bt453.1 bt453.2 bt455.1 bt455.2 bt457.1 bt459.1 bt459.2 bt461.1 true))))))) = some r := H
        have A11 := Aside0.mk A110
        clear A110
        replace H := Option.bind_eq_some_iff.mp H
        obtain ⟨⟨t453, t454⟩, A120, H⟩ := H
        replace H : ((addon_Charge.f kj3 a0 t450).bind fun bt455 => ((addon_Charge.f kj3 (wrap64 (a0 + 1)) t450).bind fun bt457 => ((addon_Charge.f kj3 a1 t450).bind fun bt459 => ((addon_Charge.f kj3 (wrap64 (a0 + a1)) t450).bind fun bt461 => (if bt457.2 = 0 then (contangolaw28_AddonRises.j1 kj3 t453 t454 bt455.1 bt455.2 bt457.1 bt459.1 bt459.2 bt461.1 (bt461.2 != 0)) else (contangolaw28_AddonRises.j1 kj3 t453 t454 bt455.1 bt455.2 bt457.1 bt459.1 bt459.2 bt461.1 true)))))) = some r := H
        have A12 := Aside0.mk A120
        clear A120
        replace H := Option.bind_eq_some_iff.mp H
        obtain ⟨⟨t455, t456⟩, A130, H⟩ := H
        replace H : ((addon_Charge.f kj3 (wrap64 (a0 + 1)) t450).bind fun bt457 => ((addon_Charge.f kj3 a1 t450).bind fun bt459 => ((addon_Charge.f kj3 (wrap64 (a0 + a1)) t450).bind fun bt461 => (if bt457.2 = 0 then (contangolaw28_AddonRises.j1 kj3 t453 t454 t455 t456 bt457.1 bt459.1 bt459.2 bt461.1 (bt461.2 != 0)) else (contangolaw28_AddonRises.j1 kj3 t453 t454 t455 t456 bt457.1 bt459.1 bt459.2 bt461.1 true))))) = some r := H
        have A13 := Aside0.mk A130
        clear A130
        replace H := Option.bind_eq_some_iff.mp H
        obtain ⟨⟨t457, t458⟩, A140, H⟩ := H
        replace H : ((addon_Charge.f kj3 a1 t450).bind fun bt459 => ((addon_Charge.f kj3 (wrap64 (a0 + a1)) t450).bind fun bt461 => (if t458 = 0 then (contangolaw28_AddonRises.j1 kj3 t453 t454 t455 t456 t457 bt459.1 bt459.2 bt461.1 (bt461.2 != 0)) else (contangolaw28_AddonRises.j1 kj3 t453 t454 t455 t456 t457 bt459.1 bt459.2 bt461.1 true)))) = some r := H
        have A14 := Aside0.mk A140
        clear A140
        replace H := Option.bind_eq_some_iff.mp H
        obtain ⟨⟨t459, t460⟩, A150, H⟩ := H
        replace H : ((addon_Charge.f kj3 (wrap64 (a0 + a1)) t450).bind fun bt461 => (if t458 = 0 then (contangolaw28_AddonRises.j1 kj3 t453 t454 t455 t456 t457 t459 t460 bt461.1 (bt461.2 != 0)) else (contangolaw28_AddonRises.j1 kj3 t453 t454 t455 t456 t457 t459 t460 bt461.1 true))) = some r := H
        have A15 := Aside0.mk A150
        clear A150
        replace H := Option.bind_eq_some_iff.mp H
        obtain ⟨⟨t461, t462⟩, A160, H⟩ := H
        replace H : (if t458 = 0 then (contangolaw28_AddonRises.j1 kj3 t453 t454 t455 t456 t457 t459 t460 t461 (t462 != 0)) else (contangolaw28_AddonRises.j1 kj3 t453 t454 t455 t456 t457 t459 t460 t461 true)) = some r := H
        have A16 := Aside0.mk A160
        clear A160
        have HC17 := Aside0.mk H
        clear H
        go_upto_region 9 with (first | ((with_reducible refine gate_callee (f := 29) rfl ?_); refine goesL_ (some 34) rfl rfl Try.func29 (by kernel_rfl) rfl #[.slice A2 l2.length c2] rfl (by (try simp only [List.map_toArray, List.map_cons, List.map_nil]); first | done | rfl | (simp only [List.length_drop, List.length_take]; rfl)) ?_; (with_reducible refine (contangolaw28_Steps.calls kj3 _ _ l2 t450 _ ?side1 ?side2 A11.out).mono ?_); (case side1 => repeat (first | exact (Kd.C_below HR2.out HB.out) | (with_reducible refine Kd.C_alloc ?_ _) | (with_reducible refine Kd.C_drewN ?_ _) | (with_reducible refine Kd.C_drew ?_))); (case side2 => exact HC2.out); rintro e w18 ⟨v451, rfl, ho0, hb⟩; refine ⟨_, rfl, ?_⟩; have n0_ := Aside0.mk (Kd.R_lower ho0 (below_size (by repeat (first | (with_reducible first | exact HB.out | apply below_alloc | apply pw_below_drewN | apply below_drew1) | exact HB.out)))); have n1_ := Aside0.mk (below_step (by repeat (first | (with_reducible first | exact HB.out | apply below_alloc | apply pw_below_drewN | apply below_drew1) | exact HB.out)) hb); clear HB; have HO452 := n0_; have HB := n1_; clear n0_ n1_; (try clear hb); (try clear hb2); (try clear hk); (try clear hi); (try clear ho0); obtain ⟨Ao19, co19, eo19⟩ := Kd.R_slice HO452.out; subst eo19) | ((with_reducible refine gate_callee (f := 30) rfl ?_); refine goesL_ (some 39) rfl rfl Try.func30 (by kernel_rfl) rfl #[.int .i64 (wrap64 (a0 - 1)), .slice Ao19 t450.length co19] rfl (by (try simp only [List.map_toArray, List.map_cons, List.map_nil]); first | done | rfl | (simp only [List.length_drop, List.length_take]; rfl)) ?_; (with_reducible refine (addon_Charge.calls kj3 (wrap64 (a0 - 1)) _ _ t450 t453 t454 _ ?side1 ?side2 A12.out).mono ?_); (case side1 => repeat (first | exact (Kd.R_reads' HO452.out).2.2 | (with_reducible refine Kd.C_alloc ?_ _) | (with_reducible refine Kd.C_drewN ?_ _) | (with_reducible refine Kd.C_drew ?_))); (case side2 => exact (Kd.R_reads' HO452.out).2.1); rintro e w20 ⟨rfl, hb⟩; refine ⟨_, rfl, ?_⟩; have n0_ := Aside0.mk (Kd.R_below (by (with_reducible repeat (first | apply Kd.R_alloc | apply Kd.R_drewN | apply Kd.R_drew)); exact HO452.out) hb); have n1_ := Aside0.mk (below_step (by repeat (first | (with_reducible first | exact HB.out | apply below_alloc | apply pw_below_drewN | apply below_drew1) | exact HB.out)) hb); clear HO452; clear HB; have HO452 := n0_; have HB := n1_; clear n0_ n1_; (try clear hb); (try clear hb2); (try clear hk); (try clear hi)) | ((with_reducible refine gate_callee (f := 30) rfl ?_); refine goesL_ (some 45) rfl rfl Try.func30 (by kernel_rfl) rfl #[.int .i64 a0, .slice Ao19 t450.length co19] rfl (by (try simp only [List.map_toArray, List.map_cons, List.map_nil]); first | done | rfl | (simp only [List.length_drop, List.length_take]; rfl)) ?_; (with_reducible refine (addon_Charge.calls kj3 a0 _ _ t450 t455 t456 _ ?side1 ?side2 A13.out).mono ?_); (case side1 => repeat (first | exact (Kd.R_reads' HO452.out).2.2 | (with_reducible refine Kd.C_alloc ?_ _) | (with_reducible refine Kd.C_drewN ?_ _) | (with_reducible refine Kd.C_drew ?_))); (case side2 => exact (Kd.R_reads' HO452.out).2.1); rintro e w21 ⟨rfl, hb⟩; refine ⟨_, rfl, ?_⟩; have n0_ := Aside0.mk (Kd.R_below (by (with_reducible repeat (first | apply Kd.R_alloc | apply Kd.R_drewN | apply Kd.R_drew)); exact HO452.out) hb); have n1_ := Aside0.mk (below_step (by repeat (first | (with_reducible first | exact HB.out | apply below_alloc | apply pw_below_drewN | apply below_drew1) | exact HB.out)) hb); clear HO452; clear HB; have HO452 := n0_; have HB := n1_; clear n0_ n1_; (try clear hb); (try clear hb2); (try clear hk); (try clear hi)) | ((with_reducible refine gate_callee (f := 30) rfl ?_); refine goesL_ (some 52) rfl rfl Try.func30 (by kernel_rfl) rfl #[.int .i64 (wrap64 (a0 + 1)), .slice Ao19 t450.length co19] rfl (by (try simp only [List.map_toArray, List.map_cons, List.map_nil]); first | done | rfl | (simp only [List.length_drop, List.length_take]; rfl)) ?_; (with_reducible refine (addon_Charge.calls kj3 (wrap64 (a0 + 1)) _ _ t450 t457 t458 _ ?side1 ?side2 A14.out).mono ?_); (case side1 => repeat (first | exact (Kd.R_reads' HO452.out).2.2 | (with_reducible refine Kd.C_alloc ?_ _) | (with_reducible refine Kd.C_drewN ?_ _) | (with_reducible refine Kd.C_drew ?_))); (case side2 => exact (Kd.R_reads' HO452.out).2.1); rintro e w22 ⟨rfl, hb⟩; refine ⟨_, rfl, ?_⟩; have n0_ := Aside0.mk (Kd.R_below (by (with_reducible repeat (first | apply Kd.R_alloc | apply Kd.R_drewN | apply Kd.R_drew)); exact HO452.out) hb); have n1_ := Aside0.mk (below_step (by repeat (first | (with_reducible first | exact HB.out | apply below_alloc | apply pw_below_drewN | apply below_drew1) | exact HB.out)) hb); clear HO452; clear HB; have HO452 := n0_; have HB := n1_; clear n0_ n1_; (try clear hb); (try clear hb2); (try clear hk); (try clear hi)) | ((with_reducible refine gate_callee (f := 30) rfl ?_); refine goesL_ (some 58) rfl rfl Try.func30 (by kernel_rfl) rfl #[.int .i64 a1, .slice Ao19 t450.length co19] rfl (by (try simp only [List.map_toArray, List.map_cons, List.map_nil]); first | done | rfl | (simp only [List.length_drop, List.length_take]; rfl)) ?_; (with_reducible refine (addon_Charge.calls kj3 a1 _ _ t450 t459 t460 _ ?side1 ?side2 A15.out).mono ?_); (case side1 => repeat (first | exact (Kd.R_reads' HO452.out).2.2 | (with_reducible refine Kd.C_alloc ?_ _) | (with_reducible refine Kd.C_drewN ?_ _) | (with_reducible refine Kd.C_drew ?_))); (case side2 => exact (Kd.R_reads' HO452.out).2.1); rintro e w23 ⟨rfl, hb⟩; refine ⟨_, rfl, ?_⟩; have n0_ := Aside0.mk (Kd.R_below (by (with_reducible repeat (first | apply Kd.R_alloc | apply Kd.R_drewN | apply Kd.R_drew)); exact HO452.out) hb); have n1_ := Aside0.mk (below_step (by repeat (first | (with_reducible first | exact HB.out | apply below_alloc | apply pw_below_drewN | apply below_drew1) | exact HB.out)) hb); clear HO452; clear HB; have HO452 := n0_; have HB := n1_; clear n0_ n1_; (try clear hb); (try clear hb2); (try clear hk); (try clear hi)) | ((with_reducible refine gate_callee (f := 30) rfl ?_); refine goesL_ (some 66) rfl rfl Try.func30 (by kernel_rfl) rfl #[.int .i64 (wrap64 (a0 + a1)), .slice Ao19 t450.length co19] rfl (by (try simp only [List.map_toArray, List.map_cons, List.map_nil]); first | done | rfl | (simp only [List.length_drop, List.length_take]; rfl)) ?_; (with_reducible refine (addon_Charge.calls kj3 (wrap64 (a0 + a1)) _ _ t450 t461 t462 _ ?side1 ?side2 A16.out).mono ?_); (case side1 => repeat (first | exact (Kd.R_reads' HO452.out).2.2 | (with_reducible refine Kd.C_alloc ?_ _) | (with_reducible refine Kd.C_drewN ?_ _) | (with_reducible refine Kd.C_drew ?_))); (case side2 => exact (Kd.R_reads' HO452.out).2.1); rintro e w24 ⟨rfl, hb⟩; refine ⟨_, rfl, ?_⟩; have n0_ := Aside0.mk (Kd.R_below (by (with_reducible repeat (first | apply Kd.R_alloc | apply Kd.R_drewN | apply Kd.R_drew)); exact HO452.out) hb); have n1_ := Aside0.mk (below_step (by repeat (first | (with_reducible first | exact HB.out | apply below_alloc | apply pw_below_drewN | apply below_drew1) | exact HB.out)) hb); clear HO452; clear HB; have HO452 := n0_; have HB := n1_; clear n0_ n1_; (try clear hb); (try clear hb2); (try clear hk); (try clear hi)))
        (try simp only [Act.put, List.setIfInBounds_toArray, List.set_cons_zero, List.set_cons_succ])
        go_cut [74] (fun v74 wc => ∃ (kq : Nat) (x74_16 : Bool), v74 = .bool x74_16 ∧ Aside0 (contangolaw28_AddonRises.j1 kq t453 t454 t455 t456 t457 t459 t460 t461 x74_16 = some r) ∧ Aside0 (kq ≤ kj3) ∧ Aside0 (Below w.heap.size w wc))
        case first =>
          have H := HC17.out
          clear HC17
          by_cases c25 : t458 = 0
          · rw [if_pos c25] at H
            have c25b0 : (t458 == 0) = true := beq_iff_eq.mpr c25
            have c25b1 : (t458 != 0) = false := bne_eq_false_iff_eq.mpr c25
            clear c25
            have H' := Aside0.mk H
            clear H
            go_wp2
            go_meet
            case rel => exact ⟨_, ((t462 != 0)), (by first | rfl | (simp; done) | (simp [*]; done)), H', ⟨by have := HJ3.out; first | omega | exact Nat.le_refl _⟩, ⟨by repeat (first | (with_reducible first | exact HB.out | apply below_alloc | apply pw_below_drewN | apply below_drew1) | exact HB.out)⟩⟩
          · rw [if_neg c25] at H
            have c25b0 : (t458 == 0) = false := beq_eq_false_iff_ne.mpr c25
            have c25b1 : (t458 != 0) = true := bne_iff_ne.mpr c25
            have H' := Aside0.mk H
            clear H
            go_wp2
            go_meet
            case rel => exact ⟨_, (true), (by first | rfl | (simp; done) | (simp [*]; done)), H', ⟨by have := HJ3.out; first | omega | exact Nat.le_refl _⟩, ⟨by repeat (first | (with_reducible first | exact HB.out | apply below_alloc | apply pw_below_drewN | apply below_drew1) | exact HB.out)⟩⟩
        case rest =>
          clear HC17
          try clear c1
          try clear c2
          try clear p2
          try clear c3
          try clear c5
          try clear c5b0
          try clear c6
          try clear c6b0
          try clear p6
          try clear c7
          try clear c7b0
          try clear c8
          try clear c11
          try clear c25
          try clear c25b0
          try clear c25b1
          try clear p2
          obtain ⟨kq, x74_16, rfl, HA, HJ16, HB⟩ := hcut
          cases kq with
          | zero => exact absurd HA.out (by simp [contangolaw28_AddonRises.j1])
          | succ kj16 =>
            have H := HA.out
            clear HA
            simp only [contangolaw28_AddonRises.j1] at H
            by_cases c26 : x74_16 = true
            · subst c26
              have H1 : ((contangolaw28_goes.f kj16).bind fun t463 => (some t463)) = some r := by rw [if_pos rfl] at H; exact H
              clear H
              have H := H1
              clear H1
              replace H := Option.bind_eq_some_iff.mp H
              obtain ⟨t463, A270, H⟩ := H
              replace H : (some t463) = some r := H
              have A27 := Aside0.mk A270
              clear A270
              obtain rfl := Option.some.inj H
              go_wp2_with (first | ((with_reducible refine gate_callee (f := 34) rfl ?_); refine goesL_ (some 75) rfl rfl Try.func34 (by kernel_rfl) rfl #[] rfl (by (try simp only [List.map_toArray, List.map_cons, List.map_nil]); first | done | rfl | (simp only [List.length_drop, List.length_take]; rfl)) ?_; (with_reducible refine (contangolaw28_goes.calls kj16  t463 _ A27.out).mono ?_); rintro e w28 ⟨rfl, hb⟩; refine ⟨_, rfl, ?_⟩; have n0_ := Aside0.mk (below_step (by repeat (first | (with_reducible first | exact HB.out | apply below_alloc | apply pw_below_drewN | apply below_drew1) | exact HB.out)) hb); clear HB; have HB := n0_; clear n0_; (try clear hb); (try clear hb2); (try clear hk); (try clear hi)))
              go_ret
              exact ⟨by first | rfl | (simp [errW_none, errW_some] <;> rfl) | (simp [*, errW_none, errW_some] <;> rfl), by repeat (first | (with_reducible first | exact HB.out | apply below_alloc | apply pw_below_drewN | apply below_drew1) | exact HB.out)⟩
            · replace c26 := Bool.eq_false_iff.mpr c26
              subst c26
              have H1 : (if t454 = 0 then (if t456 = 0 then (if t460 = 0 then (if t453 ≤ t455 then (if t455 ≤ t457 then (if (wrap64 (t455 - t453)) ≤ (wrap64 (t457 - t455)) then (if (wrap64 (t455 + t459)) ≤ t461 then ((contangolaw28_goes.f kj16).bind fun t464 => (some t464)) else (some false)) else (some false)) else (some false)) else (some false)) else (some false)) else (some false)) else (some false)) = some r := by rw [if_neg (show ¬ (false = true) by decide)] at H; exact H
              clear H
              have H := H1
              clear H1
              by_cases c29 : t454 = 0
              · rw [if_pos c29] at H
                have c29b0 : (t454 == 0) = true := beq_iff_eq.mpr c29
                have c29b1 : (t454 != 0) = false := bne_eq_false_iff_eq.mpr c29
                clear c29
                by_cases c30 : t456 = 0
                · rw [if_pos c30] at H
                  have c30b0 : (t456 == 0) = true := beq_iff_eq.mpr c30
                  have c30b1 : (t456 != 0) = false := bne_eq_false_iff_eq.mpr c30
                  clear c30
                  by_cases c31 : t460 = 0
                  · rw [if_pos c31] at H
                    have c31b0 : (t460 == 0) = true := beq_iff_eq.mpr c31
                    have c31b1 : (t460 != 0) = false := bne_eq_false_iff_eq.mpr c31
                    clear c31
                    by_cases c32 : t453 ≤ t455
                    · rw [if_pos c32] at H
                      have c32b0 : decide (t453 ≤ t455) = true := decide_eq_true c32
                      clear c32
                      by_cases c33 : t455 ≤ t457
                      · rw [if_pos c33] at H
                        have c33b0 : decide (t455 ≤ t457) = true := decide_eq_true c33
                        clear c33
                        by_cases c34 : (wrap64 (t455 - t453)) ≤ (wrap64 (t457 - t455))
                        · rw [if_pos c34] at H
                          have c34b0 : decide ((wrap64 (t455 - t453)) ≤ (wrap64 (t457 - t455))) = true := decide_eq_true c34
                          clear c34
                          by_cases c35 : (wrap64 (t455 + t459)) ≤ t461
                          · rw [if_pos c35] at H
                            have c35b0 : decide ((wrap64 (t455 + t459)) ≤ t461) = true := decide_eq_true c35
                            clear c35
                            replace H := Option.bind_eq_some_iff.mp H
                            obtain ⟨t464, A360, H⟩ := H
                            replace H : (some t464) = some r := H
                            have A36 := Aside0.mk A360
                            clear A360
                            obtain rfl := Option.some.inj H
                            go_wp2_with (first | (go_at_call 34; (with_reducible refine (contangolaw28_goes.calls kj16  t464 _ A36.out).mono ?_); rintro e w37 ⟨rfl, hb⟩; have n0_ := Aside0.mk (below_step (by repeat (first | (with_reducible first | exact HB.out | apply below_alloc | apply pw_below_drewN | apply below_drew1) | exact HB.out)) hb); clear HB; have HB := n0_; clear n0_; (try clear hb); (try clear hb2); (try clear hk); (try clear hi)))
                            go_ret
                            exact ⟨by first | rfl | (simp [errW_none, errW_some] <;> rfl) | (simp [*, errW_none, errW_some] <;> rfl), by repeat (first | (with_reducible first | exact HB.out | apply below_alloc | apply pw_below_drewN | apply below_drew1) | exact HB.out)⟩
                          · rw [if_neg c35] at H
                            have c35b0 : decide ((wrap64 (t455 + t459)) ≤ t461) = false := decide_eq_false c35
                            clear c35
                            obtain rfl := Option.some.inj H
                            go_wp2
                            go_ret
                            exact ⟨by first | rfl | (simp [errW_none, errW_some] <;> rfl) | (simp [*, errW_none, errW_some] <;> rfl), by repeat (first | (with_reducible first | exact HB.out | apply below_alloc | apply pw_below_drewN | apply below_drew1) | exact HB.out)⟩
                        · rw [if_neg c34] at H
                          have c34b0 : decide ((wrap64 (t455 - t453)) ≤ (wrap64 (t457 - t455))) = false := decide_eq_false c34
                          clear c34
                          obtain rfl := Option.some.inj H
                          go_wp2
                          go_ret
                          exact ⟨by first | rfl | (simp [errW_none, errW_some] <;> rfl) | (simp [*, errW_none, errW_some] <;> rfl), by repeat (first | (with_reducible first | exact HB.out | apply below_alloc | apply pw_below_drewN | apply below_drew1) | exact HB.out)⟩
                      · rw [if_neg c33] at H
                        have c33b0 : decide (t455 ≤ t457) = false := decide_eq_false c33
                        clear c33
                        obtain rfl := Option.some.inj H
                        go_wp2
                        go_ret
                        exact ⟨by first | rfl | (simp [errW_none, errW_some] <;> rfl) | (simp [*, errW_none, errW_some] <;> rfl), by repeat (first | (with_reducible first | exact HB.out | apply below_alloc | apply pw_below_drewN | apply below_drew1) | exact HB.out)⟩
                    · rw [if_neg c32] at H
                      have c32b0 : decide (t453 ≤ t455) = false := decide_eq_false c32
                      clear c32
                      obtain rfl := Option.some.inj H
                      go_wp2
                      go_ret
                      exact ⟨by first | rfl | (simp [errW_none, errW_some] <;> rfl) | (simp [*, errW_none, errW_some] <;> rfl), by repeat (first | (with_reducible first | exact HB.out | apply below_alloc | apply pw_below_drewN | apply below_drew1) | exact HB.out)⟩
                  · rw [if_neg c31] at H
                    have c31b0 : (t460 == 0) = false := beq_eq_false_iff_ne.mpr c31
                    have c31b1 : (t460 != 0) = true := bne_iff_ne.mpr c31
                    obtain rfl := Option.some.inj H
                    go_wp2
                    go_ret
                    exact ⟨by first | rfl | (simp [errW_none, errW_some] <;> rfl) | (simp [*, errW_none, errW_some] <;> rfl), by repeat (first | (with_reducible first | exact HB.out | apply below_alloc | apply pw_below_drewN | apply below_drew1) | exact HB.out)⟩
                · rw [if_neg c30] at H
                  have c30b0 : (t456 == 0) = false := beq_eq_false_iff_ne.mpr c30
                  have c30b1 : (t456 != 0) = true := bne_iff_ne.mpr c30
                  obtain rfl := Option.some.inj H
                  go_wp2
                  go_ret
                  exact ⟨by first | rfl | (simp [errW_none, errW_some] <;> rfl) | (simp [*, errW_none, errW_some] <;> rfl), by repeat (first | (with_reducible first | exact HB.out | apply below_alloc | apply pw_below_drewN | apply below_drew1) | exact HB.out)⟩
              · rw [if_neg c29] at H
                have c29b0 : (t454 == 0) = false := beq_eq_false_iff_ne.mpr c29
                have c29b1 : (t454 != 0) = true := bne_iff_ne.mpr c29
                obtain rfl := Option.some.inj H
                go_wp2
                go_ret
                exact ⟨by first | rfl | (simp [errW_none, errW_some] <;> rfl) | (simp [*, errW_none, errW_some] <;> rfl), by repeat (first | (with_reducible first | exact HB.out | apply below_alloc | apply pw_below_drewN | apply below_drew1) | exact HB.out)⟩
end Go.Proofs.Ytaiekjimdjlgbaa.Pr
