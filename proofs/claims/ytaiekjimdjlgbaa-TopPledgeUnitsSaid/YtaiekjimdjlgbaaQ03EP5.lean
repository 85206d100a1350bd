/- Functions' values and contracts, as the print wrote them. -/
import Derived.Test.YtaiekjimdjlgbaaQ03EP0
import Derived.Test.YtaiekjimdjlgbaaQ03EP1
import Derived.Test.YtaiekjimdjlgbaaQ03EP4
import Derived.Test.YtaiekjimdjlgbaaQ03EP3
namespace Go.Proofs.Ytaiekjimdjlgbaa.Pr
open Go.RowKit Go.Proofs.YtaiekjimdjlgbaaW.PrintWords Go.Proofs.YtaiekjimdjlgbaaW.PrintLast Go.Proofs.YtaiekjimdjlgbaaW.PrintMore
attribute [local go_sem] max2_int min2_int max_two min_two max_three min_three max_four min_four   -- for this text's walks alone
set_option linter.unusedVariables false
set_option linter.unusedSimpArgs false
def pledge_Take.j0 : Nat → List (S85) → Int → Int → Bool → ByteArray → ByteArray → ByteArray → Int → Option ((List (S85)) × Int)
  | 0, _, _, _, _, _, _, _, _ => none
  | k + 1, x0, x3, x11, x40, x487000, x487001, x487002, x487003 => if x40 = true then (some (([] : List (S85)), 23)) else (if 0 ≤ x11 then (if x11 < (x0.length : Int) then (if (wrap64 (((rd_T85 x0 x11).f2) - x3)) = 0 then ((pledge_changed_api_Pledge.f x0 x11 1 ([] : List (S85))).bind fun t491 => (some (t491, 0))) else ((pledge_changed_api_Pledge.f x0 x11 1 (([(⟨(⟨x487000, x487001⟩ : S67), x487002, wrap64 (((rd_T85 x0 x11).f2) - x3)⟩ : S85)] : List (S85)))).bind fun t497 => (some (t497, 0)))) else (none)) else (none))
def pledge_Take.f (k : Nat) (l0 : List (S85)) (a1_0 : ByteArray) (a1_1 : ByteArray) (a2 : ByteArray) (a3 : Int) : Option ((List (S85)) × Int) := (pledge_Check.f k l0).bind fun t484 => (if t484 = 0 then ((pledge_many.f a3).bind fun t485 => (if t485 = true then ((pledge_place_api_Pledge.f k l0 a1_0 a1_1 a2 0).bind fun bt487 => (if bt487.2 = true then (if 0 ≤ bt487.1 then (if bt487.1 < (l0.length : Int) then (pledge_Take.j0 k l0 a3 bt487.1 (decide (((rd_T85 l0 bt487.1).f2) < a3)) a1_0 a1_1 a2 0) else (none)) else (none)) else (pledge_Take.j0 k l0 a3 bt487.1 true a1_0 a1_1 a2 0))) else (some (([] : List (S85)), 18)))) else (some (([] : List (S85)), t484)))
theorem pledge_Take.mono_l : ∀ k, (∀ y0 y1 y2 y3 y4 y5 y6 y7, LeO (pledge_Take.j0 k y0 y1 y2 y3 y4 y5 y6 y7) (pledge_Take.j0 (k + 1) y0 y1 y2 y3 y4 y5 y6 y7))
  | 0 => fun _ _ _ _ _ _ _ _ r h => by simp [pledge_Take.j0] at h
  | k + 1 => by
    have ih0 := pledge_Take.mono_l k
    · intro y0 y1 y2 y3 y4 y5 y6 y7
      unfold pledge_Take.j0
      repeat' first
      | (with_reducible exact ih0 _ _ _ _ _ _ _ _)
      | (with_reducible exact pledge_Check.mono _ _)
      | (with_reducible exact pledge_place_api_Pledge.mono _ _ _ _ _ _)
      | (with_reducible exact LeO.refl _)
      | (with_reducible exact LeO.none _)
      | (with_reducible refine LeO.ite ?_ ?_)
      | (with_reducible refine LeO.bind ?_ (fun _ => ?_))
      | exact ih0 _ _ _ _ _ _ _ _
      | exact pledge_Check.mono _ _
      | exact pledge_place_api_Pledge.mono _ _ _ _ _ _
      | exact LeO.none _
      | refine LeO.ite ?_ ?_
      | refine LeO.bind ?_ (fun _ => ?_)
theorem pledge_Take.mono : ∀ a0 a1 a2 a3 a4 k, LeO (pledge_Take.f k a0 a1 a2 a3 a4) (pledge_Take.f (k + 1) a0 a1 a2 a3 a4) := by
  intro a0 a1 a2 a3 a4 k
  have ih0 := pledge_Take.mono_l k
  unfold pledge_Take.f
  repeat' first
      | (with_reducible exact ih0 _ _ _ _ _ _ _ _)
      | (with_reducible exact pledge_Check.mono _ _)
      | (with_reducible exact pledge_place_api_Pledge.mono _ _ _ _ _ _)
      | (with_reducible exact LeO.refl _)
      | (with_reducible exact LeO.none _)
      | (with_reducible refine LeO.ite ?_ ?_)
      | (with_reducible refine LeO.bind ?_ (fun _ => ?_))
      | exact ih0 _ _ _ _ _ _ _ _
      | exact pledge_Check.mono _ _
      | exact pledge_place_api_Pledge.mono _ _ _ _ _ _
      | exact LeO.none _
      | refine LeO.ite ?_ ?_
      | refine LeO.bind ?_ (fun _ => ?_)
set_option maxHeartbeats 8000000 in
set_option maxRecDepth 100000 in
theorem pledge_Take.calls (k : Nat) (A0 : Option Addr) (c0 : Nat) (l0 : List (S85)) (a1_0 : ByteArray) (a1_1 : ByteArray) (a2 : ByteArray) (a3 : Int) (r1 : List (S85)) (r2 : Int) (w : World) (hr0 : Kd.C k85 w A0 l0.length l0) (hc0 : l0.length ≤ c0) (h : pledge_Take.f k l0 a1_0 a1_1 a2 a3 = some (r1, r2)) :
    Calls Try.prog 44 #[.slice A0 l0.length c0, .agg #[.string a1_0, .string a1_1], .string a2, .int .i64 a3] w fun e w' => ∃ v0_ : Value, e = .returned (.tuple #[v0_, .int .i64 r2]) ∧ Kd.R k85 85 w' w.heap.size (fun _ => True) v0_ r1 ∧ Below w.heap.size w w' := by
  have hu67 := Try.underlying67
  have hu85 := Try.underlying85
  have HR0 := Aside0.mk hr0
  have HC0 := Aside0.mk hc0
  clear hr0 hc0
  have HB := Aside0.mk (Below.refl w.heap.size w)
  have H : ((pledge_Check.f k l0).bind fun t484 => (if t484 = 0 then ((pledge_many.f a3).bind fun t485 => (if t485 = true then ((pledge_place_api_Pledge.f k l0 a1_0 a1_1 a2 0).bind fun bt487 => (if bt487.2 = true then (if 0 ≤ bt487.1 then (if bt487.1 < (l0.length : Int) then (pledge_Take.j0 k l0 a3 bt487.1 (decide (((rd_T85 l0 bt487.1).f2) < a3)) a1_0 a1_1 a2 0) else (none)) else (none)) else (pledge_Take.j0 k l0 a3 bt487.1 true a1_0 a1_1 a2 0))) else (some (([] : List (S85)), 18)))) else (some (([] : List (S85)), t484)))) = some (r1, r2) := h
  clear h
  replace H := Option.bind_eq_some_iff.mp H
  obtain ⟨t484, A50, H⟩ := H
  replace H : (if t484 = 0 then ((pledge_many.f a3).bind fun t485 => (if t485 = true then ((pledge_place_api_Pledge.f k l0 a1_0 a1_1 a2 0).bind fun bt487 => (if bt487.2 = true then (if 0 ≤ bt487.1 then (if bt487.1 < (l0.length : Int) then (pledge_Take.j0 k l0 a3 bt487.1 (decide (((rd_T85 l0 bt487.1).f2) < a3)) a1_0 a1_1 a2 0) else (none)) else (none)) else (pledge_Take.j0 k l0 a3 bt487.1 true a1_0 a1_1 a2 0))) else (some (([] : List (S85)), 18)))) else (some (([] : List (S85)), t484))) = some (r1, r2) := H
  have A5 := Aside0.mk A50
  clear A50
  go_enter Try.func44, Try.ntmps44
  go_upto_if 16 with (first | ((with_reducible refine gate_dst (N := 5) rfl ?_); refine box_event ?hg (N := 5) ?hd (cs := #[.string a1_0, .string a1_1]) (t := 67) ?hr ?_; (case hd => rfl); (case hg => rfl); (case hr => first | (go_simp; done) | (go_simp; rfl)); intro gb483 hg w6 hbox hb; have n0_ := Aside0.mk (below_step (by repeat (first | (with_reducible first | exact HB.out | apply below_alloc | apply pw_below_drewN | apply below_drew1) | exact HB.out)) hb); have n1_ := Aside0.mk (hbox); have n2_ := Aside0.mk ((by rw [hg]; exact (below_size (by repeat (first | (with_reducible first | exact HB.out | apply below_alloc | apply pw_below_drewN | apply below_drew1) | exact HB.out))) : w.heap.size ≤ gb483)); have n3_ := Aside0.mk ((by rw [hg]; exact (below_size (by repeat (first | (with_reducible first | exact HB.out | apply below_alloc | apply pw_below_drewN | apply below_drew1) | exact HB.out))) : w.heap.size ≤ gb483)); clear HB; have HB := n0_; have BK483 := n1_; have GW483 := n2_; have GE483 := n3_; clear n0_ n1_ n2_ n3_; clear hb hbox hg) | ((with_reducible refine gate_callee (f := 48) rfl ?_); refine goesL_ (some 14) rfl rfl Try.func48 (by kernel_rfl) rfl #[.slice A0 l0.length c0] rfl (by (try simp only [List.map_toArray, List.map_cons, List.map_nil]); first | done | rfl | (simp only [List.length_drop, List.length_take]; rfl)) ?_; (with_reducible refine (pledge_Check.calls k _ _ l0 t484 _ ?side1 ?side2 A5.out).mono ?_); (case side1 => repeat (first | exact (Kd.C_below HR0.out HB.out) | (with_reducible refine Kd.C_alloc ?_ _) | (with_reducible refine Kd.C_drewN ?_ _) | (with_reducible refine Kd.C_drew ?_))); (case side2 => exact HC0.out); rintro e w7 ⟨rfl, hb⟩; refine ⟨_, rfl, ?_⟩; have n0_ := Aside0.mk (blk_below (g := gb483) (o := .cells #[.string a1_0, .string a1_1] 67 (0, 0)) (by (with_reducible repeat (first | refine blk_drewN ?_ _ | refine blk_drew ?_ | refine blk_alloc ?_ _)); exact BK483.out) hb); have n1_ := Aside0.mk (below_step (by repeat (first | (with_reducible first | exact HB.out | apply below_alloc | apply pw_below_drewN | apply below_drew1 | refine below_set ?_ GE483.out) | exact HB.out)) hb); clear BK483; clear HB; have BK483 := n0_; have HB := n1_; clear n0_ n1_; (try clear hb); (try clear hb2); (try clear hk); (try clear hi)))
  (try simp only [Act.put, List.setIfInBounds_toArray, List.set_cons_zero, List.set_cons_succ])
  by_cases c8 : t484 = 0
  · rw [if_pos c8] at H
    have c8b0 : (t484 == 0) = true := beq_iff_eq.mpr c8
    have c8b1 : (t484 != 0) = false := bne_eq_false_iff_eq.mpr c8
    clear c8
    (try simp only [c8b0, c8b1])
    replace H := Option.bind_eq_some_iff.mp H
    obtain ⟨t485, A90, H⟩ := H
    replace H : (if t485 = true then ((pledge_place_api_Pledge.f k l0 a1_0 a1_1 a2 0).bind fun bt487 => (if bt487.2 = true then (if 0 ≤ bt487.1 then (if bt487.1 < (l0.length : Int) then (pledge_Take.j0 k l0 a3 bt487.1 (decide (((rd_T85 l0 bt487.1).f2) < a3)) a1_0 a1_1 a2 0) else (none)) else (none)) else (pledge_Take.j0 k l0 a3 bt487.1 true a1_0 a1_1 a2 0))) else (some (([] : List (S85)), 18))) = some (r1, r2) := H
    have A9 := Aside0.mk A90
    clear A90
    go_upto_if 20 with (first | ((with_reducible refine gate_callee (f := 80) rfl ?_); refine goesL_ (some 19) rfl rfl Try.func80 (by kernel_rfl) rfl #[.int .i64 a3] rfl (by (try simp only [List.map_toArray, List.map_cons, List.map_nil]); first | done | rfl | (simp only [List.length_drop, List.length_take]; rfl)) ?_; (with_reducible refine (pledge_many.calls a3 t485 _ A9.out).mono ?_); rintro e w' ⟨rfl, ⟨nd, rfl⟩⟩; refine ⟨_, rfl, ?_⟩))
    (try simp only [Act.put, List.setIfInBounds_toArray, List.set_cons_zero, List.set_cons_succ])
    by_cases c10 : t485 = true
    · subst c10
      have H1 : ((pledge_place_api_Pledge.f k l0 a1_0 a1_1 a2 0).bind fun bt487 => (if bt487.2 = true then (if 0 ≤ bt487.1 then (if bt487.1 < (l0.length : Int) then (pledge_Take.j0 k l0 a3 bt487.1 (decide (((rd_T85 l0 bt487.1).f2) < a3)) a1_0 a1_1 a2 0) else (none)) else (none)) else (pledge_Take.j0 k l0 a3 bt487.1 true a1_0 a1_1 a2 0))) = some (r1, r2) := by rw [if_pos rfl] at H; exact H
      clear H
      have H := H1
      clear H1
      replace H := Option.bind_eq_some_iff.mp H
      obtain ⟨⟨t487, t488⟩, A110, H⟩ := H
      replace H : (if t488 = true then (if 0 ≤ t487 then (if t487 < (l0.length : Int) then (pledge_Take.j0 k l0 a3 t487 (decide (((rd_T85 l0 t487).f2) < a3)) a1_0 a1_1 a2 0) else (none)) else (none)) else (pledge_Take.j0 k l0 a3 t487 true a1_0 a1_1 a2 0)) = some (r1, r2) := H
      have A11 := Aside0.mk A110
      clear A110
      have HC12 := Aside0.mk H
      clear H
      have hcz13_0 : w7.cell? ⟨gb483, 0, none⟩ = some (.string a1_0) := (blk_cell BK483.out 0).trans rfl
      have hcz13_1 : w7.cell? ⟨gb483, 1, none⟩ = some (.string a1_1) := (blk_cell BK483.out 1).trans rfl
      have hfz13_0 := blk_frozen BK483.out 0
      have hfz13_1 := blk_frozen BK483.out 1
      go_upto_region 8 with (first | ((with_reducible refine gate_dst (N := 10) rfl ?_); refine box_event ?hg (N := 10) ?hd (cs := #[.string (⟨#[]⟩ : ByteArray), .string (⟨#[]⟩ : ByteArray), .string (⟨#[]⟩ : ByteArray), .int .i64 0]) (t := 85) ?hr ?_; (case hd => rfl); (case hg => rfl); (case hr => first | (go_simp; done) | (go_simp; rfl)); intro gb486 hg w14 hbox hb; have n0_ := Aside0.mk (blk_below (g := gb483) (o := .cells #[.string a1_0, .string a1_1] 67 (0, 0)) (by (with_reducible repeat (first | refine blk_drewN ?_ _ | refine blk_drew ?_ | refine blk_alloc ?_ _)); exact BK483.out) hb); have n1_ := Aside0.mk (below_step (by repeat (first | (with_reducible first | exact HB.out | apply below_alloc | apply pw_below_drewN | apply below_drew1 | refine below_set ?_ GE483.out) | exact HB.out)) hb); have n2_ := Aside0.mk (hbox); have n3_ := Aside0.mk ((by rw [hg]; exact (below_size (by repeat (first | (with_reducible first | exact HB.out | apply below_alloc | apply pw_below_drewN | apply below_drew1 | refine below_set ?_ GE483.out) | exact HB.out))) : w.heap.size ≤ gb486)); have n4_ := Aside0.mk ((by rw [hg]; exact (below_size (by repeat (first | (with_reducible first | exact HB.out | apply below_alloc | apply pw_below_drewN | apply below_drew1 | refine below_set ?_ GE483.out) | exact HB.out))) : w.heap.size ≤ gb486)); have n5_ := Aside0.mk ((by rw [hg]; exact Nat.ne_of_lt (blk_lt (g := gb483) (o := .cells #[.string a1_0, .string a1_1] 67 (0, 0)) (by (with_reducible repeat (first | refine blk_drewN ?_ _ | refine blk_drew ?_ | refine blk_alloc ?_ _)); exact BK483.out)) : gb483 ≠ gb486)); have n6_ := Aside0.mk ((by rw [hg]; exact Nat.ne_of_gt (blk_lt (g := gb483) (o := .cells #[.string a1_0, .string a1_1] 67 (0, 0)) (by (with_reducible repeat (first | refine blk_drewN ?_ _ | refine blk_drew ?_ | refine blk_alloc ?_ _)); exact BK483.out)) : gb486 ≠ gb483)); clear BK483; clear HB; have BK483 := n0_; have HB := n1_; have BK486 := n2_; have GW486 := n3_; have GE486 := n4_; have NB483_486 := n5_; have NB486_483 := n6_; clear n0_ n1_ n2_ n3_ n4_ n5_ n6_; clear hb hbox hg; have hnb15 := NB486_483.out; have hnc15 := NB483_486.out; have hcz16_0 : w14.cell? ⟨gb486, 0, none⟩ = some (.string (⟨#[]⟩ : ByteArray)) := (blk_cell BK486.out 0).trans rfl; have hcz16_1 : w14.cell? ⟨gb486, 1, none⟩ = some (.string (⟨#[]⟩ : ByteArray)) := (blk_cell BK486.out 1).trans rfl; have hcz16_2 : w14.cell? ⟨gb486, 2, none⟩ = some (.string (⟨#[]⟩ : ByteArray)) := (blk_cell BK486.out 2).trans rfl; have hcz16_3 : w14.cell? ⟨gb486, 3, none⟩ = some (.int .i64 0) := (blk_cell BK486.out 3).trans rfl; have hfz16_0 := blk_frozen BK486.out 0; have hfz16_1 := blk_frozen BK486.out 1; have hfz16_2 := blk_frozen BK486.out 2; have hfz16_3 := blk_frozen BK486.out 3) | ((with_reducible refine gate_callee (f := 82) rfl ?_); refine goesL_ (some 27) rfl rfl Try.func82 (by kernel_rfl) rfl #[.slice A0 l0.length c0, .agg #[.string a1_0, .string a1_1, .string a2, .int .i64 0], .func (.func 83) #[] #[]] rfl (by (try simp only [List.map_toArray, List.map_cons, List.map_nil]); first | done | rfl | (simp only [List.length_drop, List.length_take]; rfl)) ?_; (with_reducible refine (pledge_place_api_Pledge.calls k _ _ l0 a1_0 a1_1 a2 0  t487 t488 _ ?side1 ?side2 A11.out).mono ?_); (case side1 => exact Kd.C_below HR0.out (by repeat (first | (with_reducible first | exact HB.out | apply below_alloc | apply pw_below_drewN | apply below_drew1 | refine below_set ?_ GE483.out | refine below_set ?_ GE486.out) | exact HB.out))); (case side2 => exact HC0.out); rintro e w17 ⟨rfl, hb⟩; refine ⟨_, rfl, ?_⟩; have n0_ := Aside0.mk (blk_below (g := gb483) (o := .cells #[.string a1_0, .string a1_1] 67 (0, 0)) (by (with_reducible repeat (first | refine blk_drewN ?_ _ | refine blk_drew ?_ | refine blk_alloc ?_ _)); refine blk_far ?_ NB483_486.out _; (with_reducible repeat (first | refine blk_drewN ?_ _ | refine blk_drew ?_ | refine blk_alloc ?_ _)); refine blk_far ?_ NB483_486.out _; (with_reducible repeat (first | refine blk_drewN ?_ _ | refine blk_drew ?_ | refine blk_alloc ?_ _)); refine blk_far ?_ NB483_486.out _; (with_reducible repeat (first | refine blk_drewN ?_ _ | refine blk_drew ?_ | refine blk_alloc ?_ _)); refine blk_far ?_ NB483_486.out _; (with_reducible repeat (first | refine blk_drewN ?_ _ | refine blk_drew ?_ | refine blk_alloc ?_ _)); exact BK483.out) hb); have n1_ := Aside0.mk (blk_below (g := gb486) (o := .cells #[.string a1_0, .string a1_1, .string a2, .int .i64 0] 85 (0, 0)) (by (with_reducible repeat (first | refine blk_drewN ?_ _ | refine blk_drew ?_ | refine blk_alloc ?_ _)); refine blk_put (cs := #[.string a1_0, .string a1_1, .string a2, .int .i64 0]) ?_ 3 _ rfl; (with_reducible repeat (first | refine blk_drewN ?_ _ | refine blk_drew ?_ | refine blk_alloc ?_ _)); refine blk_put (cs := #[.string a1_0, .string a1_1, .string (⟨#[]⟩ : ByteArray), .int .i64 0]) ?_ 2 _ rfl; (with_reducible repeat (first | refine blk_drewN ?_ _ | refine blk_drew ?_ | refine blk_alloc ?_ _)); refine blk_put (cs := #[.string a1_0, .string (⟨#[]⟩ : ByteArray), .string (⟨#[]⟩ : ByteArray), .int .i64 0]) ?_ 1 _ rfl; (with_reducible repeat (first | refine blk_drewN ?_ _ | refine blk_drew ?_ | refine blk_alloc ?_ _)); refine blk_put (cs := #[.string (⟨#[]⟩ : ByteArray), .string (⟨#[]⟩ : ByteArray), .string (⟨#[]⟩ : ByteArray), .int .i64 0]) ?_ 0 _ rfl; (with_reducible repeat (first | refine blk_drewN ?_ _ | refine blk_drew ?_ | refine blk_alloc ?_ _)); exact BK486.out) hb); have n2_ := Aside0.mk (below_step (by repeat (first | (with_reducible first | exact HB.out | apply below_alloc | apply pw_below_drewN | apply below_drew1 | refine below_set ?_ GE483.out | refine below_set ?_ GE486.out) | exact HB.out)) hb); clear BK483; clear BK486; clear HB; have BK483 := n0_; have BK486 := n1_; have HB := n2_; clear n0_ n1_ n2_; (try clear hb); (try clear hb2); (try clear hk); (try clear hi)))
      (try simp only [Act.put, List.setIfInBounds_toArray, List.set_cons_zero, List.set_cons_succ])
      go_cut [40] (fun v40 wc => ∃ (kq : Nat) (x40_11 : Bool), v40 = .bool x40_11 ∧ Aside0 (pledge_Take.j0 kq l0 a3 t487 x40_11 a1_0 a1_1 a2 0 = some (r1, r2)) ∧ Aside0 (kq ≤ k) ∧ Aside0 (wc.heap[gb483]? = some (.cells #[.string a1_0, .string a1_1] 67 (0, 0))) ∧ Aside0 (wc.heap[gb486]? = some (.cells #[.string a1_0, .string a1_1, .string a2, .int .i64 0] 85 (0, 0))) ∧ Aside0 (Below w.heap.size w wc))
      case first =>
        have H := HC12.out
        clear HC12
        by_cases c18 : t488 = true
        · subst c18
          have H1 : (if 0 ≤ t487 then (if t487 < (l0.length : Int) then (pledge_Take.j0 k l0 a3 t487 (decide (((rd_T85 l0 t487).f2) < a3)) a1_0 a1_1 a2 0) else (none)) else (none)) = some (r1, r2) := by rw [if_pos rfl] at H; exact H
          clear H
          have H := H1
          clear H1
          by_cases c19 : 0 ≤ t487
          · rw [if_pos c19] at H
            have c19b0 : decide (0 ≤ t487) = true := decide_eq_true c19
            clear c19
            by_cases c20 : t487 < (l0.length : Int)
            · rw [if_pos c20] at H
              have c20b0 : decide (t487 < (l0.length : Int)) = true := decide_eq_true c20
              clear c20
              have H' := Aside0.mk H
              clear H
              have p489 : 0 ≤ (t487 : Int) := of_decide_eq_true (by first | (with_reducible assumption) | assumption)
              have q489 : t487 < (l0.length : Int) := of_decide_eq_true (by first | (with_reducible assumption) | assumption)
              obtain ⟨ad489, e489, hx489_0, hx489_1, hx489_2, hx489_3⟩ := at_T85 HR0.out t487 p489 q489
              cases e489
              replace hx489_0 := (HB.out.cell (World.block_lt_of_cell? w _ hx489_0)).trans hx489_0
              replace hx489_1 := (HB.out.cell (World.block_lt_of_cell? w _ hx489_1)).trans hx489_1
              replace hx489_2 := (HB.out.cell (World.block_lt_of_cell? w _ hx489_2)).trans hx489_2
              replace hx489_3 := (HB.out.cell (World.block_lt_of_cell? w _ hx489_3)).trans hx489_3
              replace p489 := eq_true p489
              replace q489 := eq_true q489
              go_wp2
              go_meet
              case rel => exact ⟨_, (decide (((rd_T85 l0 t487).f2) < a3)), (by first | rfl | (simp; done) | (simp [*]; done)), H', ⟨by first | omega | exact Nat.le_refl _⟩, ⟨by (with_reducible repeat (first | refine blk_drewN ?_ _ | refine blk_drew ?_ | refine blk_alloc ?_ _)); exact BK483.out⟩, ⟨by (with_reducible repeat (first | refine blk_drewN ?_ _ | refine blk_drew ?_ | refine blk_alloc ?_ _)); exact BK486.out⟩, ⟨by repeat (first | (with_reducible first | exact HB.out | apply below_alloc | apply pw_below_drewN | apply below_drew1 | refine below_set ?_ GE483.out | refine below_set ?_ GE486.out) | exact HB.out)⟩⟩
            · rw [if_neg c20] at H
              exact absurd H (by simp)
          · rw [if_neg c19] at H
            exact absurd H (by simp)
        · replace c18 := Bool.eq_false_iff.mpr c18
          subst c18
          have H1 : (pledge_Take.j0 k l0 a3 t487 true a1_0 a1_1 a2 0) = some (r1, r2) := by rw [if_neg (show ¬ (false = true) by decide)] at H; exact H
          clear H
          have H := H1
          clear H1
          have H' := Aside0.mk H
          clear H
          go_wp2
          go_meet
          case rel => exact ⟨_, (true), (by first | rfl | (simp; done) | (simp [*]; done)), H', ⟨by first | omega | exact Nat.le_refl _⟩, ⟨by (with_reducible repeat (first | refine blk_drewN ?_ _ | refine blk_drew ?_ | refine blk_alloc ?_ _)); exact BK483.out⟩, ⟨by (with_reducible repeat (first | refine blk_drewN ?_ _ | refine blk_drew ?_ | refine blk_alloc ?_ _)); exact BK486.out⟩, ⟨by repeat (first | (with_reducible first | exact HB.out | apply below_alloc | apply pw_below_drewN | apply below_drew1 | refine below_set ?_ GE483.out | refine below_set ?_ GE486.out) | exact HB.out)⟩⟩
      case rest =>
        clear HC12
        try clear c1
        try clear c2
        try clear p2
        try clear c4
        try clear p4
        try clear q4
        try clear hx4
        try clear c8
        try clear c8b0
        try clear c8b1
        try clear c10
        try clear c15
        try clear c18
        try clear c19
        try clear c19b0
        try clear c20
        try clear c20b0
        try clear hcz13_0
        try clear hcz13_1
        try clear hcz16_0
        try clear hcz16_1
        try clear hcz16_2
        try clear hcz16_3
        try clear hfz13_0
        try clear hfz13_1
        try clear hfz16_0
        try clear hfz16_1
        try clear hfz16_2
        try clear hfz16_3
        try clear hx489_0
        try clear hx489_1
        try clear hx489_2
        try clear hx489_3
        try clear p489
        try clear q489
        obtain ⟨kq, x40_11, rfl, HA, HJ11, BK483, BK486, HB⟩ := hcut
        cases kq with
        | zero => exact absurd HA.out (by simp [pledge_Take.j0])
        | succ kj11 =>
          have H := HA.out
          clear HA
          simp only [pledge_Take.j0] at H
          by_cases c21 : x40_11 = true
          · subst c21
            have H1 : (some (([] : List (S85)), 23)) = some (r1, r2) := by rw [if_pos rfl] at H; exact H
            clear H
            have H := H1
            clear H1
            simp only [Option.some.injEq, Prod.mk.injEq] at H
            obtain ⟨rfl, rfl⟩ := H
            go_wp2
            go_ret2
            exact ⟨_, by first | rfl | (simp [errW_none, errW_some] <;> rfl) | (simp [*, errW_none, errW_some] <;> rfl), by first | exact Kd.R_nil _ _ _ _ _ | exact Kd.N_nil _ _ _ _ _ | exact Kd.V_nil _ _ _ _ _ | exact Kd.Q_nil _ _ _ _ _ | exact Kd.S_nil _ _ _ _ _, by repeat (first | (with_reducible first | exact HB.out | apply below_alloc | apply pw_below_drewN | apply below_drew1 | refine below_set ?_ GE483.out | refine below_set ?_ GE486.out) | exact HB.out)⟩
          · replace c21 := Bool.eq_false_iff.mpr c21
            subst c21
            have H1 : (if 0 ≤ t487 then (if t487 < (l0.length : Int) then (if (wrap64 (((rd_T85 l0 t487).f2) - a3)) = 0 then ((pledge_changed_api_Pledge.f l0 t487 1 ([] : List (S85))).bind fun t491 => (some (t491, 0))) else ((pledge_changed_api_Pledge.f l0 t487 1 (([(⟨(⟨a1_0, a1_1⟩ : S67), a2, wrap64 (((rd_T85 l0 t487).f2) - a3)⟩ : S85)] : List (S85)))).bind fun t497 => (some (t497, 0)))) else (none)) else (none)) = some (r1, r2) := by rw [if_neg (show ¬ (false = true) by decide)] at H; exact H
            clear H
            have H := H1
            clear H1
            by_cases c22 : 0 ≤ t487
            · rw [if_pos c22] at H
              have c22b0 : decide (0 ≤ t487) = true := decide_eq_true c22
              clear c22
              (try simp only [c22b0])
              by_cases c23 : t487 < (l0.length : Int)
              · rw [if_pos c23] at H
                have c23b0 : decide (t487 < (l0.length : Int)) = true := decide_eq_true c23
                clear c23
                have p490 : 0 ≤ (t487 : Int) := of_decide_eq_true (by first | (with_reducible assumption) | assumption)
                have q490 : t487 < (l0.length : Int) := of_decide_eq_true (by first | (with_reducible assumption) | assumption)
                obtain ⟨ad490, e490, hx490_0, hx490_1, hx490_2, hx490_3⟩ := at_T85 HR0.out t487 p490 q490
                cases e490
                replace hx490_0 := (HB.out.cell (World.block_lt_of_cell? w _ hx490_0)).trans hx490_0
                replace hx490_1 := (HB.out.cell (World.block_lt_of_cell? w _ hx490_1)).trans hx490_1
                replace hx490_2 := (HB.out.cell (World.block_lt_of_cell? w _ hx490_2)).trans hx490_2
                replace hx490_3 := (HB.out.cell (World.block_lt_of_cell? w _ hx490_3)).trans hx490_3
                replace p490 := eq_true p490
                replace q490 := eq_true q490
                have hnb24 := NB486_483.out
                have hnc24 := NB483_486.out
                have hcz25_0 : wc.cell? ⟨gb486, 0, none⟩ = some (.string a1_0) := (blk_cell BK486.out 0).trans rfl
                have hcz25_1 : wc.cell? ⟨gb486, 1, none⟩ = some (.string a1_1) := (blk_cell BK486.out 1).trans rfl
                have hcz25_2 : wc.cell? ⟨gb486, 2, none⟩ = some (.string a2) := (blk_cell BK486.out 2).trans rfl
                have hcz25_3 : wc.cell? ⟨gb486, 3, none⟩ = some (.int .i64 0) := (blk_cell BK486.out 3).trans rfl
                have hfz25_0 := blk_frozen BK486.out 0
                have hfz25_1 := blk_frozen BK486.out 1
                have hfz25_2 := blk_frozen BK486.out 2
                have hfz25_3 := blk_frozen BK486.out 3
                go_upto_if 51 with (fail)
                by_cases c26 : (wrap64 (((rd_T85 l0 t487).f2) - a3)) = 0
                · rw [if_pos c26] at H
                  have c26b0 : ((wrap64 (((rd_T85 l0 t487).f2) - a3)) == 0) = true := beq_iff_eq.mpr c26
                  have c26b1 : ((wrap64 (((rd_T85 l0 t487).f2) - a3)) != 0) = false := bne_eq_false_iff_eq.mpr c26
                  clear c26
                  (try simp only [c26b0, c26b1])
                  replace H := Option.bind_eq_some_iff.mp H
                  obtain ⟨t491, A270, H⟩ := H
                  replace H : (some (t491, 0)) = some (r1, r2) := H
                  have A27 := Aside0.mk A270
                  clear A270
                  simp only [Option.some.injEq, Prod.mk.injEq] at H
                  obtain ⟨rfl, rfl⟩ := H
                  go_wp2_with (first | ((with_reducible refine gate_callee (f := 84) rfl ?_); refine goesL_ (some 54) rfl rfl Try.func84 (by kernel_rfl) rfl #[.slice (some ad490) l0.length c0, .int .i64 t487, .int .i64 1, .slice none 0 0] rfl (by (try simp only [List.map_toArray, List.map_cons, List.map_nil]); first | done | rfl | (simp only [List.length_drop, List.length_take]; rfl)) ?_; (refine (pledge_changed_api_Pledge.calls _ _ l0 t487 1 _ _ ([] : List (S85)) t491 _ ?side1 ?side2 ?side3 ?side4 A27.out).mono ?_); (case side1 => exact Kd.C_below HR0.out (by repeat (first | (with_reducible first | exact HB.out | apply below_alloc | apply pw_below_drewN | apply below_drew1 | refine below_set ?_ GE483.out | refine below_set ?_ GE486.out) | exact HB.out))); (case side2 => exact HC0.out); (case side3 => exact Kd.C_nil _ _); (case side4 => exact Nat.le_refl _); rintro e w28 ⟨v492, rfl, ho0, hb⟩; refine ⟨_, rfl, ?_⟩; have n0_ := Aside0.mk (Kd.R_lower (Kd.R_newB ho0 (g := gb486) (o := .cells #[.string a1_0, .string a1_1, .string a2, .int .i64 (wrap64 (((rd_T85 l0 t487).f2) - a3))] 85 (0, 0)) (by (with_reducible repeat (first | refine blk_drewN ?_ _ | refine blk_drew ?_ | refine blk_alloc ?_ _)); refine blk_put (cs := #[.string a1_0, .string a1_1, .string a2, .int .i64 0]) ?_ 3 _ rfl; (with_reducible repeat (first | refine blk_drewN ?_ _ | refine blk_drew ?_ | refine blk_alloc ?_ _)); exact BK486.out)) (below_size (by repeat (first | (with_reducible first | exact HB.out | apply below_alloc | apply pw_below_drewN | apply below_drew1 | refine below_set ?_ GE483.out | refine below_set ?_ GE486.out) | exact HB.out)))); have n1_ := Aside0.mk (blk_below (g := gb483) (o := .cells #[.string a1_0, .string a1_1] 67 (0, 0)) (by (with_reducible repeat (first | refine blk_drewN ?_ _ | refine blk_drew ?_ | refine blk_alloc ?_ _)); refine blk_far ?_ NB483_486.out _; (with_reducible repeat (first | refine blk_drewN ?_ _ | refine blk_drew ?_ | refine blk_alloc ?_ _)); exact BK483.out) hb); have n2_ := Aside0.mk (blk_below (g := gb486) (o := .cells #[.string a1_0, .string a1_1, .string a2, .int .i64 (wrap64 (((rd_T85 l0 t487).f2) - a3))] 85 (0, 0)) (by (with_reducible repeat (first | refine blk_drewN ?_ _ | refine blk_drew ?_ | refine blk_alloc ?_ _)); refine blk_put (cs := #[.string a1_0, .string a1_1, .string a2, .int .i64 0]) ?_ 3 _ rfl; (with_reducible repeat (first | refine blk_drewN ?_ _ | refine blk_drew ?_ | refine blk_alloc ?_ _)); exact BK486.out) hb); have n3_ := Aside0.mk (below_step (by repeat (first | (with_reducible first | exact HB.out | apply below_alloc | apply pw_below_drewN | apply below_drew1 | refine below_set ?_ GE483.out | refine below_set ?_ GE486.out) | exact HB.out)) hb); clear BK483; clear BK486; clear HB; have HO493 := n0_; have BK483 := n1_; have BK486 := n2_; have HB := n3_; clear n0_ n1_ n2_ n3_; (try clear hb); (try clear hb2); (try clear hk); (try clear hi); (try clear ho0)))
                  go_ret2
                  exact ⟨_, by first | rfl | (simp [errW_none, errW_some] <;> rfl) | (simp [*, errW_none, errW_some] <;> rfl), by (with_reducible repeat (first | apply Kd.R_alloc | apply Kd.R_drewN | apply Kd.R_drew)); exact Kd.R_mono HO493.out (fun _ hk => trivial), by repeat (first | (with_reducible first | exact HB.out | apply below_alloc | apply pw_below_drewN | apply below_drew1 | refine below_set ?_ GE483.out | refine below_set ?_ GE486.out) | exact HB.out)⟩
                · rw [if_neg c26] at H
                  have c26b0 : ((wrap64 (((rd_T85 l0 t487).f2) - a3)) == 0) = false := beq_eq_false_iff_ne.mpr c26
                  have c26b1 : ((wrap64 (((rd_T85 l0 t487).f2) - a3)) != 0) = true := bne_iff_ne.mpr c26
                  (try simp only [c26b0, c26b1])
                  obtain ⟨y494, hy494⟩ : ∃ y_ : List (S85), y_ = (([(⟨(⟨a1_0, a1_1⟩ : S67), a2, wrap64 (((rd_T85 l0 t487).f2) - a3)⟩ : S85)] : List (S85))) := ⟨_, rfl⟩
                  replace H : ((pledge_changed_api_Pledge.f l0 t487 1 y494).bind fun t497 => (some (t497, 0))) = some (r1, r2) := by first | (rw [hy494]; with_reducible exact H) | (have H2_ := (Option.bind_some _ _).symm.trans H; rw [hy494]; with_reducible exact H2_) | (have H2_ := (Option.bind_some _ _).symm.trans H; with_reducible exact H2_) | with_reducible exact H | (rw [hy494]; exact H) | exact H
                  have Ny494 := Aside0.mk hy494
                  clear hy494
                  replace H := Option.bind_eq_some_iff.mp H
                  obtain ⟨t497, A290, H⟩ := H
                  replace H : (some (t497, 0)) = some (r1, r2) := H
                  have A29 := Aside0.mk A290
                  clear A290
                  simp only [Option.some.injEq, Prod.mk.injEq] at H
                  obtain ⟨rfl, rfl⟩ := H
                  have hnb30 := NB486_483.out
                  have hnc30 := NB483_486.out
                  have hcz31_0 : wc.cell? ⟨gb486, 0, none⟩ = some (.string a1_0) := (blk_cell BK486.out 0).trans rfl
                  have hcz31_1 : wc.cell? ⟨gb486, 1, none⟩ = some (.string a1_1) := (blk_cell BK486.out 1).trans rfl
                  have hcz31_2 : wc.cell? ⟨gb486, 2, none⟩ = some (.string a2) := (blk_cell BK486.out 2).trans rfl
                  have hcz31_3 : wc.cell? ⟨gb486, 3, none⟩ = some (.int .i64 0) := (blk_cell BK486.out 3).trans rfl
                  have hfz31_0 := blk_frozen BK486.out 0
                  have hfz31_1 := blk_frozen BK486.out 1
                  have hfz31_2 := blk_frozen BK486.out 2
                  have hfz31_3 := blk_frozen BK486.out 3
                  go_wp2_with (first | ((with_reducible refine gate_dst (N := 58) rfl ?_); refine Kd.R_lit k85 _ 85 ?hg (N := 58) ?hd (xs := ([(⟨(⟨a1_0, a1_1⟩ : S67), a2, wrap64 (((rd_T85 l0 t487).f2) - a3)⟩ : S85)] : List (S85))) (inner := [.string a1_0, .string a1_1, .string a2, .int .i64 (wrap64 (((rd_T85 l0 t487).f2) - a3))]) (ok := fun _ => True) (okp := fun _ => True) ?hr ?hp (fun _ hk => hk) trivial (Below.refl _ _) (Nat.le_refl _) (by simp) ?_; (case hd => rfl); (case hg => rfl); (case hr => first | (go_simp; done) | (go_simp; rfl)); (case hp => exact (Reps.c4 (show Kd.M k85 _ _ _ (⟨(⟨a1_0, a1_1⟩ : S67), a2, wrap64 (((rd_T85 l0 t487).f2) - a3)⟩ : S85) [.string a1_0, .string a1_1, .string a2, .int .i64 (wrap64 (((rd_T85 l0 t487).f2) - a3))] from (k85_mkM _ _ _ (⟨(⟨a1_0, a1_1⟩ : S67), a2, wrap64 (((rd_T85 l0 t487).f2) - a3)⟩ : S85) )) (Reps.none _ _))); intro v495 w32 ho33 hb hg_ hnew_; clear hg_ hnew_; (first | rw [← Ny494.out] at ho33 | (simp only [Int.reduceToNat] at ho33; rw [← Ny494.out] at ho33)); have n0_ := Aside0.mk (Kd.R_lower (Kd.R_newB ho33 (g := gb486) (o := .cells #[.string a1_0, .string a1_1, .string a2, .int .i64 (wrap64 (((rd_T85 l0 t487).f2) - a3))] 85 (0, 0)) (by (with_reducible repeat (first | refine blk_drewN ?_ _ | refine blk_drew ?_ | refine blk_alloc ?_ _)); refine blk_put (cs := #[.string a1_0, .string a1_1, .string a2, .int .i64 0]) ?_ 3 _ rfl; (with_reducible repeat (first | refine blk_drewN ?_ _ | refine blk_drew ?_ | refine blk_alloc ?_ _)); exact BK486.out)) (below_size (by repeat (first | (with_reducible first | exact HB.out | apply below_alloc | apply pw_below_drewN | apply below_drew1 | refine below_set ?_ GE483.out | refine below_set ?_ GE486.out) | exact HB.out)))); have n1_ := Aside0.mk (blk_below (g := gb483) (o := .cells #[.string a1_0, .string a1_1] 67 (0, 0)) (by (with_reducible repeat (first | refine blk_drewN ?_ _ | refine blk_drew ?_ | refine blk_alloc ?_ _)); refine blk_far ?_ NB483_486.out _; (with_reducible repeat (first | refine blk_drewN ?_ _ | refine blk_drew ?_ | refine blk_alloc ?_ _)); exact BK483.out) hb); have n2_ := Aside0.mk (blk_below (g := gb486) (o := .cells #[.string a1_0, .string a1_1, .string a2, .int .i64 (wrap64 (((rd_T85 l0 t487).f2) - a3))] 85 (0, 0)) (by (with_reducible repeat (first | refine blk_drewN ?_ _ | refine blk_drew ?_ | refine blk_alloc ?_ _)); refine blk_put (cs := #[.string a1_0, .string a1_1, .string a2, .int .i64 0]) ?_ 3 _ rfl; (with_reducible repeat (first | refine blk_drewN ?_ _ | refine blk_drew ?_ | refine blk_alloc ?_ _)); exact BK486.out) hb); have n3_ := Aside0.mk (below_step (by repeat (first | (with_reducible first | exact HB.out | apply below_alloc | apply pw_below_drewN | apply below_drew1 | refine below_set ?_ GE483.out | refine below_set ?_ GE486.out) | exact HB.out)) hb); clear BK483; clear BK486; clear HB; have HO496 := n0_; have BK483 := n1_; have BK486 := n2_; have HB := n3_; clear n0_ n1_ n2_ n3_; clear hb ho33; obtain ⟨Ao34, co34, eo34⟩ := Kd.R_slice HO496.out; subst eo34) | ((with_reducible refine gate_callee (f := 84) rfl ?_); refine goesL_ (some 59) rfl rfl Try.func84 (by kernel_rfl) rfl #[.slice (some ad490) l0.length c0, .int .i64 t487, .int .i64 1, .slice Ao34 y494.length co34] rfl (by (try simp only [List.map_toArray, List.map_cons, List.map_nil]); first | done | rfl | (simp only [List.length_drop, List.length_take]; rfl)) ?_; (with_reducible refine (pledge_changed_api_Pledge.calls _ _ l0 t487 1 _ _ y494 t497 _ ?side1 ?side2 ?side3 ?side4 A29.out).mono ?_); (case side1 => repeat (first | exact (Kd.C_below HR0.out HB.out) | (with_reducible refine Kd.C_alloc ?_ _) | (with_reducible refine Kd.C_drewN ?_ _) | (with_reducible refine Kd.C_drew ?_))); (case side2 => exact HC0.out); (case side3 => repeat (first | exact (Kd.R_reads' HO496.out).2.2 | (with_reducible refine Kd.C_alloc ?_ _) | (with_reducible refine Kd.C_drewN ?_ _) | (with_reducible refine Kd.C_drew ?_))); (case side4 => exact (Kd.R_reads' HO496.out).2.1); rintro e w35 ⟨v498, rfl, ho0, hb⟩; refine ⟨_, rfl, ?_⟩; have n0_ := Aside0.mk (Kd.R_elder' (by (with_reducible repeat (first | apply Kd.R_alloc | apply Kd.R_drewN | apply Kd.R_drew)); exact HO496.out) (Kd.R_base ho0) hb); have n1_ := Aside0.mk (Kd.R_lower (Kd.R_newB (Kd.R_new' ho0 (Kd.R_lt (by (with_reducible repeat (first | apply Kd.R_alloc | apply Kd.R_drewN | apply Kd.R_drew)); exact HO496.out))) (g := gb486) (o := .cells #[.string a1_0, .string a1_1, .string a2, .int .i64 (wrap64 (((rd_T85 l0 t487).f2) - a3))] 85 (0, 0)) (by (with_reducible repeat (first | refine blk_drewN ?_ _ | refine blk_drew ?_ | refine blk_alloc ?_ _)); exact BK486.out)) (below_size (by repeat (first | (with_reducible first | exact HB.out | apply below_alloc | apply pw_below_drewN | apply below_drew1 | refine below_set ?_ GE483.out | refine below_set ?_ GE486.out) | exact HB.out)))); have n2_ := Aside0.mk (blk_below (g := gb483) (o := .cells #[.string a1_0, .string a1_1] 67 (0, 0)) (by (with_reducible repeat (first | refine blk_drewN ?_ _ | refine blk_drew ?_ | refine blk_alloc ?_ _)); exact BK483.out) hb); have n3_ := Aside0.mk (blk_below (g := gb486) (o := .cells #[.string a1_0, .string a1_1, .string a2, .int .i64 (wrap64 (((rd_T85 l0 t487).f2) - a3))] 85 (0, 0)) (by (with_reducible repeat (first | refine blk_drewN ?_ _ | refine blk_drew ?_ | refine blk_alloc ?_ _)); exact BK486.out) hb); have n4_ := Aside0.mk (below_step (by repeat (first | (with_reducible first | exact HB.out | apply below_alloc | apply pw_below_drewN | apply below_drew1 | refine below_set ?_ GE483.out | refine below_set ?_ GE486.out) | exact HB.out)) hb); clear HO496; clear BK483; clear BK486; clear HB; have HO496 := n0_; have HO499 := n1_; have BK483 := n2_; have BK486 := n3_; have HB := n4_; clear n0_ n1_ n2_ n3_ n4_; (try clear hb); (try clear hb2); (try clear hk); (try clear hi); (try clear ho0)))
                  go_ret2
                  exact ⟨_, by first | rfl | (simp [errW_none, errW_some] <;> rfl) | (simp [*, errW_none, errW_some] <;> rfl), by (with_reducible repeat (first | apply Kd.R_alloc | apply Kd.R_drewN | apply Kd.R_drew)); exact Kd.R_mono HO499.out (fun _ hk => trivial), by repeat (first | (with_reducible first | exact HB.out | apply below_alloc | apply pw_below_drewN | apply below_drew1 | refine below_set ?_ GE483.out | refine below_set ?_ GE486.out) | exact HB.out)⟩
              · rw [if_neg c23] at H
                exact absurd H (by simp)
            · rw [if_neg c22] at H
              exact absurd H (by simp)
    · replace c10 := Bool.eq_false_iff.mpr c10
      subst c10
      have H1 : (some (([] : List (S85)), 18)) = some (r1, r2) := by rw [if_neg (show ¬ (false = true) by decide)] at H; exact H
      clear H
      have H := H1
      clear H1
      simp only [Option.some.injEq, Prod.mk.injEq] at H
      obtain ⟨rfl, rfl⟩ := H
      go_wp2
      go_ret2
      exact ⟨_, by first | rfl | (simp [errW_none, errW_some] <;> rfl) | (simp [*, errW_none, errW_some] <;> rfl), by first | exact Kd.R_nil _ _ _ _ _ | exact Kd.N_nil _ _ _ _ _ | exact Kd.V_nil _ _ _ _ _ | exact Kd.Q_nil _ _ _ _ _ | exact Kd.S_nil _ _ _ _ _, by repeat (first | (with_reducible first | exact HB.out | apply below_alloc | apply pw_below_drewN | apply below_drew1 | refine below_set ?_ GE483.out) | exact HB.out)⟩
  · rw [if_neg c8] at H
    have c8b0 : (t484 == 0) = false := beq_eq_false_iff_ne.mpr c8
    have c8b1 : (t484 != 0) = true := bne_iff_ne.mpr c8
    (try simp only [c8b0, c8b1])
    simp only [Option.some.injEq, Prod.mk.injEq] at H
    obtain ⟨rfl, rfl⟩ := H
    go_wp2
    go_ret2
    exact ⟨_, by first | rfl | (simp [errW_none, errW_some] <;> rfl) | (simp [*, errW_none, errW_some] <;> rfl), by first | exact Kd.R_nil _ _ _ _ _ | exact Kd.N_nil _ _ _ _ _ | exact Kd.V_nil _ _ _ _ _ | exact Kd.Q_nil _ _ _ _ _ | exact Kd.S_nil _ _ _ _ _, by repeat (first | (with_reducible first | exact HB.out | apply below_alloc | apply pw_below_drewN | apply below_drew1 | refine below_set ?_ GE483.out) | exact HB.out)⟩
def asset_named_api_Asset.l0 : Nat → ByteArray → List (S23) → Int → Int → Option (ByteArray × Int × Int × Int × Int × Int × Bool)
  | 0, _, _, _, _ => none
  | k + 1, x1, x11, x12, x13 => if x13 < x12 then (if 0 ≤ x13 then (if x13 < (x11.length : Int) then ((asset_Find_1.f ((rd_T23 x11 x13).f0) ((rd_T23 x11 x13).f1) ((rd_T23 x11 x13).f2) ((rd_T23 x11 x13).f3) ((rd_T23 x11 x13).f4) ((rd_T23 x11 x13).f5)).bind fun t261 => (if t261.toList = x1.toList then (some ((rd_T23 x11 x13).f0, (rd_T23 x11 x13).f1, (rd_T23 x11 x13).f2, (rd_T23 x11 x13).f3, (rd_T23 x11 x13).f4, (rd_T23 x11 x13).f5, true)) else (asset_named_api_Asset.l0 k x1 x11 x12 (wrap64 (x13 + 1))))) else (none)) else (none)) else (some ((⟨#[]⟩ : ByteArray), 0, 0, 0, 0, 0, false))
def asset_named_api_Asset.f (k : Nat) (l0 : List (S23)) (a1 : ByteArray)  : Option (ByteArray × Int × Int × Int × Int × Int × Bool) := asset_named_api_Asset.l0 k a1 l0 (l0.length : Int) 0
theorem asset_named_api_Asset.mono_l : ∀ k, (∀ y0 y1 y2 y3, LeO (asset_named_api_Asset.l0 k y0 y1 y2 y3) (asset_named_api_Asset.l0 (k + 1) y0 y1 y2 y3))
  | 0 => fun _ _ _ _ r h => by simp [asset_named_api_Asset.l0] at h
  | k + 1 => by
    have ih0 := asset_named_api_Asset.mono_l k
    · intro y0 y1 y2 y3
      unfold asset_named_api_Asset.l0
      repeat' first
      | (with_reducible exact ih0 _ _ _ _)
      | (with_reducible exact LeO.refl _)
      | (with_reducible exact LeO.none _)
      | (with_reducible refine LeO.ite ?_ ?_)
      | (with_reducible refine LeO.bind ?_ (fun _ => ?_))
      | exact ih0 _ _ _ _
      | exact LeO.none _
      | refine LeO.ite ?_ ?_
      | refine LeO.bind ?_ (fun _ => ?_)
theorem asset_named_api_Asset.mono : ∀ a0 a1 k, LeO (asset_named_api_Asset.f k a0 a1) (asset_named_api_Asset.f (k + 1) a0 a1) := by
  intro a0 a1 k
  have ih0 := asset_named_api_Asset.mono_l k
  unfold asset_named_api_Asset.f
  repeat' first
      | (with_reducible exact ih0 _ _ _ _)
      | (with_reducible exact LeO.refl _)
      | (with_reducible exact LeO.none _)
      | (with_reducible refine LeO.ite ?_ ?_)
      | (with_reducible refine LeO.bind ?_ (fun _ => ?_))
      | exact ih0 _ _ _ _
      | exact LeO.none _
      | refine LeO.ite ?_ ?_
      | refine LeO.bind ?_ (fun _ => ?_)
set_option maxHeartbeats 8000000 in
set_option maxRecDepth 100000 in
theorem asset_named_api_Asset.calls (k : Nat) (A0 : Option Addr) (c0 : Nat) (l0 : List (S23)) (a1 : ByteArray)  (r1 : ByteArray) (r2 : Int) (r3 : Int) (r4 : Int) (r5 : Int) (r6 : Int) (r7 : Bool) (w : World) (hr0 : Kd.C k23 w A0 l0.length l0) (hc0 : l0.length ≤ c0) (h : asset_named_api_Asset.f k l0 a1 = some (r1, r2, r3, r4, r5, r6, r7)) :
    Calls Try.prog 62 #[.slice A0 l0.length c0, .string a1, .func (.func 63) #[] #[]] w fun e w' => e = .returned (.tuple #[.agg #[.string r1, .int .i64 r2, .int .i64 r3, .int .i64 r4, .int .i64 r5, .int .i64 r6], .bool r7]) ∧ Below w.heap.size w w' := by
  have hu23 := Try.underlying23
  have HR0 := Aside0.mk hr0
  have HC0 := Aside0.mk hc0
  clear hr0 hc0
  have HB := Aside0.mk (Below.refl w.heap.size w)
  have H : (asset_named_api_Asset.l0 k a1 l0 (l0.length : Int) 0) = some (r1, r2, r3, r4, r5, r6, r7) := h
  clear h
  have H' := Aside0.mk H
  clear H
  go_enter Try.func62, Try.ntmps62
  go_wp2_with (first | ((with_reducible refine gate_dst (N := 6) rfl ?_); refine box_event ?hg (N := 6) ?hd (cs := #[.string (⟨#[]⟩ : ByteArray), .int .i64 0, .int .i64 0, .int .i64 0, .int .i64 0, .int .i64 0]) (t := 23) ?hr ?_; (case hd => rfl); (case hg => rfl); (case hr => first | (go_simp; done) | (go_simp; rfl)); intro gb258 hg w4 hbox hb; have n0_ := Aside0.mk (below_step (by repeat (first | (with_reducible first | exact HB.out | apply below_alloc | apply pw_below_drewN | apply below_drew1) | exact HB.out)) hb); have n1_ := Aside0.mk (hbox); have n2_ := Aside0.mk ((by rw [hg]; exact (below_size (by repeat (first | (with_reducible first | exact HB.out | apply below_alloc | apply pw_below_drewN | apply below_drew1) | exact HB.out))) : w.heap.size ≤ gb258)); have n3_ := Aside0.mk ((by rw [hg]; exact (below_size (by repeat (first | (with_reducible first | exact HB.out | apply below_alloc | apply pw_below_drewN | apply below_drew1) | exact HB.out))) : w.heap.size ≤ gb258)); clear HB; have HB := n0_; have BK258 := n1_; have GW258 := n2_; have GE258 := n3_; clear n0_ n1_ n2_ n3_; clear hb hbox hg))
  go_loopg [13] k (fun kq v13 w' => ∃ (x13_1 : Int) (x259000_1 : ByteArray) (x259001_1 : Int) (x259002_1 : Int) (x259003_1 : Int) (x259004_1 : Int) (x259005_1 : Int), v13 = .int .i64 x13_1 ∧ Aside0 (asset_named_api_Asset.l0 kq a1 l0 (l0.length : Int) x13_1 = some (r1, r2, r3, r4, r5, r6, r7)) ∧ Aside0 (kq ≤ k) ∧ Aside0 (w'.heap[gb258]? = some (.cells #[.string x259000_1, .int .i64 x259001_1, .int .i64 x259002_1, .int .i64 x259003_1, .int .i64 x259004_1, .int .i64 x259005_1] 23 (0, 0))) ∧ Aside0 (Below w.heap.size w w'))
  case atStart => exact ⟨(0), ((⟨#[]⟩ : ByteArray)), (0), (0), (0), (0), (0), (by first | rfl | (simp; done) | (simp [*]; done)), H', ⟨Nat.le_refl _⟩, ⟨by (with_reducible repeat (first | refine blk_drewN ?_ _ | refine blk_drew ?_ | refine blk_alloc ?_ _)); exact BK258.out⟩, ⟨by repeat (first | (with_reducible first | exact HB.out | apply below_alloc | apply pw_below_drewN | apply below_drew1 | refine below_set ?_ GE258.out) | exact HB.out)⟩⟩
  case round =>
    clear H'
    try clear p2
    obtain ⟨x13_1, x259000_1, x259001_1, x259002_1, x259003_1, x259004_1, x259005_1, rfl, HA, HK1, BK258, HB⟩ := hrel
    cases gk with
    | zero => exact absurd HA.out (by simp [asset_named_api_Asset.l0])
    | succ k1 =>
      have H := HA.out
      clear HA
      simp only [asset_named_api_Asset.l0] at H
      by_cases c5 : x13_1 < (l0.length : Int)
      · rw [if_pos c5] at H
        have c5b0 : decide (x13_1 < (l0.length : Int)) = true := decide_eq_true c5
        clear c5
        (try simp only [c5b0])
        by_cases c6 : 0 ≤ x13_1
        · rw [if_pos c6] at H
          have c6b0 : decide (0 ≤ x13_1) = true := decide_eq_true c6
          clear c6
          by_cases c7 : x13_1 < (l0.length : Int)
          · rw [if_pos c7] at H
            have c7b0 : decide (x13_1 < (l0.length : Int)) = true := decide_eq_true c7
            clear c7
            replace H := Option.bind_eq_some_iff.mp H
            obtain ⟨t261, A80, H⟩ := H
            replace H : (if t261.toList = a1.toList then (some ((rd_T23 l0 x13_1).f0, (rd_T23 l0 x13_1).f1, (rd_T23 l0 x13_1).f2, (rd_T23 l0 x13_1).f3, (rd_T23 l0 x13_1).f4, (rd_T23 l0 x13_1).f5, true)) else (asset_named_api_Asset.l0 k1 a1 l0 (l0.length : Int) (wrap64 (x13_1 + 1)))) = some (r1, r2, r3, r4, r5, r6, r7) := H
            have A8 := Aside0.mk A80
            clear A80
            have p259 : 0 ≤ (x13_1 : Int) := of_decide_eq_true (by first | (with_reducible assumption) | assumption)
            have q259 : x13_1 < (l0.length : Int) := of_decide_eq_true (by first | (with_reducible assumption) | assumption)
            obtain ⟨ad259, e259, hx259_0, hx259_1, hx259_2, hx259_3, hx259_4, hx259_5⟩ := at_T23 HR0.out x13_1 p259 q259
            cases e259
            replace hx259_0 := (HB.out.cell (World.block_lt_of_cell? w _ hx259_0)).trans hx259_0
            replace hx259_1 := (HB.out.cell (World.block_lt_of_cell? w _ hx259_1)).trans hx259_1
            replace hx259_2 := (HB.out.cell (World.block_lt_of_cell? w _ hx259_2)).trans hx259_2
            replace hx259_3 := (HB.out.cell (World.block_lt_of_cell? w _ hx259_3)).trans hx259_3
            replace hx259_4 := (HB.out.cell (World.block_lt_of_cell? w _ hx259_4)).trans hx259_4
            replace hx259_5 := (HB.out.cell (World.block_lt_of_cell? w _ hx259_5)).trans hx259_5
            replace p259 := eq_true p259
            replace q259 := eq_true q259
            go_upto_if 21 with (first | ((with_reducible refine gate_dst (N := 9) rfl ?_); refine box_event ?hg (N := 9) ?hd (cs := #[.string (⟨#[]⟩ : ByteArray), .int .i64 0, .int .i64 0, .int .i64 0, .int .i64 0, .int .i64 0]) (t := 23) ?hr ?_; (case hd => rfl); (case hg => rfl); (case hr => first | (go_simp; done) | (go_simp; rfl)); intro gb260 hg w9 hbox hb; have n0_ := Aside0.mk (blk_below (g := gb258) (o := .cells #[.string x259000_1, .int .i64 x259001_1, .int .i64 x259002_1, .int .i64 x259003_1, .int .i64 x259004_1, .int .i64 x259005_1] 23 (0, 0)) (by (with_reducible repeat (first | refine blk_drewN ?_ _ | refine blk_drew ?_ | refine blk_alloc ?_ _)); exact BK258.out) hb); have n1_ := Aside0.mk (below_step (by repeat (first | (with_reducible first | exact HB.out | apply below_alloc | apply pw_below_drewN | apply below_drew1 | refine below_set ?_ GE258.out) | exact HB.out)) hb); have n2_ := Aside0.mk (hbox); have n3_ := Aside0.mk ((by rw [hg]; exact (below_size (by repeat (first | (with_reducible first | exact HB.out | apply below_alloc | apply pw_below_drewN | apply below_drew1 | refine below_set ?_ GE258.out) | exact HB.out))) : w.heap.size ≤ gb260)); have n4_ := Aside0.mk ((by rw [hg]; exact (below_size (by repeat (first | (with_reducible first | exact HB.out | apply below_alloc | apply pw_below_drewN | apply below_drew1 | refine below_set ?_ GE258.out) | exact HB.out))) : w.heap.size ≤ gb260)); have n5_ := Aside0.mk ((by rw [hg]; exact Nat.ne_of_lt (blk_lt (g := gb258) (o := .cells #[.string x259000_1, .int .i64 x259001_1, .int .i64 x259002_1, .int .i64 x259003_1, .int .i64 x259004_1, .int .i64 x259005_1] 23 (0, 0)) (by (with_reducible repeat (first | refine blk_drewN ?_ _ | refine blk_drew ?_ | refine blk_alloc ?_ _)); exact BK258.out)) : gb258 ≠ gb260)); have n6_ := Aside0.mk ((by rw [hg]; exact Nat.ne_of_gt (blk_lt (g := gb258) (o := .cells #[.string x259000_1, .int .i64 x259001_1, .int .i64 x259002_1, .int .i64 x259003_1, .int .i64 x259004_1, .int .i64 x259005_1] 23 (0, 0)) (by (with_reducible repeat (first | refine blk_drewN ?_ _ | refine blk_drew ?_ | refine blk_alloc ?_ _)); exact BK258.out)) : gb260 ≠ gb258)); clear BK258; clear HB; have BK258 := n0_; have HB := n1_; have BK260 := n2_; have GW260 := n3_; have GE260 := n4_; have NB258_260 := n5_; have NB260_258 := n6_; clear n0_ n1_ n2_ n3_ n4_ n5_ n6_; clear hb hbox hg; have hnb10 := NB260_258.out; have hnc10 := NB258_260.out; have hcz11_0 : w9.cell? ⟨gb260, 0, none⟩ = some (.string (⟨#[]⟩ : ByteArray)) := (blk_cell BK260.out 0).trans rfl; have hcz11_1 : w9.cell? ⟨gb260, 1, none⟩ = some (.int .i64 0) := (blk_cell BK260.out 1).trans rfl; have hcz11_2 : w9.cell? ⟨gb260, 2, none⟩ = some (.int .i64 0) := (blk_cell BK260.out 2).trans rfl; have hcz11_3 : w9.cell? ⟨gb260, 3, none⟩ = some (.int .i64 0) := (blk_cell BK260.out 3).trans rfl; have hcz11_4 : w9.cell? ⟨gb260, 4, none⟩ = some (.int .i64 0) := (blk_cell BK260.out 4).trans rfl; have hcz11_5 : w9.cell? ⟨gb260, 5, none⟩ = some (.int .i64 0) := (blk_cell BK260.out 5).trans rfl; have hfz11_0 := blk_frozen BK260.out 0; have hfz11_1 := blk_frozen BK260.out 1; have hfz11_2 := blk_frozen BK260.out 2; have hfz11_3 := blk_frozen BK260.out 3; have hfz11_4 := blk_frozen BK260.out 4; have hfz11_5 := blk_frozen BK260.out 5) | (go_at_call 63; (with_reducible refine (asset_Find_1.calls ((rd_T23 l0 x13_1).f0) ((rd_T23 l0 x13_1).f1) ((rd_T23 l0 x13_1).f2) ((rd_T23 l0 x13_1).f3) ((rd_T23 l0 x13_1).f4) ((rd_T23 l0 x13_1).f5) t261 _ A8.out).mono ?_); rintro e w12 ⟨rfl, hb⟩; have n0_ := Aside0.mk (blk_below (g := gb258) (o := .cells #[.string x259000_1, .int .i64 x259001_1, .int .i64 x259002_1, .int .i64 x259003_1, .int .i64 x259004_1, .int .i64 x259005_1] 23 (0, 0)) (by (with_reducible repeat (first | refine blk_drewN ?_ _ | refine blk_drew ?_ | refine blk_alloc ?_ _)); refine blk_far ?_ NB258_260.out _; (with_reducible repeat (first | refine blk_drewN ?_ _ | refine blk_drew ?_ | refine blk_alloc ?_ _)); refine blk_far ?_ NB258_260.out _; (with_reducible repeat (first | refine blk_drewN ?_ _ | refine blk_drew ?_ | refine blk_alloc ?_ _)); refine blk_far ?_ NB258_260.out _; (with_reducible repeat (first | refine blk_drewN ?_ _ | refine blk_drew ?_ | refine blk_alloc ?_ _)); refine blk_far ?_ NB258_260.out _; (with_reducible repeat (first | refine blk_drewN ?_ _ | refine blk_drew ?_ | refine blk_alloc ?_ _)); refine blk_far ?_ NB258_260.out _; (with_reducible repeat (first | refine blk_drewN ?_ _ | refine blk_drew ?_ | refine blk_alloc ?_ _)); refine blk_far ?_ NB258_260.out _; (with_reducible repeat (first | refine blk_drewN ?_ _ | refine blk_drew ?_ | refine blk_alloc ?_ _)); exact BK258.out) hb); have n1_ := Aside0.mk (blk_below (g := gb260) (o := .cells #[.string ((rd_T23 l0 x13_1).f0), .int .i64 ((rd_T23 l0 x13_1).f1), .int .i64 ((rd_T23 l0 x13_1).f2), .int .i64 ((rd_T23 l0 x13_1).f3), .int .i64 ((rd_T23 l0 x13_1).f4), .int .i64 ((rd_T23 l0 x13_1).f5)] 23 (0, 0)) (by (with_reducible repeat (first | refine blk_drewN ?_ _ | refine blk_drew ?_ | refine blk_alloc ?_ _)); refine blk_put (cs := #[.string ((rd_T23 l0 x13_1).f0), .int .i64 ((rd_T23 l0 x13_1).f1), .int .i64 ((rd_T23 l0 x13_1).f2), .int .i64 ((rd_T23 l0 x13_1).f3), .int .i64 ((rd_T23 l0 x13_1).f4), .int .i64 0]) ?_ 5 _ rfl; (with_reducible repeat (first | refine blk_drewN ?_ _ | refine blk_drew ?_ | refine blk_alloc ?_ _)); refine blk_put (cs := #[.string ((rd_T23 l0 x13_1).f0), .int .i64 ((rd_T23 l0 x13_1).f1), .int .i64 ((rd_T23 l0 x13_1).f2), .int .i64 ((rd_T23 l0 x13_1).f3), .int .i64 0, .int .i64 0]) ?_ 4 _ rfl; (with_reducible repeat (first | refine blk_drewN ?_ _ | refine blk_drew ?_ | refine blk_alloc ?_ _)); refine blk_put (cs := #[.string ((rd_T23 l0 x13_1).f0), .int .i64 ((rd_T23 l0 x13_1).f1), .int .i64 ((rd_T23 l0 x13_1).f2), .int .i64 0, .int .i64 0, .int .i64 0]) ?_ 3 _ rfl; (with_reducible repeat (first | refine blk_drewN ?_ _ | refine blk_drew ?_ | refine blk_alloc ?_ _)); refine blk_put (cs := #[.string ((rd_T23 l0 x13_1).f0), .int .i64 ((rd_T23 l0 x13_1).f1), .int .i64 0, .int .i64 0, .int .i64 0, .int .i64 0]) ?_ 2 _ rfl; (with_reducible repeat (first | refine blk_drewN ?_ _ | refine blk_drew ?_ | refine blk_alloc ?_ _)); refine blk_put (cs := #[.string ((rd_T23 l0 x13_1).f0), .int .i64 0, .int .i64 0, .int .i64 0, .int .i64 0, .int .i64 0]) ?_ 1 _ rfl; (with_reducible repeat (first | refine blk_drewN ?_ _ | refine blk_drew ?_ | refine blk_alloc ?_ _)); refine blk_put (cs := #[.string (⟨#[]⟩ : ByteArray), .int .i64 0, .int .i64 0, .int .i64 0, .int .i64 0, .int .i64 0]) ?_ 0 _ rfl; (with_reducible repeat (first | refine blk_drewN ?_ _ | refine blk_drew ?_ | refine blk_alloc ?_ _)); exact BK260.out) hb); have n2_ := Aside0.mk (below_step (by repeat (first | (with_reducible first | exact HB.out | apply below_alloc | apply pw_below_drewN | apply below_drew1 | refine below_set ?_ GE258.out | refine below_set ?_ GE260.out) | exact HB.out)) hb); clear BK258; clear BK260; clear HB; have BK258 := n0_; have BK260 := n1_; have HB := n2_; clear n0_ n1_ n2_; (try clear hb); (try clear hb2); (try clear hk); (try clear hi)))
            (try simp only [Act.put, List.setIfInBounds_toArray, List.set_cons_zero, List.set_cons_succ])
            by_cases c13 : t261.toList = a1.toList
            · rw [if_pos c13] at H
              have c13b0 : (t261.toList == a1.toList) = true := beq_iff_eq.mpr c13
              have c13b1 : (t261.toList != a1.toList) = false := bne_eq_false_iff_eq.mpr c13
              clear c13
              (try simp only [c13b0, c13b1])
              simp only [Option.some.injEq, Prod.mk.injEq] at H
              obtain ⟨rfl, rfl, rfl, rfl, rfl, rfl, rfl⟩ := H
              have hnb14 := NB260_258.out
              have hnc14 := NB258_260.out
              have hcz15_0 : w12.cell? ⟨gb260, 0, none⟩ = some (.string ((rd_T23 l0 x13_1).f0)) := (blk_cell BK260.out 0).trans rfl
              have hcz15_1 : w12.cell? ⟨gb260, 1, none⟩ = some (.int .i64 ((rd_T23 l0 x13_1).f1)) := (blk_cell BK260.out 1).trans rfl
              have hcz15_2 : w12.cell? ⟨gb260, 2, none⟩ = some (.int .i64 ((rd_T23 l0 x13_1).f2)) := (blk_cell BK260.out 2).trans rfl
              have hcz15_3 : w12.cell? ⟨gb260, 3, none⟩ = some (.int .i64 ((rd_T23 l0 x13_1).f3)) := (blk_cell BK260.out 3).trans rfl
              have hcz15_4 : w12.cell? ⟨gb260, 4, none⟩ = some (.int .i64 ((rd_T23 l0 x13_1).f4)) := (blk_cell BK260.out 4).trans rfl
              have hcz15_5 : w12.cell? ⟨gb260, 5, none⟩ = some (.int .i64 ((rd_T23 l0 x13_1).f5)) := (blk_cell BK260.out 5).trans rfl
              have hfz15_0 := blk_frozen BK260.out 0
              have hfz15_1 := blk_frozen BK260.out 1
              have hfz15_2 := blk_frozen BK260.out 2
              have hfz15_3 := blk_frozen BK260.out 3
              have hfz15_4 := blk_frozen BK260.out 4
              have hfz15_5 := blk_frozen BK260.out 5
              have hcz16_0 : w12.cell? ⟨gb258, 0, none⟩ = some (.string x259000_1) := (blk_cell BK258.out 0).trans rfl
              have hcz16_1 : w12.cell? ⟨gb258, 1, none⟩ = some (.int .i64 x259001_1) := (blk_cell BK258.out 1).trans rfl
              have hcz16_2 : w12.cell? ⟨gb258, 2, none⟩ = some (.int .i64 x259002_1) := (blk_cell BK258.out 2).trans rfl
              have hcz16_3 : w12.cell? ⟨gb258, 3, none⟩ = some (.int .i64 x259003_1) := (blk_cell BK258.out 3).trans rfl
              have hcz16_4 : w12.cell? ⟨gb258, 4, none⟩ = some (.int .i64 x259004_1) := (blk_cell BK258.out 4).trans rfl
              have hcz16_5 : w12.cell? ⟨gb258, 5, none⟩ = some (.int .i64 x259005_1) := (blk_cell BK258.out 5).trans rfl
              have hfz16_0 := blk_frozen BK258.out 0
              have hfz16_1 := blk_frozen BK258.out 1
              have hfz16_2 := blk_frozen BK258.out 2
              have hfz16_3 := blk_frozen BK258.out 3
              have hfz16_4 := blk_frozen BK258.out 4
              have hfz16_5 := blk_frozen BK258.out 5
              go_wp2
              refine bodyPost_ret (results_ct rfl _ _ gb258 23 #[.string ((rd_T23 l0 x13_1).f0), .int .i64 ((rd_T23 l0 x13_1).f1), .int .i64 ((rd_T23 l0 x13_1).f2), .int .i64 ((rd_T23 l0 x13_1).f3), .int .i64 ((rd_T23 l0 x13_1).f4), .int .i64 ((rd_T23 l0 x13_1).f5)] (0, 0) _ rfl (by (with_reducible repeat (first | refine blk_drewN ?_ _ | refine blk_drew ?_ | refine blk_alloc ?_ _)); refine blk_put (cs := #[.string ((rd_T23 l0 x13_1).f0), .int .i64 ((rd_T23 l0 x13_1).f1), .int .i64 ((rd_T23 l0 x13_1).f2), .int .i64 ((rd_T23 l0 x13_1).f3), .int .i64 ((rd_T23 l0 x13_1).f4), .int .i64 x259005_1]) ?_ 5 _ rfl; (with_reducible repeat (first | refine blk_drewN ?_ _ | refine blk_drew ?_ | refine blk_alloc ?_ _)); refine blk_put (cs := #[.string ((rd_T23 l0 x13_1).f0), .int .i64 ((rd_T23 l0 x13_1).f1), .int .i64 ((rd_T23 l0 x13_1).f2), .int .i64 ((rd_T23 l0 x13_1).f3), .int .i64 x259004_1, .int .i64 x259005_1]) ?_ 4 _ rfl; (with_reducible repeat (first | refine blk_drewN ?_ _ | refine blk_drew ?_ | refine blk_alloc ?_ _)); refine blk_put (cs := #[.string ((rd_T23 l0 x13_1).f0), .int .i64 ((rd_T23 l0 x13_1).f1), .int .i64 ((rd_T23 l0 x13_1).f2), .int .i64 x259003_1, .int .i64 x259004_1, .int .i64 x259005_1]) ?_ 3 _ rfl; (with_reducible repeat (first | refine blk_drewN ?_ _ | refine blk_drew ?_ | refine blk_alloc ?_ _)); refine blk_put (cs := #[.string ((rd_T23 l0 x13_1).f0), .int .i64 ((rd_T23 l0 x13_1).f1), .int .i64 x259002_1, .int .i64 x259003_1, .int .i64 x259004_1, .int .i64 x259005_1]) ?_ 2 _ rfl; (with_reducible repeat (first | refine blk_drewN ?_ _ | refine blk_drew ?_ | refine blk_alloc ?_ _)); refine blk_put (cs := #[.string ((rd_T23 l0 x13_1).f0), .int .i64 x259001_1, .int .i64 x259002_1, .int .i64 x259003_1, .int .i64 x259004_1, .int .i64 x259005_1]) ?_ 1 _ rfl; (with_reducible repeat (first | refine blk_drewN ?_ _ | refine blk_drew ?_ | refine blk_alloc ?_ _)); refine blk_put (cs := #[.string x259000_1, .int .i64 x259001_1, .int .i64 x259002_1, .int .i64 x259003_1, .int .i64 x259004_1, .int .i64 x259005_1]) ?_ 0 _ rfl; (with_reducible repeat (first | refine blk_drewN ?_ _ | refine blk_drew ?_ | refine blk_alloc ?_ _)); exact BK258.out) Try.underlying23 rfl (by kernel_rfl)) rfl ?_
              exact ⟨by first | rfl | (simp [errW_none, errW_some] <;> rfl) | (simp [*, errW_none, errW_some] <;> rfl), by repeat (first | (with_reducible first | exact HB.out | apply below_alloc | apply pw_below_drewN | apply below_drew1 | refine below_set ?_ GE258.out | refine below_set ?_ GE260.out) | exact HB.out)⟩
            · rw [if_neg c13] at H
              have c13b0 : (t261.toList == a1.toList) = false := beq_eq_false_iff_ne.mpr c13
              have c13b1 : (t261.toList != a1.toList) = true := bne_iff_ne.mpr c13
              (try simp only [c13b0, c13b1])
              have H' := Aside0.mk H
              clear H
              go_wp2
              go_roundg k1
              case measure => have := HK1.out; omega
              case rel => exact ⟨(wrap64 (x13_1 + 1)), (x259000_1), (x259001_1), (x259002_1), (x259003_1), (x259004_1), (x259005_1), (by first | rfl | (simp; done) | (simp [*]; done)), H', ⟨by have := HK1.out; omega⟩, ⟨by (with_reducible repeat (first | refine blk_drewN ?_ _ | refine blk_drew ?_ | refine blk_alloc ?_ _)); exact BK258.out⟩, ⟨by repeat (first | (with_reducible first | exact HB.out | apply below_alloc | apply pw_below_drewN | apply below_drew1 | refine below_set ?_ GE258.out | refine below_set ?_ GE260.out) | exact HB.out)⟩⟩
          · rw [if_neg c7] at H
            exact absurd H (by simp)
        · rw [if_neg c6] at H
          exact absurd H (by simp)
      · rw [if_neg c5] at H
        have c5b0 : decide (x13_1 < (l0.length : Int)) = false := decide_eq_false c5
        clear c5
        (try simp only [c5b0])
        simp only [Option.some.injEq, Prod.mk.injEq] at H
        obtain ⟨rfl, rfl, rfl, rfl, rfl, rfl, rfl⟩ := H
        go_wp2_with (first | ((with_reducible refine gate_dst (N := 10) rfl ?_); refine box_event ?hg (N := 10) ?hd (cs := #[.string (⟨#[]⟩ : ByteArray), .int .i64 0, .int .i64 0, .int .i64 0, .int .i64 0, .int .i64 0]) (t := 23) ?hr ?_; (case hd => rfl); (case hg => rfl); (case hr => first | (go_simp; done) | (go_simp; rfl)); intro gb262 hg w17 hbox hb; have n0_ := Aside0.mk (blk_below (g := gb258) (o := .cells #[.string x259000_1, .int .i64 x259001_1, .int .i64 x259002_1, .int .i64 x259003_1, .int .i64 x259004_1, .int .i64 x259005_1] 23 (0, 0)) (by (with_reducible repeat (first | refine blk_drewN ?_ _ | refine blk_drew ?_ | refine blk_alloc ?_ _)); exact BK258.out) hb); have n1_ := Aside0.mk (below_step (by repeat (first | (with_reducible first | exact HB.out | apply below_alloc | apply pw_below_drewN | apply below_drew1 | refine below_set ?_ GE258.out) | exact HB.out)) hb); have n2_ := Aside0.mk (hbox); have n3_ := Aside0.mk ((by rw [hg]; exact (below_size (by repeat (first | (with_reducible first | exact HB.out | apply below_alloc | apply pw_below_drewN | apply below_drew1 | refine below_set ?_ GE258.out) | exact HB.out))) : w.heap.size ≤ gb262)); have n4_ := Aside0.mk ((by rw [hg]; exact (below_size (by repeat (first | (with_reducible first | exact HB.out | apply below_alloc | apply pw_below_drewN | apply below_drew1 | refine below_set ?_ GE258.out) | exact HB.out))) : w.heap.size ≤ gb262)); have n5_ := Aside0.mk ((by rw [hg]; exact Nat.ne_of_lt (blk_lt (g := gb258) (o := .cells #[.string x259000_1, .int .i64 x259001_1, .int .i64 x259002_1, .int .i64 x259003_1, .int .i64 x259004_1, .int .i64 x259005_1] 23 (0, 0)) (by (with_reducible repeat (first | refine blk_drewN ?_ _ | refine blk_drew ?_ | refine blk_alloc ?_ _)); exact BK258.out)) : gb258 ≠ gb262)); have n6_ := Aside0.mk ((by rw [hg]; exact Nat.ne_of_gt (blk_lt (g := gb258) (o := .cells #[.string x259000_1, .int .i64 x259001_1, .int .i64 x259002_1, .int .i64 x259003_1, .int .i64 x259004_1, .int .i64 x259005_1] 23 (0, 0)) (by (with_reducible repeat (first | refine blk_drewN ?_ _ | refine blk_drew ?_ | refine blk_alloc ?_ _)); exact BK258.out)) : gb262 ≠ gb258)); clear BK258; clear HB; have BK258 := n0_; have HB := n1_; have BK262 := n2_; have GW262 := n3_; have GE262 := n4_; have NB258_262 := n5_; have NB262_258 := n6_; clear n0_ n1_ n2_ n3_ n4_ n5_ n6_; clear hb hbox hg; have hnb18 := NB262_258.out; have hnc18 := NB258_262.out; have hcz19_0 : w17.cell? ⟨gb262, 0, none⟩ = some (.string (⟨#[]⟩ : ByteArray)) := (blk_cell BK262.out 0).trans rfl; have hcz19_1 : w17.cell? ⟨gb262, 1, none⟩ = some (.int .i64 0) := (blk_cell BK262.out 1).trans rfl; have hcz19_2 : w17.cell? ⟨gb262, 2, none⟩ = some (.int .i64 0) := (blk_cell BK262.out 2).trans rfl; have hcz19_3 : w17.cell? ⟨gb262, 3, none⟩ = some (.int .i64 0) := (blk_cell BK262.out 3).trans rfl; have hcz19_4 : w17.cell? ⟨gb262, 4, none⟩ = some (.int .i64 0) := (blk_cell BK262.out 4).trans rfl; have hcz19_5 : w17.cell? ⟨gb262, 5, none⟩ = some (.int .i64 0) := (blk_cell BK262.out 5).trans rfl; have hfz19_0 := blk_frozen BK262.out 0; have hfz19_1 := blk_frozen BK262.out 1; have hfz19_2 := blk_frozen BK262.out 2; have hfz19_3 := blk_frozen BK262.out 3; have hfz19_4 := blk_frozen BK262.out 4; have hfz19_5 := blk_frozen BK262.out 5; have hcz20_0 : w17.cell? ⟨gb258, 0, none⟩ = some (.string x259000_1) := (blk_cell BK258.out 0).trans rfl; have hcz20_1 : w17.cell? ⟨gb258, 1, none⟩ = some (.int .i64 x259001_1) := (blk_cell BK258.out 1).trans rfl; have hcz20_2 : w17.cell? ⟨gb258, 2, none⟩ = some (.int .i64 x259002_1) := (blk_cell BK258.out 2).trans rfl; have hcz20_3 : w17.cell? ⟨gb258, 3, none⟩ = some (.int .i64 x259003_1) := (blk_cell BK258.out 3).trans rfl; have hcz20_4 : w17.cell? ⟨gb258, 4, none⟩ = some (.int .i64 x259004_1) := (blk_cell BK258.out 4).trans rfl; have hcz20_5 : w17.cell? ⟨gb258, 5, none⟩ = some (.int .i64 x259005_1) := (blk_cell BK258.out 5).trans rfl; have hfz20_0 := blk_frozen BK258.out 0; have hfz20_1 := blk_frozen BK258.out 1; have hfz20_2 := blk_frozen BK258.out 2; have hfz20_3 := blk_frozen BK258.out 3; have hfz20_4 := blk_frozen BK258.out 4; have hfz20_5 := blk_frozen BK258.out 5))
        refine bodyPost_ret (results_ct rfl _ _ gb258 23 #[.string (⟨#[]⟩ : ByteArray), .int .i64 0, .int .i64 0, .int .i64 0, .int .i64 0, .int .i64 0] (0, 0) _ rfl (by (with_reducible repeat (first | refine blk_drewN ?_ _ | refine blk_drew ?_ | refine blk_alloc ?_ _)); refine blk_put (cs := #[.string (⟨#[]⟩ : ByteArray), .int .i64 0, .int .i64 0, .int .i64 0, .int .i64 0, .int .i64 x259005_1]) ?_ 5 _ rfl; (with_reducible repeat (first | refine blk_drewN ?_ _ | refine blk_drew ?_ | refine blk_alloc ?_ _)); refine blk_put (cs := #[.string (⟨#[]⟩ : ByteArray), .int .i64 0, .int .i64 0, .int .i64 0, .int .i64 x259004_1, .int .i64 x259005_1]) ?_ 4 _ rfl; (with_reducible repeat (first | refine blk_drewN ?_ _ | refine blk_drew ?_ | refine blk_alloc ?_ _)); refine blk_put (cs := #[.string (⟨#[]⟩ : ByteArray), .int .i64 0, .int .i64 0, .int .i64 x259003_1, .int .i64 x259004_1, .int .i64 x259005_1]) ?_ 3 _ rfl; (with_reducible repeat (first | refine blk_drewN ?_ _ | refine blk_drew ?_ | refine blk_alloc ?_ _)); refine blk_put (cs := #[.string (⟨#[]⟩ : ByteArray), .int .i64 0, .int .i64 x259002_1, .int .i64 x259003_1, .int .i64 x259004_1, .int .i64 x259005_1]) ?_ 2 _ rfl; (with_reducible repeat (first | refine blk_drewN ?_ _ | refine blk_drew ?_ | refine blk_alloc ?_ _)); refine blk_put (cs := #[.string (⟨#[]⟩ : ByteArray), .int .i64 x259001_1, .int .i64 x259002_1, .int .i64 x259003_1, .int .i64 x259004_1, .int .i64 x259005_1]) ?_ 1 _ rfl; (with_reducible repeat (first | refine blk_drewN ?_ _ | refine blk_drew ?_ | refine blk_alloc ?_ _)); refine blk_put (cs := #[.string x259000_1, .int .i64 x259001_1, .int .i64 x259002_1, .int .i64 x259003_1, .int .i64 x259004_1, .int .i64 x259005_1]) ?_ 0 _ rfl; (with_reducible repeat (first | refine blk_drewN ?_ _ | refine blk_drew ?_ | refine blk_alloc ?_ _)); exact BK258.out) Try.underlying23 rfl (by kernel_rfl)) rfl ?_
        exact ⟨by first | rfl | (simp [errW_none, errW_some] <;> rfl) | (simp [*, errW_none, errW_some] <;> rfl), by repeat (first | (with_reducible first | exact HB.out | apply below_alloc | apply pw_below_drewN | apply below_drew1 | refine below_set ?_ GE258.out | refine below_set ?_ GE262.out) | exact HB.out)⟩
def asset_Find.f (k : Nat) (l0 : List (S23)) (a1 : ByteArray) : Option (ByteArray × Int × Int × Int × Int × Int × Bool) := (asset_named_api_Asset.f k l0 a1).bind fun bt264 => (some (bt264.1, bt264.2.1, bt264.2.2.1, bt264.2.2.2.1, bt264.2.2.2.2.1, bt264.2.2.2.2.2.1, bt264.2.2.2.2.2.2))
theorem asset_Find.mono : ∀ a0 a1 k, LeO (asset_Find.f k a0 a1) (asset_Find.f (k + 1) a0 a1) := by
  intro a0 a1 k
  unfold asset_Find.f
  repeat' first
      | (with_reducible exact asset_named_api_Asset.mono _ _ _)
      | (with_reducible exact LeO.refl _)
      | (with_reducible exact LeO.none _)
      | (with_reducible refine LeO.ite ?_ ?_)
      | (with_reducible refine LeO.bind ?_ (fun _ => ?_))
      | exact asset_named_api_Asset.mono _ _ _
      | exact LeO.none _
      | refine LeO.ite ?_ ?_
      | refine LeO.bind ?_ (fun _ => ?_)
set_option maxHeartbeats 8000000 in
set_option maxRecDepth 100000 in
theorem asset_Find.calls (k : Nat) (A0 : Option Addr) (c0 : Nat) (l0 : List (S23)) (a1 : ByteArray) (r1 : ByteArray) (r2 : Int) (r3 : Int) (r4 : Int) (r5 : Int) (r6 : Int) (r7 : Bool) (w : World) (hr0 : Kd.C k23 w A0 l0.length l0) (hc0 : l0.length ≤ c0) (h : asset_Find.f k l0 a1 = some (r1, r2, r3, r4, r5, r6, r7)) :
    Calls Try.prog 23 #[.slice A0 l0.length c0, .string a1] w fun e w' => e = .returned (.tuple #[.agg #[.string r1, .int .i64 r2, .int .i64 r3, .int .i64 r4, .int .i64 r5, .int .i64 r6], .bool r7]) ∧ Below w.heap.size w w' := by
  have hu23 := Try.underlying23
  have HR0 := Aside0.mk hr0
  have HC0 := Aside0.mk hc0
  clear hr0 hc0
  have HB := Aside0.mk (Below.refl w.heap.size w)
  have H : ((asset_named_api_Asset.f k l0 a1).bind fun bt264 => (some (bt264.1, bt264.2.1, bt264.2.2.1, bt264.2.2.2.1, bt264.2.2.2.2.1, bt264.2.2.2.2.2.1, bt264.2.2.2.2.2.2))) = some (r1, r2, r3, r4, r5, r6, r7) := h
  clear h
  replace H := Option.bind_eq_some_iff.mp H
  obtain ⟨⟨t264, t265, t266, t267, t268, t269, t270⟩, A30, H⟩ := H
  replace H : (some (t264, t265, t266, t267, t268, t269, t270)) = some (r1, r2, r3, r4, r5, r6, r7) := H
  have A3 := Aside0.mk A30
  clear A30
  simp only [Option.some.injEq, Prod.mk.injEq] at H
  obtain ⟨rfl, rfl, rfl, rfl, rfl, rfl, rfl⟩ := H
  go_enter Try.func23, Try.ntmps23
  go_wp2_with (first | ((with_reducible refine gate_dst (N := 4) rfl ?_); refine box_event ?hg (N := 4) ?hd (cs := #[.string (⟨#[]⟩ : ByteArray), .int .i64 0, .int .i64 0, .int .i64 0, .int .i64 0, .int .i64 0]) (t := 23) ?hr ?_; (case hd => rfl); (case hg => rfl); (case hr => first | (go_simp; done) | (go_simp; rfl)); intro gb263 hg w4 hbox hb; have n0_ := Aside0.mk (below_step (by repeat (first | (with_reducible first | exact HB.out | apply below_alloc | apply pw_below_drewN | apply below_drew1) | exact HB.out)) hb); have n1_ := Aside0.mk (hbox); have n2_ := Aside0.mk ((by rw [hg]; exact (below_size (by repeat (first | (with_reducible first | exact HB.out | apply below_alloc | apply pw_below_drewN | apply below_drew1) | exact HB.out))) : w.heap.size ≤ gb263)); have n3_ := Aside0.mk ((by rw [hg]; exact (below_size (by repeat (first | (with_reducible first | exact HB.out | apply below_alloc | apply pw_below_drewN | apply below_drew1) | exact HB.out))) : w.heap.size ≤ gb263)); clear HB; have HB := n0_; have BK263 := n1_; have GW263 := n2_; have GE263 := n3_; clear n0_ n1_ n2_ n3_; clear hb hbox hg) | ((with_reducible refine gate_callee (f := 62) rfl ?_); refine goesL_ (some 8) rfl rfl Try.func62 (by kernel_rfl) rfl #[.slice A0 l0.length c0, .string a1, .func (.func 63) #[] #[]] rfl (by (try simp only [List.map_toArray, List.map_cons, List.map_nil]); first | done | rfl | (simp only [List.length_drop, List.length_take]; rfl)) ?_; (with_reducible refine (asset_named_api_Asset.calls k _ _ l0 a1  t264 t265 t266 t267 t268 t269 t270 _ ?side1 ?side2 A3.out).mono ?_); (case side1 => repeat (first | exact (Kd.C_below HR0.out HB.out) | (with_reducible refine Kd.C_alloc ?_ _) | (with_reducible refine Kd.C_drewN ?_ _) | (with_reducible refine Kd.C_drew ?_))); (case side2 => exact HC0.out); rintro e w5 ⟨rfl, hb⟩; refine ⟨_, rfl, ?_⟩; have n0_ := Aside0.mk (blk_below (g := gb263) (o := .cells #[.string (⟨#[]⟩ : ByteArray), .int .i64 0, .int .i64 0, .int .i64 0, .int .i64 0, .int .i64 0] 23 (0, 0)) (by (with_reducible repeat (first | refine blk_drewN ?_ _ | refine blk_drew ?_ | refine blk_alloc ?_ _)); exact BK263.out) hb); have n1_ := Aside0.mk (below_step (by repeat (first | (with_reducible first | exact HB.out | apply below_alloc | apply pw_below_drewN | apply below_drew1 | refine below_set ?_ GE263.out) | exact HB.out)) hb); clear BK263; clear HB; have BK263 := n0_; have HB := n1_; clear n0_ n1_; (try clear hb); (try clear hb2); (try clear hk); (try clear hi); have hcz6_0 : w5.cell? ⟨gb263, 0, none⟩ = some (.string (⟨#[]⟩ : ByteArray)) := (blk_cell BK263.out 0).trans rfl; have hcz6_1 : w5.cell? ⟨gb263, 1, none⟩ = some (.int .i64 0) := (blk_cell BK263.out 1).trans rfl; have hcz6_2 : w5.cell? ⟨gb263, 2, none⟩ = some (.int .i64 0) := (blk_cell BK263.out 2).trans rfl; have hcz6_3 : w5.cell? ⟨gb263, 3, none⟩ = some (.int .i64 0) := (blk_cell BK263.out 3).trans rfl; have hcz6_4 : w5.cell? ⟨gb263, 4, none⟩ = some (.int .i64 0) := (blk_cell BK263.out 4).trans rfl; have hcz6_5 : w5.cell? ⟨gb263, 5, none⟩ = some (.int .i64 0) := (blk_cell BK263.out 5).trans rfl; have hfz6_0 := blk_frozen BK263.out 0; have hfz6_1 := blk_frozen BK263.out 1; have hfz6_2 := blk_frozen BK263.out 2; have hfz6_3 := blk_frozen BK263.out 3; have hfz6_4 := blk_frozen BK263.out 4; have hfz6_5 := blk_frozen BK263.out 5))
  refine bodyPost_ret (results_ct rfl _ _ gb263 23 #[.string t264, .int .i64 t265, .int .i64 t266, .int .i64 t267, .int .i64 t268, .int .i64 t269] (0, 0) _ rfl (by (with_reducible repeat (first | refine blk_drewN ?_ _ | refine blk_drew ?_ | refine blk_alloc ?_ _)); refine blk_put (cs := #[.string t264, .int .i64 t265, .int .i64 t266, .int .i64 t267, .int .i64 t268, .int .i64 0]) ?_ 5 _ rfl; (with_reducible repeat (first | refine blk_drewN ?_ _ | refine blk_drew ?_ | refine blk_alloc ?_ _)); refine blk_put (cs := #[.string t264, .int .i64 t265, .int .i64 t266, .int .i64 t267, .int .i64 0, .int .i64 0]) ?_ 4 _ rfl; (with_reducible repeat (first | refine blk_drewN ?_ _ | refine blk_drew ?_ | refine blk_alloc ?_ _)); refine blk_put (cs := #[.string t264, .int .i64 t265, .int .i64 t266, .int .i64 0, .int .i64 0, .int .i64 0]) ?_ 3 _ rfl; (with_reducible repeat (first | refine blk_drewN ?_ _ | refine blk_drew ?_ | refine blk_alloc ?_ _)); refine blk_put (cs := #[.string t264, .int .i64 t265, .int .i64 0, .int .i64 0, .int .i64 0, .int .i64 0]) ?_ 2 _ rfl; (with_reducible repeat (first | refine blk_drewN ?_ _ | refine blk_drew ?_ | refine blk_alloc ?_ _)); refine blk_put (cs := #[.string t264, .int .i64 0, .int .i64 0, .int .i64 0, .int .i64 0, .int .i64 0]) ?_ 1 _ rfl; (with_reducible repeat (first | refine blk_drewN ?_ _ | refine blk_drew ?_ | refine blk_alloc ?_ _)); refine blk_put (cs := #[.string (⟨#[]⟩ : ByteArray), .int .i64 0, .int .i64 0, .int .i64 0, .int .i64 0, .int .i64 0]) ?_ 0 _ rfl; (with_reducible repeat (first | refine blk_drewN ?_ _ | refine blk_drew ?_ | refine blk_alloc ?_ _)); exact BK263.out) Try.underlying23 rfl (by kernel_rfl)) rfl ?_
  exact ⟨by first | rfl | (simp [errW_none, errW_some] <;> rfl) | (simp [*, errW_none, errW_some] <;> rfl), by repeat (first | (with_reducible first | exact HB.out | apply below_alloc | apply pw_below_drewN | apply below_drew1 | refine below_set ?_ GE263.out) | exact HB.out)⟩
def asset_CheckAll.l0 : Nat → List (S23) → List (S23) → Int → Int → Option (Int)
  | 0, _, _, _, _ => none
  | k + 1, x0, x9, x10, x11 => if x11 < x10 then (if 0 ≤ x11 then (if x11 < (x9.length : Int) then ((asset_Check.f k ((rd_T23 x9 x11).f0) ((rd_T23 x9 x11).f1) ((rd_T23 x9 x11).f2) ((rd_T23 x9 x11).f3) ((rd_T23 x9 x11).f4) ((rd_T23 x9 x11).f5)).bind fun t276 => (if t276 = 0 then (if x11 > 0 then (if 0 ≤ (wrap64 (x11 - 1)) then (if (wrap64 (x11 - 1)) < (x0.length : Int) then (if (Op.bytesLess (((rd_T23 x9 x11).f0).toList) (((rd_T23 x0 (wrap64 (x11 - 1))).f0).toList)) = true then (some 12) else (if (((rd_T23 x9 x11).f0).toList) = (((rd_T23 x0 (wrap64 (x11 - 1))).f0).toList) then (some 12) else (asset_CheckAll.l0 k x0 x9 x10 (wrap64 (x11 + 1))))) else (none)) else (none)) else (asset_CheckAll.l0 k x0 x9 x10 (wrap64 (x11 + 1)))) else (some t276))) else (none)) else (none)) else (some 0)
def asset_CheckAll.f (k : Nat) (l0 : List (S23)) : Option (Int) := if (l0.length : Int) > 1024 then (some 8) else (asset_CheckAll.l0 k l0 l0 (l0.length : Int) 0)
theorem asset_CheckAll.mono_l : ∀ k, (∀ y0 y1 y2 y3, LeO (asset_CheckAll.l0 k y0 y1 y2 y3) (asset_CheckAll.l0 (k + 1) y0 y1 y2 y3))
  | 0 => fun _ _ _ _ r h => by simp [asset_CheckAll.l0] at h
  | k + 1 => by
    have ih0 := asset_CheckAll.mono_l k
    · intro y0 y1 y2 y3
      unfold asset_CheckAll.l0
      repeat' first
      | (with_reducible exact ih0 _ _ _ _)
      | (with_reducible exact asset_Check.mono _ _ _ _ _ _ _)
      | (with_reducible exact LeO.refl _)
      | (with_reducible exact LeO.none _)
      | (with_reducible refine LeO.ite ?_ ?_)
      | (with_reducible refine LeO.bind ?_ (fun _ => ?_))
      | exact ih0 _ _ _ _
      | exact asset_Check.mono _ _ _ _ _ _ _
      | exact LeO.none _
      | refine LeO.ite ?_ ?_
      | refine LeO.bind ?_ (fun _ => ?_)
theorem asset_CheckAll.mono : ∀ a0 k, LeO (asset_CheckAll.f k a0) (asset_CheckAll.f (k + 1) a0) := by
  intro a0 k
  have ih0 := asset_CheckAll.mono_l k
  unfold asset_CheckAll.f
  repeat' first
      | (with_reducible exact ih0 _ _ _ _)
      | (with_reducible exact asset_Check.mono _ _ _ _ _ _ _)
      | (with_reducible exact LeO.refl _)
      | (with_reducible exact LeO.none _)
      | (with_reducible refine LeO.ite ?_ ?_)
      | (with_reducible refine LeO.bind ?_ (fun _ => ?_))
      | exact ih0 _ _ _ _
      | exact asset_Check.mono _ _ _ _ _ _ _
      | exact LeO.none _
      | refine LeO.ite ?_ ?_
      | refine LeO.bind ?_ (fun _ => ?_)
set_option maxHeartbeats 8000000 in
set_option maxRecDepth 100000 in
theorem asset_CheckAll.calls (k : Nat) (A0 : Option Addr) (c0 : Nat) (l0 : List (S23)) (r : Int) (w : World) (hr0 : Kd.C k23 w A0 l0.length l0) (hc0 : l0.length ≤ c0) (h : asset_CheckAll.f k l0 = some r) :
    Calls Try.prog 27 #[.slice A0 l0.length c0] w fun e w' => e = .returned (.int .i64 r) ∧ Below w.heap.size w w' := by
  have hu23 := Try.underlying23
  have HR0 := Aside0.mk hr0
  have HC0 := Aside0.mk hc0
  clear hr0 hc0
  have HB := Aside0.mk (Below.refl w.heap.size w)
  have H : (if (l0.length : Int) > 1024 then (some 8) else (asset_CheckAll.l0 k l0 l0 (l0.length : Int) 0)) = some r := h
  clear h
  by_cases c2 : (l0.length : Int) > 1024
  · rw [if_pos c2] at H
    have c2b0 : decide (1024 < (l0.length : Int)) = true := decide_eq_true c2
    have c2b1 : decide (1024 < l0.length) = true := decide_eq_true (by omega)
    clear c2
    obtain rfl := Option.some.inj H
    go_enter Try.func27, Try.ntmps27
    go_wp2
    repeat (go_quiet (fail); try go_wp2)
    go_ret
    exact ⟨by first | rfl | (simp [errW_none, errW_some] <;> rfl) | (simp [*, errW_none, errW_some] <;> rfl), by repeat (first | (with_reducible first | exact HB.out | apply below_alloc | apply pw_below_drewN | apply below_drew1) | exact HB.out)⟩
  · rw [if_neg c2] at H
    have c2b0 : decide (1024 < (l0.length : Int)) = false := decide_eq_false c2
    have c2b1 : decide (1024 < l0.length) = false := decide_eq_false (by omega)
    clear c2
    have H' := Aside0.mk H
    clear H
    go_enter Try.func27, Try.ntmps27
    go_wp2
    repeat (go_quiet (fail); try go_wp2)
    go_loopg [11] k (fun kq v11 w' => ∃ (x11_1 : Int), v11 = .int .i64 x11_1 ∧ Aside0 (asset_CheckAll.l0 kq l0 l0 (l0.length : Int) x11_1 = some r) ∧ Aside0 (kq ≤ k) ∧ Aside0 (Below w.heap.size w w'))
    case atStart => exact ⟨(0), (by first | rfl | (simp; done) | (simp [*]; done)), H', ⟨Nat.le_refl _⟩, ⟨by repeat (first | (with_reducible first | exact HB.out | apply below_alloc | apply pw_below_drewN | apply below_drew1) | exact HB.out)⟩⟩
    case round =>
      clear H'
      try clear c2
      try clear c2b0
      try clear c2b1
      try clear p2
      obtain ⟨x11_1, rfl, HA, HK1, HB⟩ := hrel
      cases gk with
      | zero => exact absurd HA.out (by simp [asset_CheckAll.l0])
      | succ k1 =>
        have H := HA.out
        clear HA
        simp only [asset_CheckAll.l0] at H
        by_cases c3 : x11_1 < (l0.length : Int)
        · rw [if_pos c3] at H
          have c3b0 : decide (x11_1 < (l0.length : Int)) = true := decide_eq_true c3
          clear c3
          (try simp only [c3b0])
          by_cases c4 : 0 ≤ x11_1
          · rw [if_pos c4] at H
            have c4b0 : decide (0 ≤ x11_1) = true := decide_eq_true c4
            clear c4
            by_cases c5 : x11_1 < (l0.length : Int)
            · rw [if_pos c5] at H
              have c5b0 : decide (x11_1 < (l0.length : Int)) = true := decide_eq_true c5
              clear c5
              replace H := Option.bind_eq_some_iff.mp H
              obtain ⟨t276, A60, H⟩ := H
              replace H : (if t276 = 0 then (if x11_1 > 0 then (if 0 ≤ (wrap64 (x11_1 - 1)) then (if (wrap64 (x11_1 - 1)) < (l0.length : Int) then (if (Op.bytesLess (((rd_T23 l0 x11_1).f0).toList) (((rd_T23 l0 (wrap64 (x11_1 - 1))).f0).toList)) = true then (some 12) else (if (((rd_T23 l0 x11_1).f0).toList) = (((rd_T23 l0 (wrap64 (x11_1 - 1))).f0).toList) then (some 12) else (asset_CheckAll.l0 k1 l0 l0 (l0.length : Int) (wrap64 (x11_1 + 1))))) else (none)) else (none)) else (asset_CheckAll.l0 k1 l0 l0 (l0.length : Int) (wrap64 (x11_1 + 1)))) else (some t276)) = some r := H
              have A6 := Aside0.mk A60
              clear A60
              have p274 : 0 ≤ (x11_1 : Int) := of_decide_eq_true (by first | (with_reducible assumption) | assumption)
              have q274 : x11_1 < (l0.length : Int) := of_decide_eq_true (by first | (with_reducible assumption) | assumption)
              obtain ⟨ad274, e274, hx274_0, hx274_1, hx274_2, hx274_3, hx274_4, hx274_5⟩ := at_T23 HR0.out x11_1 p274 q274
              cases e274
              replace hx274_0 := (HB.out.cell (World.block_lt_of_cell? w _ hx274_0)).trans hx274_0
              replace hx274_1 := (HB.out.cell (World.block_lt_of_cell? w _ hx274_1)).trans hx274_1
              replace hx274_2 := (HB.out.cell (World.block_lt_of_cell? w _ hx274_2)).trans hx274_2
              replace hx274_3 := (HB.out.cell (World.block_lt_of_cell? w _ hx274_3)).trans hx274_3
              replace hx274_4 := (HB.out.cell (World.block_lt_of_cell? w _ hx274_4)).trans hx274_4
              replace hx274_5 := (HB.out.cell (World.block_lt_of_cell? w _ hx274_5)).trans hx274_5
              replace p274 := eq_true p274
              replace q274 := eq_true q274
              go_upto_if 19 with (first | ((with_reducible refine gate_dst (N := 4) rfl ?_); refine box_event ?hg (N := 4) ?hd (cs := #[.string (⟨#[]⟩ : ByteArray), .int .i64 0, .int .i64 0, .int .i64 0, .int .i64 0, .int .i64 0]) (t := 23) ?hr ?_; (case hd => rfl); (case hg => rfl); (case hr => first | (go_simp; done) | (go_simp; rfl)); intro gb275 hg w7 hbox hb; have n0_ := Aside0.mk (below_step (by repeat (first | (with_reducible first | exact HB.out | apply below_alloc | apply pw_below_drewN | apply below_drew1) | exact HB.out)) hb); have n1_ := Aside0.mk (hbox); have n2_ := Aside0.mk ((by rw [hg]; exact (below_size (by repeat (first | (with_reducible first | exact HB.out | apply below_alloc | apply pw_below_drewN | apply below_drew1) | exact HB.out))) : w.heap.size ≤ gb275)); have n3_ := Aside0.mk ((by rw [hg]; exact (below_size (by repeat (first | (with_reducible first | exact HB.out | apply below_alloc | apply pw_below_drewN | apply below_drew1) | exact HB.out))) : w.heap.size ≤ gb275)); clear HB; have HB := n0_; have BK275 := n1_; have GW275 := n2_; have GE275 := n3_; clear n0_ n1_ n2_ n3_; clear hb hbox hg; have hcz8_0 : w7.cell? ⟨gb275, 0, none⟩ = some (.string (⟨#[]⟩ : ByteArray)) := (blk_cell BK275.out 0).trans rfl; have hcz8_1 : w7.cell? ⟨gb275, 1, none⟩ = some (.int .i64 0) := (blk_cell BK275.out 1).trans rfl; have hcz8_2 : w7.cell? ⟨gb275, 2, none⟩ = some (.int .i64 0) := (blk_cell BK275.out 2).trans rfl; have hcz8_3 : w7.cell? ⟨gb275, 3, none⟩ = some (.int .i64 0) := (blk_cell BK275.out 3).trans rfl; have hcz8_4 : w7.cell? ⟨gb275, 4, none⟩ = some (.int .i64 0) := (blk_cell BK275.out 4).trans rfl; have hcz8_5 : w7.cell? ⟨gb275, 5, none⟩ = some (.int .i64 0) := (blk_cell BK275.out 5).trans rfl; have hfz8_0 := blk_frozen BK275.out 0; have hfz8_1 := blk_frozen BK275.out 1; have hfz8_2 := blk_frozen BK275.out 2; have hfz8_3 := blk_frozen BK275.out 3; have hfz8_4 := blk_frozen BK275.out 4; have hfz8_5 := blk_frozen BK275.out 5) | (go_at_call 25; (with_reducible refine (asset_Check.calls k1 ((rd_T23 l0 x11_1).f0) ((rd_T23 l0 x11_1).f1) ((rd_T23 l0 x11_1).f2) ((rd_T23 l0 x11_1).f3) ((rd_T23 l0 x11_1).f4) ((rd_T23 l0 x11_1).f5) t276 _ A6.out).mono ?_); rintro e w9 ⟨rfl, hb⟩; have n0_ := Aside0.mk (blk_below (g := gb275) (o := .cells #[.string ((rd_T23 l0 x11_1).f0), .int .i64 ((rd_T23 l0 x11_1).f1), .int .i64 ((rd_T23 l0 x11_1).f2), .int .i64 ((rd_T23 l0 x11_1).f3), .int .i64 ((rd_T23 l0 x11_1).f4), .int .i64 ((rd_T23 l0 x11_1).f5)] 23 (0, 0)) (by (with_reducible repeat (first | refine blk_drewN ?_ _ | refine blk_drew ?_ | refine blk_alloc ?_ _)); refine blk_put (cs := #[.string ((rd_T23 l0 x11_1).f0), .int .i64 ((rd_T23 l0 x11_1).f1), .int .i64 ((rd_T23 l0 x11_1).f2), .int .i64 ((rd_T23 l0 x11_1).f3), .int .i64 ((rd_T23 l0 x11_1).f4), .int .i64 0]) ?_ 5 _ rfl; (with_reducible repeat (first | refine blk_drewN ?_ _ | refine blk_drew ?_ | refine blk_alloc ?_ _)); refine blk_put (cs := #[.string ((rd_T23 l0 x11_1).f0), .int .i64 ((rd_T23 l0 x11_1).f1), .int .i64 ((rd_T23 l0 x11_1).f2), .int .i64 ((rd_T23 l0 x11_1).f3), .int .i64 0, .int .i64 0]) ?_ 4 _ rfl; (with_reducible repeat (first | refine blk_drewN ?_ _ | refine blk_drew ?_ | refine blk_alloc ?_ _)); refine blk_put (cs := #[.string ((rd_T23 l0 x11_1).f0), .int .i64 ((rd_T23 l0 x11_1).f1), .int .i64 ((rd_T23 l0 x11_1).f2), .int .i64 0, .int .i64 0, .int .i64 0]) ?_ 3 _ rfl; (with_reducible repeat (first | refine blk_drewN ?_ _ | refine blk_drew ?_ | refine blk_alloc ?_ _)); refine blk_put (cs := #[.string ((rd_T23 l0 x11_1).f0), .int .i64 ((rd_T23 l0 x11_1).f1), .int .i64 0, .int .i64 0, .int .i64 0, .int .i64 0]) ?_ 2 _ rfl; (with_reducible repeat (first | refine blk_drewN ?_ _ | refine blk_drew ?_ | refine blk_alloc ?_ _)); refine blk_put (cs := #[.string ((rd_T23 l0 x11_1).f0), .int .i64 0, .int .i64 0, .int .i64 0, .int .i64 0, .int .i64 0]) ?_ 1 _ rfl; (with_reducible repeat (first | refine blk_drewN ?_ _ | refine blk_drew ?_ | refine blk_alloc ?_ _)); refine blk_put (cs := #[.string (⟨#[]⟩ : ByteArray), .int .i64 0, .int .i64 0, .int .i64 0, .int .i64 0, .int .i64 0]) ?_ 0 _ rfl; (with_reducible repeat (first | refine blk_drewN ?_ _ | refine blk_drew ?_ | refine blk_alloc ?_ _)); exact BK275.out) hb); have n1_ := Aside0.mk (below_step (by repeat (first | (with_reducible first | exact HB.out | apply below_alloc | apply pw_below_drewN | apply below_drew1 | refine below_set ?_ GE275.out) | exact HB.out)) hb); clear BK275; clear HB; have BK275 := n0_; have HB := n1_; clear n0_ n1_; (try clear hb); (try clear hb2); (try clear hk); (try clear hi)))
              repeat (go_quiet (first | ((with_reducible refine gate_dst (N := 4) rfl ?_); refine box_event ?hg (N := 4) ?hd (cs := #[.string (⟨#[]⟩ : ByteArray), .int .i64 0, .int .i64 0, .int .i64 0, .int .i64 0, .int .i64 0]) (t := 23) ?hr ?_; (case hd => rfl); (case hg => rfl); (case hr => first | (go_simp; done) | (go_simp; rfl)); intro gb275 hg w7 hbox hb; have n0_ := Aside0.mk (below_step (by repeat (first | (with_reducible first | exact HB.out | apply below_alloc | apply pw_below_drewN | apply below_drew1) | exact HB.out)) hb); have n1_ := Aside0.mk (hbox); have n2_ := Aside0.mk ((by rw [hg]; exact (below_size (by repeat (first | (with_reducible first | exact HB.out | apply below_alloc | apply pw_below_drewN | apply below_drew1) | exact HB.out))) : w.heap.size ≤ gb275)); have n3_ := Aside0.mk ((by rw [hg]; exact (below_size (by repeat (first | (with_reducible first | exact HB.out | apply below_alloc | apply pw_below_drewN | apply below_drew1) | exact HB.out))) : w.heap.size ≤ gb275)); clear HB; have HB := n0_; have BK275 := n1_; have GW275 := n2_; have GE275 := n3_; clear n0_ n1_ n2_ n3_; clear hb hbox hg; have hcz8_0 : w7.cell? ⟨gb275, 0, none⟩ = some (.string (⟨#[]⟩ : ByteArray)) := (blk_cell BK275.out 0).trans rfl; have hcz8_1 : w7.cell? ⟨gb275, 1, none⟩ = some (.int .i64 0) := (blk_cell BK275.out 1).trans rfl; have hcz8_2 : w7.cell? ⟨gb275, 2, none⟩ = some (.int .i64 0) := (blk_cell BK275.out 2).trans rfl; have hcz8_3 : w7.cell? ⟨gb275, 3, none⟩ = some (.int .i64 0) := (blk_cell BK275.out 3).trans rfl; have hcz8_4 : w7.cell? ⟨gb275, 4, none⟩ = some (.int .i64 0) := (blk_cell BK275.out 4).trans rfl; have hcz8_5 : w7.cell? ⟨gb275, 5, none⟩ = some (.int .i64 0) := (blk_cell BK275.out 5).trans rfl; have hfz8_0 := blk_frozen BK275.out 0; have hfz8_1 := blk_frozen BK275.out 1; have hfz8_2 := blk_frozen BK275.out 2; have hfz8_3 := blk_frozen BK275.out 3; have hfz8_4 := blk_frozen BK275.out 4; have hfz8_5 := blk_frozen BK275.out 5) | (go_at_call 25; (with_reducible refine (asset_Check.calls k1 ((rd_T23 l0 x11_1).f0) ((rd_T23 l0 x11_1).f1) ((rd_T23 l0 x11_1).f2) ((rd_T23 l0 x11_1).f3) ((rd_T23 l0 x11_1).f4) ((rd_T23 l0 x11_1).f5) t276 _ A6.out).mono ?_); rintro e w9 ⟨rfl, hb⟩; have n0_ := Aside0.mk (blk_below (g := gb275) (o := .cells #[.string ((rd_T23 l0 x11_1).f0), .int .i64 ((rd_T23 l0 x11_1).f1), .int .i64 ((rd_T23 l0 x11_1).f2), .int .i64 ((rd_T23 l0 x11_1).f3), .int .i64 ((rd_T23 l0 x11_1).f4), .int .i64 ((rd_T23 l0 x11_1).f5)] 23 (0, 0)) (by (with_reducible repeat (first | refine blk_drewN ?_ _ | refine blk_drew ?_ | refine blk_alloc ?_ _)); refine blk_put (cs := #[.string ((rd_T23 l0 x11_1).f0), .int .i64 ((rd_T23 l0 x11_1).f1), .int .i64 ((rd_T23 l0 x11_1).f2), .int .i64 ((rd_T23 l0 x11_1).f3), .int .i64 ((rd_T23 l0 x11_1).f4), .int .i64 0]) ?_ 5 _ rfl; (with_reducible repeat (first | refine blk_drewN ?_ _ | refine blk_drew ?_ | refine blk_alloc ?_ _)); refine blk_put (cs := #[.string ((rd_T23 l0 x11_1).f0), .int .i64 ((rd_T23 l0 x11_1).f1), .int .i64 ((rd_T23 l0 x11_1).f2), .int .i64 ((rd_T23 l0 x11_1).f3), .int .i64 0, .int .i64 0]) ?_ 4 _ rfl; (with_reducible repeat (first | refine blk_drewN ?_ _ | refine blk_drew ?_ | refine blk_alloc ?_ _)); refine blk_put (cs := #[.string ((rd_T23 l0 x11_1).f0), .int .i64 ((rd_T23 l0 x11_1).f1), .int .i64 ((rd_T23 l0 x11_1).f2), .int .i64 0, .int .i64 0, .int .i64 0]) ?_ 3 _ rfl; (with_reducible repeat (first | refine blk_drewN ?_ _ | refine blk_drew ?_ | refine blk_alloc ?_ _)); refine blk_put (cs := #[.string ((rd_T23 l0 x11_1).f0), .int .i64 ((rd_T23 l0 x11_1).f1), .int .i64 0, .int .i64 0, .int .i64 0, .int .i64 0]) ?_ 2 _ rfl; (with_reducible repeat (first | refine blk_drewN ?_ _ | refine blk_drew ?_ | refine blk_alloc ?_ _)); refine blk_put (cs := #[.string ((rd_T23 l0 x11_1).f0), .int .i64 0, .int .i64 0, .int .i64 0, .int .i64 0, .int .i64 0]) ?_ 1 _ rfl; (with_reducible repeat (first | refine blk_drewN ?_ _ | refine blk_drew ?_ | refine blk_alloc ?_ _)); refine blk_put (cs := #[.string (⟨#[]⟩ : ByteArray), .int .i64 0, .int .i64 0, .int .i64 0, .int .i64 0, .int .i64 0]) ?_ 0 _ rfl; (with_reducible repeat (first | refine blk_drewN ?_ _ | refine blk_drew ?_ | refine blk_alloc ?_ _)); exact BK275.out) hb); have n1_ := Aside0.mk (below_step (by repeat (first | (with_reducible first | exact HB.out | apply below_alloc | apply pw_below_drewN | apply below_drew1 | refine below_set ?_ GE275.out) | exact HB.out)) hb); clear BK275; clear HB; have BK275 := n0_; have HB := n1_; clear n0_ n1_; (try clear hb); (try clear hb2); (try clear hk); (try clear hi))); go_upto_if 19 with (first | ((with_reducible refine gate_dst (N := 4) rfl ?_); refine box_event ?hg (N := 4) ?hd (cs := #[.string (⟨#[]⟩ : ByteArray), .int .i64 0, .int .i64 0, .int .i64 0, .int .i64 0, .int .i64 0]) (t := 23) ?hr ?_; (case hd => rfl); (case hg => rfl); (case hr => first | (go_simp; done) | (go_simp; rfl)); intro gb275 hg w7 hbox hb; have n0_ := Aside0.mk (below_step (by repeat (first | (with_reducible first | exact HB.out | apply below_alloc | apply pw_below_drewN | apply below_drew1) | exact HB.out)) hb); have n1_ := Aside0.mk (hbox); have n2_ := Aside0.mk ((by rw [hg]; exact (below_size (by repeat (first | (with_reducible first | exact HB.out | apply below_alloc | apply pw_below_drewN | apply below_drew1) | exact HB.out))) : w.heap.size ≤ gb275)); have n3_ := Aside0.mk ((by rw [hg]; exact (below_size (by repeat (first | (with_reducible first | exact HB.out | apply below_alloc | apply pw_below_drewN | apply below_drew1) | exact HB.out))) : w.heap.size ≤ gb275)); clear HB; have HB := n0_; have BK275 := n1_; have GW275 := n2_; have GE275 := n3_; clear n0_ n1_ n2_ n3_; clear hb hbox hg; have hcz8_0 : w7.cell? ⟨gb275, 0, none⟩ = some (.string (⟨#[]⟩ : ByteArray)) := (blk_cell BK275.out 0).trans rfl; have hcz8_1 : w7.cell? ⟨gb275, 1, none⟩ = some (.int .i64 0) := (blk_cell BK275.out 1).trans rfl; have hcz8_2 : w7.cell? ⟨gb275, 2, none⟩ = some (.int .i64 0) := (blk_cell BK275.out 2).trans rfl; have hcz8_3 : w7.cell? ⟨gb275, 3, none⟩ = some (.int .i64 0) := (blk_cell BK275.out 3).trans rfl; have hcz8_4 : w7.cell? ⟨gb275, 4, none⟩ = some (.int .i64 0) := (blk_cell BK275.out 4).trans rfl; have hcz8_5 : w7.cell? ⟨gb275, 5, none⟩ = some (.int .i64 0) := (blk_cell BK275.out 5).trans rfl; have hfz8_0 := blk_frozen BK275.out 0; have hfz8_1 := blk_frozen BK275.out 1; have hfz8_2 := blk_frozen BK275.out 2; have hfz8_3 := blk_frozen BK275.out 3; have hfz8_4 := blk_frozen BK275.out 4; have hfz8_5 := blk_frozen BK275.out 5) | (go_at_call 25; (with_reducible refine (asset_Check.calls k1 ((rd_T23 l0 x11_1).f0) ((rd_T23 l0 x11_1).f1) ((rd_T23 l0 x11_1).f2) ((rd_T23 l0 x11_1).f3) ((rd_T23 l0 x11_1).f4) ((rd_T23 l0 x11_1).f5) t276 _ A6.out).mono ?_); rintro e w9 ⟨rfl, hb⟩; have n0_ := Aside0.mk (blk_below (g := gb275) (o := .cells #[.string ((rd_T23 l0 x11_1).f0), .int .i64 ((rd_T23 l0 x11_1).f1), .int .i64 ((rd_T23 l0 x11_1).f2), .int .i64 ((rd_T23 l0 x11_1).f3), .int .i64 ((rd_T23 l0 x11_1).f4), .int .i64 ((rd_T23 l0 x11_1).f5)] 23 (0, 0)) (by (with_reducible repeat (first | refine blk_drewN ?_ _ | refine blk_drew ?_ | refine blk_alloc ?_ _)); refine blk_put (cs := #[.string ((rd_T23 l0 x11_1).f0), .int .i64 ((rd_T23 l0 x11_1).f1), .int .i64 ((rd_T23 l0 x11_1).f2), .int .i64 ((rd_T23 l0 x11_1).f3), .int .i64 ((rd_T23 l0 x11_1).f4), .int .i64 0]) ?_ 5 _ rfl; (with_reducible repeat (first | refine blk_drewN ?_ _ | refine blk_drew ?_ | refine blk_alloc ?_ _)); refine blk_put (cs := #[.string ((rd_T23 l0 x11_1).f0), .int .i64 ((rd_T23 l0 x11_1).f1), .int .i64 ((rd_T23 l0 x11_1).f2), .int .i64 ((rd_T23 l0 x11_1).f3), .int .i64 0, .int .i64 0]) ?_ 4 _ rfl; (with_reducible repeat (first | refine blk_drewN ?_ _ | refine blk_drew ?_ | refine blk_alloc ?_ _)); refine blk_put (cs := #[.string ((rd_T23 l0 x11_1).f0), .int .i64 ((rd_T23 l0 x11_1).f1), .int .i64 ((rd_T23 l0 x11_1).f2), .int .i64 0, .int .i64 0, .int .i64 0]) ?_ 3 _ rfl; (with_reducible repeat (first | refine blk_drewN ?_ _ | refine blk_drew ?_ | refine blk_alloc ?_ _)); refine blk_put (cs := #[.string ((rd_T23 l0 x11_1).f0), .int .i64 ((rd_T23 l0 x11_1).f1), .int .i64 0, .int .i64 0, .int .i64 0, .int .i64 0]) ?_ 2 _ rfl; (with_reducible repeat (first | refine blk_drewN ?_ _ | refine blk_drew ?_ | refine blk_alloc ?_ _)); refine blk_put (cs := #[.string ((rd_T23 l0 x11_1).f0), .int .i64 0, .int .i64 0, .int .i64 0, .int .i64 0, .int .i64 0]) ?_ 1 _ rfl; (with_reducible repeat (first | refine blk_drewN ?_ _ | refine blk_drew ?_ | refine blk_alloc ?_ _)); refine blk_put (cs := #[.string (⟨#[]⟩ : ByteArray), .int .i64 0, .int .i64 0, .int .i64 0, .int .i64 0, .int .i64 0]) ?_ 0 _ rfl; (with_reducible repeat (first | refine blk_drewN ?_ _ | refine blk_drew ?_ | refine blk_alloc ?_ _)); exact BK275.out) hb); have n1_ := Aside0.mk (below_step (by repeat (first | (with_reducible first | exact HB.out | apply below_alloc | apply pw_below_drewN | apply below_drew1 | refine below_set ?_ GE275.out) | exact HB.out)) hb); clear BK275; clear HB; have BK275 := n0_; have HB := n1_; clear n0_ n1_; (try clear hb); (try clear hb2); (try clear hk); (try clear hi))))
              (try simp only [Act.put, List.setIfInBounds_toArray, List.set_cons_zero, List.set_cons_succ])
              by_cases c10 : t276 = 0
              · rw [if_pos c10] at H
                have c10b0 : (t276 == 0) = true := beq_iff_eq.mpr c10
                have c10b1 : (t276 != 0) = false := bne_eq_false_iff_eq.mpr c10
                clear c10
                (try simp only [c10b0, c10b1])
                by_cases c11 : x11_1 > 0
                · rw [if_pos c11] at H
                  have c11b0 : decide (0 < x11_1) = true := decide_eq_true c11
                  clear c11
                  obtain ⟨ji12, hji12⟩ : ∃ j_ : Int, (wrap64 (x11_1 - 1)) = j_ := ⟨_, rfl⟩
                  replace H : (if 0 ≤ (ji12) then (if (ji12) < (l0.length : Int) then (if (Op.bytesLess (((rd_T23 l0 x11_1).f0).toList) (((rd_T23 l0 (ji12)).f0).toList)) = true then (some 12) else (if (((rd_T23 l0 x11_1).f0).toList) = (((rd_T23 l0 (ji12)).f0).toList) then (some 12) else (asset_CheckAll.l0 k1 l0 l0 (l0.length : Int) (wrap64 (x11_1 + 1))))) else (none)) else (none)) = some r := by first | (rw [hji12] at H; exact H) | (simp only [hji12] at H ⊢; exact H)
                  have hji12w : (IntKind.i64.wrap (x11_1 - 1)) = ji12 := (i64_w _).trans hji12
                  by_cases c13 : 0 ≤ (ji12)
                  · rw [if_pos c13] at H
                    have c13b0 : decide (0 ≤ (ji12)) = true := decide_eq_true c13
                    clear c13
                    by_cases c14 : (ji12) < (l0.length : Int)
                    · rw [if_pos c14] at H
                      have c14b0 : decide ((ji12) < (l0.length : Int)) = true := decide_eq_true c14
                      clear c14
                      by_cases c15 : (Op.bytesLess (((rd_T23 l0 x11_1).f0).toList) (((rd_T23 l0 (ji12)).f0).toList)) = true
                      · rw [if_pos c15] at H
                        have c15b0 : (Op.bytesLess (((rd_T23 l0 x11_1).f0).toList) (((rd_T23 l0 (ji12)).f0).toList)) = true := c15
                        clear c15
                        obtain rfl := Option.some.inj H
                        have hcz16_0 : w9.cell? ⟨gb275, 0, none⟩ = some (.string ((rd_T23 l0 x11_1).f0)) := (blk_cell BK275.out 0).trans rfl
                        have hcz16_1 : w9.cell? ⟨gb275, 1, none⟩ = some (.int .i64 ((rd_T23 l0 x11_1).f1)) := (blk_cell BK275.out 1).trans rfl
                        have hcz16_2 : w9.cell? ⟨gb275, 2, none⟩ = some (.int .i64 ((rd_T23 l0 x11_1).f2)) := (blk_cell BK275.out 2).trans rfl
                        have hcz16_3 : w9.cell? ⟨gb275, 3, none⟩ = some (.int .i64 ((rd_T23 l0 x11_1).f3)) := (blk_cell BK275.out 3).trans rfl
                        have hcz16_4 : w9.cell? ⟨gb275, 4, none⟩ = some (.int .i64 ((rd_T23 l0 x11_1).f4)) := (blk_cell BK275.out 4).trans rfl
                        have hcz16_5 : w9.cell? ⟨gb275, 5, none⟩ = some (.int .i64 ((rd_T23 l0 x11_1).f5)) := (blk_cell BK275.out 5).trans rfl
                        have hfz16_0 := blk_frozen BK275.out 0
                        have hfz16_1 := blk_frozen BK275.out 1
                        have hfz16_2 := blk_frozen BK275.out 2
                        have hfz16_3 := blk_frozen BK275.out 3
                        have hfz16_4 := blk_frozen BK275.out 4
                        have hfz16_5 := blk_frozen BK275.out 5
                        have p277 : 0 ≤ ((ji12) : Int) := of_decide_eq_true (by first | (with_reducible assumption) | assumption)
                        have q277 : (ji12) < (l0.length : Int) := of_decide_eq_true (by first | (with_reducible assumption) | assumption)
                        obtain ⟨ad277, e277, hx277_0, hx277_1, hx277_2, hx277_3, hx277_4, hx277_5⟩ := at_T23 HR0.out (ji12) p277 q277
                        obtain rfl : ad274 = ad277 := (by injection e277)
                        replace hx277_0 := (HB.out.cell (World.block_lt_of_cell? w _ hx277_0)).trans hx277_0
                        replace hx277_1 := (HB.out.cell (World.block_lt_of_cell? w _ hx277_1)).trans hx277_1
                        replace hx277_2 := (HB.out.cell (World.block_lt_of_cell? w _ hx277_2)).trans hx277_2
                        replace hx277_3 := (HB.out.cell (World.block_lt_of_cell? w _ hx277_3)).trans hx277_3
                        replace hx277_4 := (HB.out.cell (World.block_lt_of_cell? w _ hx277_4)).trans hx277_4
                        replace hx277_5 := (HB.out.cell (World.block_lt_of_cell? w _ hx277_5)).trans hx277_5
                        replace p277 := eq_true p277
                        replace q277 := eq_true q277
                        go_wp2
                        repeat (go_quiet (fail); try go_wp2)
                        go_ret
                        exact ⟨by first | rfl | (simp [errW_none, errW_some] <;> rfl) | (simp only [← hji12]; first | rfl | (simp [errW_none, errW_some] <;> rfl)) | (simp [*, errW_none, errW_some] <;> rfl), by repeat (first | (with_reducible first | exact HB.out | apply below_alloc | apply pw_below_drewN | apply below_drew1 | refine below_set ?_ GE275.out) | exact HB.out)⟩
                      · rw [if_neg c15] at H
                        have c15b0 : (Op.bytesLess (((rd_T23 l0 x11_1).f0).toList) (((rd_T23 l0 (ji12)).f0).toList)) = false := by simpa using c15
                        clear c15
                        by_cases c17 : (((rd_T23 l0 x11_1).f0).toList) = (((rd_T23 l0 (ji12)).f0).toList)
                        · rw [if_pos c17] at H
                          have c17b0 : ((((rd_T23 l0 x11_1).f0).toList) == (((rd_T23 l0 (ji12)).f0).toList)) = true := beq_iff_eq.mpr c17
                          have c17b1 : ((((rd_T23 l0 x11_1).f0).toList) != (((rd_T23 l0 (ji12)).f0).toList)) = false := bne_eq_false_iff_eq.mpr c17
                          clear c17
                          obtain rfl := Option.some.inj H
                          have hcz18_0 : w9.cell? ⟨gb275, 0, none⟩ = some (.string ((rd_T23 l0 x11_1).f0)) := (blk_cell BK275.out 0).trans rfl
                          have hcz18_1 : w9.cell? ⟨gb275, 1, none⟩ = some (.int .i64 ((rd_T23 l0 x11_1).f1)) := (blk_cell BK275.out 1).trans rfl
                          have hcz18_2 : w9.cell? ⟨gb275, 2, none⟩ = some (.int .i64 ((rd_T23 l0 x11_1).f2)) := (blk_cell BK275.out 2).trans rfl
                          have hcz18_3 : w9.cell? ⟨gb275, 3, none⟩ = some (.int .i64 ((rd_T23 l0 x11_1).f3)) := (blk_cell BK275.out 3).trans rfl
                          have hcz18_4 : w9.cell? ⟨gb275, 4, none⟩ = some (.int .i64 ((rd_T23 l0 x11_1).f4)) := (blk_cell BK275.out 4).trans rfl
                          have hcz18_5 : w9.cell? ⟨gb275, 5, none⟩ = some (.int .i64 ((rd_T23 l0 x11_1).f5)) := (blk_cell BK275.out 5).trans rfl
                          have hfz18_0 := blk_frozen BK275.out 0
                          have hfz18_1 := blk_frozen BK275.out 1
                          have hfz18_2 := blk_frozen BK275.out 2
                          have hfz18_3 := blk_frozen BK275.out 3
                          have hfz18_4 := blk_frozen BK275.out 4
                          have hfz18_5 := blk_frozen BK275.out 5
                          have p277 : 0 ≤ ((ji12) : Int) := of_decide_eq_true (by first | (with_reducible assumption) | assumption)
                          have q277 : (ji12) < (l0.length : Int) := of_decide_eq_true (by first | (with_reducible assumption) | assumption)
                          obtain ⟨ad277, e277, hx277_0, hx277_1, hx277_2, hx277_3, hx277_4, hx277_5⟩ := at_T23 HR0.out (ji12) p277 q277
                          obtain rfl : ad274 = ad277 := (by injection e277)
                          replace hx277_0 := (HB.out.cell (World.block_lt_of_cell? w _ hx277_0)).trans hx277_0
                          replace hx277_1 := (HB.out.cell (World.block_lt_of_cell? w _ hx277_1)).trans hx277_1
                          replace hx277_2 := (HB.out.cell (World.block_lt_of_cell? w _ hx277_2)).trans hx277_2
                          replace hx277_3 := (HB.out.cell (World.block_lt_of_cell? w _ hx277_3)).trans hx277_3
                          replace hx277_4 := (HB.out.cell (World.block_lt_of_cell? w _ hx277_4)).trans hx277_4
                          replace hx277_5 := (HB.out.cell (World.block_lt_of_cell? w _ hx277_5)).trans hx277_5
                          replace p277 := eq_true p277
                          replace q277 := eq_true q277
                          go_wp2
                          repeat (go_quiet (fail); try go_wp2)
                          go_ret
                          exact ⟨by first | rfl | (simp [errW_none, errW_some] <;> rfl) | (simp only [← hji12]; first | rfl | (simp [errW_none, errW_some] <;> rfl)) | (simp [*, errW_none, errW_some] <;> rfl), by repeat (first | (with_reducible first | exact HB.out | apply below_alloc | apply pw_below_drewN | apply below_drew1 | refine below_set ?_ GE275.out) | exact HB.out)⟩
                        · rw [if_neg c17] at H
                          have c17b0 : ((((rd_T23 l0 x11_1).f0).toList) == (((rd_T23 l0 (ji12)).f0).toList)) = false := beq_eq_false_iff_ne.mpr c17
                          have c17b1 : ((((rd_T23 l0 x11_1).f0).toList) != (((rd_T23 l0 (ji12)).f0).toList)) = true := bne_iff_ne.mpr c17
                          have H' := Aside0.mk H
                          clear H
                          have hcz19_0 : w9.cell? ⟨gb275, 0, none⟩ = some (.string ((rd_T23 l0 x11_1).f0)) := (blk_cell BK275.out 0).trans rfl
                          have hcz19_1 : w9.cell? ⟨gb275, 1, none⟩ = some (.int .i64 ((rd_T23 l0 x11_1).f1)) := (blk_cell BK275.out 1).trans rfl
                          have hcz19_2 : w9.cell? ⟨gb275, 2, none⟩ = some (.int .i64 ((rd_T23 l0 x11_1).f2)) := (blk_cell BK275.out 2).trans rfl
                          have hcz19_3 : w9.cell? ⟨gb275, 3, none⟩ = some (.int .i64 ((rd_T23 l0 x11_1).f3)) := (blk_cell BK275.out 3).trans rfl
                          have hcz19_4 : w9.cell? ⟨gb275, 4, none⟩ = some (.int .i64 ((rd_T23 l0 x11_1).f4)) := (blk_cell BK275.out 4).trans rfl
                          have hcz19_5 : w9.cell? ⟨gb275, 5, none⟩ = some (.int .i64 ((rd_T23 l0 x11_1).f5)) := (blk_cell BK275.out 5).trans rfl
                          have hfz19_0 := blk_frozen BK275.out 0
                          have hfz19_1 := blk_frozen BK275.out 1
                          have hfz19_2 := blk_frozen BK275.out 2
                          have hfz19_3 := blk_frozen BK275.out 3
                          have hfz19_4 := blk_frozen BK275.out 4
                          have hfz19_5 := blk_frozen BK275.out 5
                          have p277 : 0 ≤ ((ji12) : Int) := of_decide_eq_true (by first | (with_reducible assumption) | assumption)
                          have q277 : (ji12) < (l0.length : Int) := of_decide_eq_true (by first | (with_reducible assumption) | assumption)
                          obtain ⟨ad277, e277, hx277_0, hx277_1, hx277_2, hx277_3, hx277_4, hx277_5⟩ := at_T23 HR0.out (ji12) p277 q277
                          obtain rfl : ad274 = ad277 := (by injection e277)
                          replace hx277_0 := (HB.out.cell (World.block_lt_of_cell? w _ hx277_0)).trans hx277_0
                          replace hx277_1 := (HB.out.cell (World.block_lt_of_cell? w _ hx277_1)).trans hx277_1
                          replace hx277_2 := (HB.out.cell (World.block_lt_of_cell? w _ hx277_2)).trans hx277_2
                          replace hx277_3 := (HB.out.cell (World.block_lt_of_cell? w _ hx277_3)).trans hx277_3
                          replace hx277_4 := (HB.out.cell (World.block_lt_of_cell? w _ hx277_4)).trans hx277_4
                          replace hx277_5 := (HB.out.cell (World.block_lt_of_cell? w _ hx277_5)).trans hx277_5
                          replace p277 := eq_true p277
                          replace q277 := eq_true q277
                          go_wp2
                          repeat (go_quiet (fail); try go_wp2)
                          go_roundg k1
                          case measure => have := HK1.out; omega
                          case rel => exact ⟨(wrap64 (x11_1 + 1)), (by first | rfl | (simp; done) | (simp [*]; done)), H', ⟨by have := HK1.out; omega⟩, ⟨by repeat (first | (with_reducible first | exact HB.out | apply below_alloc | apply pw_below_drewN | apply below_drew1 | refine below_set ?_ GE275.out) | exact HB.out)⟩⟩
                    · rw [if_neg c14] at H
                      exact absurd H (by simp)
                  · rw [if_neg c13] at H
                    exact absurd H (by simp)
                · rw [if_neg c11] at H
                  have c11b0 : decide (0 < x11_1) = false := decide_eq_false c11
                  clear c11
                  have H' := Aside0.mk H
                  clear H
                  go_wp2
                  repeat (go_quiet (fail); try go_wp2)
                  go_roundg k1
                  case measure => have := HK1.out; omega
                  case rel => exact ⟨(wrap64 (x11_1 + 1)), (by first | rfl | (simp; done) | (simp [*]; done)), H', ⟨by have := HK1.out; omega⟩, ⟨by repeat (first | (with_reducible first | exact HB.out | apply below_alloc | apply pw_below_drewN | apply below_drew1 | refine below_set ?_ GE275.out) | exact HB.out)⟩⟩
              · rw [if_neg c10] at H
                have c10b0 : (t276 == 0) = false := beq_eq_false_iff_ne.mpr c10
                have c10b1 : (t276 != 0) = true := bne_iff_ne.mpr c10
                (try simp only [c10b0, c10b1])
                obtain rfl := Option.some.inj H
                go_wp2
                repeat (go_quiet (fail); try go_wp2)
                go_ret
                exact ⟨by first | rfl | (simp [errW_none, errW_some] <;> rfl) | (simp [*, errW_none, errW_some] <;> rfl), by repeat (first | (with_reducible first | exact HB.out | apply below_alloc | apply pw_below_drewN | apply below_drew1 | refine below_set ?_ GE275.out) | exact HB.out)⟩
            · rw [if_neg c5] at H
              exact absurd H (by simp)
          · rw [if_neg c4] at H
            exact absurd H (by simp)
        · rw [if_neg c3] at H
          have c3b0 : decide (x11_1 < (l0.length : Int)) = false := decide_eq_false c3
          clear c3
          (try simp only [c3b0])
          obtain rfl := Option.some.inj H
          go_wp2
          repeat (go_quiet (fail); try go_wp2)
          go_ret
          exact ⟨by first | rfl | (simp [errW_none, errW_some] <;> rfl) | (simp [*, errW_none, errW_some] <;> rfl), by repeat (first | (with_reducible first | exact HB.out | apply below_alloc | apply pw_below_drewN | apply below_drew1) | exact HB.out)⟩
end Go.Proofs.Ytaiekjimdjlgbaa.Pr
