/- Functions' values and contracts, as the print wrote them. -/
import Derived.Test.YtaiekjimdjlgbaaQ2BBP0
import Derived.Test.YtaiekjimdjlgbaaQ2BBP2
import Derived.Test.YtaiekjimdjlgbaaQ2BBP1
namespace Go.Proofs.Ytaiekjimdjlgbaa.Pr
open Go.RowKit Go.Proofs.YtaiekjimdjlgbaaW.PrintWords Go.Proofs.YtaiekjimdjlgbaaW.PrintLast Go.Proofs.YtaiekjimdjlgbaaW.PrintMore
attribute [local go_sem] max2_int min2_int max_two min_two max_three min_three max_four min_four   -- for this text's walks alone
set_option linter.unusedVariables false
set_option linter.unusedSimpArgs false
def contangoref28_Largest.l0 : Nat → List (S109) → Int → Int → ByteArray → Int → Int → Int → Option (Int × ByteArray × Int × Int × Int × Int)
  | 0, _, _, _, _, _, _, _ => none
  | k + 1, x0, x6, x8, x429000, x429001, x429002, x429003 => if x8 < (x0.length : Int) then (if 0 ≤ x8 then ((contangoref15_Net.f ((rd_T109 x0 x8).f0.f0) ((rd_T109 x0 x8).f0.f1) ((rd_T109 x0 x8).f0.f2) ((rd_T109 x0 x8).f0.f3) ((rd_T109 x0 x8).f1) ((rd_T109 x0 x8).f2)).bind fun t430 => ((contangoref15_Net.f ((rd_T109 x0 x8).f0.f0) ((rd_T109 x0 x8).f0.f1) ((rd_T109 x0 x8).f0.f2) ((rd_T109 x0 x8).f0.f3) ((rd_T109 x0 x8).f1) ((rd_T109 x0 x8).f2)).bind fun t432 => (if (mx t430 (wrap64 (-t432))) > x6 then (contangoref28_Largest.l0 k x0 (mx t430 (wrap64 (-t432))) (wrap64 (x8 + 1)) ((rd_T109 x0 x8).f0.f0) ((rd_T109 x0 x8).f0.f1) ((rd_T109 x0 x8).f0.f2) ((rd_T109 x0 x8).f0.f3)) else (contangoref28_Largest.l0 k x0 x6 (wrap64 (x8 + 1)) x429000 x429001 x429002 x429003)))) else (none)) else (some (x6, x429000, x429001, x429002, x429003, 0))
def contangoref28_Largest.f (k : Nat) (l0 : List (S109)) : Option (Int × ByteArray × Int × Int × Int × Int) := (contangoref15_Check.f k l0).bind fun t427 => (if t427 = 0 then (if (l0.length : Int) = 0 then (some (0, (⟨#[]⟩ : ByteArray), 0, 0, 0, 11)) else (contangoref28_Largest.l0 k l0 (-1) 0 (⟨#[]⟩ : ByteArray) 0 0 0)) else (some (0, (⟨#[]⟩ : ByteArray), 0, 0, 0, t427)))
theorem contangoref28_Largest.mono_l : ∀ k, (∀ y0 y1 y2 y3 y4 y5 y6, LeO (contangoref28_Largest.l0 k y0 y1 y2 y3 y4 y5 y6) (contangoref28_Largest.l0 (k + 1) y0 y1 y2 y3 y4 y5 y6))
  | 0 => fun _ _ _ _ _ _ _ r h => by simp [contangoref28_Largest.l0] at h
  | k + 1 => by
    have ih0 := contangoref28_Largest.mono_l k
    · intro y0 y1 y2 y3 y4 y5 y6
      unfold contangoref28_Largest.l0
      repeat' first
      | (with_reducible exact ih0 _ _ _ _ _ _ _)
      | (with_reducible exact contangoref15_Check.mono _ _)
      | (with_reducible exact LeO.refl _)
      | (with_reducible exact LeO.none _)
      | (with_reducible refine LeO.ite ?_ ?_)
      | (with_reducible refine LeO.bind ?_ (fun _ => ?_))
      | exact ih0 _ _ _ _ _ _ _
      | exact contangoref15_Check.mono _ _
      | exact LeO.none _
      | refine LeO.ite ?_ ?_
      | refine LeO.bind ?_ (fun _ => ?_)
theorem contangoref28_Largest.mono : ∀ a0 k, LeO (contangoref28_Largest.f k a0) (contangoref28_Largest.f (k + 1) a0) := by
  intro a0 k
  have ih0 := contangoref28_Largest.mono_l k
  unfold contangoref28_Largest.f
  repeat' first
      | (with_reducible exact ih0 _ _ _ _ _ _ _)
      | (with_reducible exact contangoref15_Check.mono _ _)
      | (with_reducible exact LeO.refl _)
      | (with_reducible exact LeO.none _)
      | (with_reducible refine LeO.ite ?_ ?_)
      | (with_reducible refine LeO.bind ?_ (fun _ => ?_))
      | exact ih0 _ _ _ _ _ _ _
      | exact contangoref15_Check.mono _ _
      | exact LeO.none _
      | refine LeO.ite ?_ ?_
      | refine LeO.bind ?_ (fun _ => ?_)
def contangoref28_Largest.T10 : Bool × List (List Nat × List Nat) := (true, [([], []), ([], []), ([0, 1], [0, 1]), ([2], [2]), ([3], [3]), ([], []), ([], []), ([5, 6], [5, 6]), ([7], [7]), ([8, 4], [8]), ([9], [9]), ([4, 10], [4, 10]), ([11, 9, 0, 1, 2, 3, 4, 5, 6, 7, 8, 9, 10, 11], [11])])
def contangoref28_Largest.B10 : List Nat := [0, 0, 3, 7, 15, 0, 0, 96, 224, 511, 1023, 2047, 4095]
theorem contangoref28_Largest.tab10 : rtab .any (opsOf Try.f38 10) = contangoref28_Largest.T10 := by kernel_rfl
theorem contangoref28_Largest.bits10 : waitsOk contangoref28_Largest.T10.2 contangoref28_Largest.B10 = true := by kernel_rfl
def contangoref28_Largest.T12 : Bool × List (List Nat × List Nat) := (true, [([], []), ([], []), ([], []), ([1, 2], [1, 2]), ([3], [3]), ([4], [4]), ([0, 0], [0]), ([5, 6, 0, 1, 2, 3, 4, 5, 6], [5])])
def contangoref28_Largest.B12 : List Nat := [0, 0, 0, 6, 14, 30, 1, 127]
theorem contangoref28_Largest.tab12 : rtab .any (opsOf Try.f38 12) = contangoref28_Largest.T12 := by kernel_rfl
theorem contangoref28_Largest.bits12 : waitsOk contangoref28_Largest.T12.2 contangoref28_Largest.B12 = true := by kernel_rfl
set_option maxHeartbeats 8000000 in
set_option maxRecDepth 100000 in
theorem contangoref28_Largest.calls (k : Nat) (A0 : Option Addr) (c0 : Nat) (l0 : List (S109)) (r1 : Int) (r2 : ByteArray) (r3 : Int) (r4 : Int) (r5 : Int) (r6 : Int) (w : World) (hr0 : Kd.C k109 w A0 l0.length l0) (hc0 : l0.length ≤ c0) (h : contangoref28_Largest.f k l0 = some (r1, r2, r3, r4, r5, r6)) :
    Calls Try.prog 38 #[.slice A0 l0.length c0] w fun e w' => e = .returned (.tuple #[.int .i64 r1, .agg #[.string r2, .int .i64 r3, .int .i64 r4, .int .i64 r5], .int .i64 r6]) ∧ Below w.heap.size w w' := by
  have hu58 := Try.underlying58
  have hu109 := Try.underlying109
  have HR0 := Aside0.mk hr0
  have HC0 := Aside0.mk hc0
  clear hr0 hc0
  have HB := Aside0.mk (Below.refl w.heap.size w)
  have H : ((contangoref15_Check.f k l0).bind fun t427 => (if t427 = 0 then (if (l0.length : Int) = 0 then (some (0, (⟨#[]⟩ : ByteArray), 0, 0, 0, 11)) else (contangoref28_Largest.l0 k l0 (-1) 0 (⟨#[]⟩ : ByteArray) 0 0 0)) else (some (0, (⟨#[]⟩ : ByteArray), 0, 0, 0, t427)))) = some (r1, r2, r3, r4, r5, r6) := h
  clear h
  replace H := Option.bind_eq_some_iff.mp H
  obtain ⟨t427, A20, H⟩ := H
  replace H : (if t427 = 0 then (if (l0.length : Int) = 0 then (some (0, (⟨#[]⟩ : ByteArray), 0, 0, 0, 11)) else (contangoref28_Largest.l0 k l0 (-1) 0 (⟨#[]⟩ : ByteArray) 0 0 0)) else (some (0, (⟨#[]⟩ : ByteArray), 0, 0, 0, t427))) = some (r1, r2, r3, r4, r5, r6) := H
  have A2 := Aside0.mk A20
  clear A20
  go_enter Try.func38, Try.ntmps38
  go_upto_if 13 with (first | ((with_reducible refine gate_dst (N := 3) rfl ?_); refine box_event ?hg (N := 3) ?hd (cs := #[.string (⟨#[]⟩ : ByteArray), .int .i64 0, .int .i64 0, .int .i64 0]) (t := 58) ?hr ?_; (case hd => rfl); (case hg => rfl); (case hr => first | (go_simp; done) | (go_simp; rfl)); intro gb426 hg w3 hbox hb; have n0_ := Aside0.mk (below_step (by repeat (first | (with_reducible first | exact HB.out | apply below_alloc | apply pw_below_drewN | apply below_drew1) | exact HB.out)) hb); have n1_ := Aside0.mk (hbox); have n2_ := Aside0.mk ((by rw [hg]; exact (below_size (by repeat (first | (with_reducible first | exact HB.out | apply below_alloc | apply pw_below_drewN | apply below_drew1) | exact HB.out))) : w.heap.size ≤ gb426)); have n3_ := Aside0.mk ((by rw [hg]; exact (below_size (by repeat (first | (with_reducible first | exact HB.out | apply below_alloc | apply pw_below_drewN | apply below_drew1) | exact HB.out))) : w.heap.size ≤ gb426)); clear HB; have HB := n0_; have BK426 := n1_; have GW426 := n2_; have GE426 := n3_; clear n0_ n1_ n2_ n3_; clear hb hbox hg) | ((with_reducible refine gate_callee (f := 73) rfl ?_); refine goesL_ (some 11) rfl rfl Try.func73 (by kernel_rfl) rfl #[.slice A0 l0.length c0] rfl (by (try simp only [List.map_toArray, List.map_cons, List.map_nil]); first | done | rfl | (simp only [List.length_drop, List.length_take]; rfl)) ?_; (with_reducible refine (contangoref15_Check.calls k _ _ l0 t427 _ ?side1 ?side2 A2.out).mono ?_); (case side1 => repeat (first | exact (Kd.C_below HR0.out HB.out) | (with_reducible refine Kd.C_alloc ?_ _) | (with_reducible refine Kd.C_drewN ?_ _) | (with_reducible refine Kd.C_drew ?_))); (case side2 => exact HC0.out); rintro e w4 ⟨rfl, hb⟩; refine ⟨_, rfl, ?_⟩; have n0_ := Aside0.mk (blk_below (g := gb426) (o := .cells #[.string (⟨#[]⟩ : ByteArray), .int .i64 0, .int .i64 0, .int .i64 0] 58 (0, 0)) (by (with_reducible repeat (first | refine blk_drewN ?_ _ | refine blk_drew ?_ | refine blk_alloc ?_ _)); exact BK426.out) hb); have n1_ := Aside0.mk (below_step (by repeat (first | (with_reducible first | exact HB.out | apply below_alloc | apply pw_below_drewN | apply below_drew1 | refine below_set ?_ GE426.out) | exact HB.out)) hb); clear BK426; clear HB; have BK426 := n0_; have HB := n1_; clear n0_ n1_; (try clear hb); (try clear hb2); (try clear hk); (try clear hi)))
  (try simp only [Act.put, List.setIfInBounds_toArray, List.set_cons_zero, List.set_cons_succ])
  by_cases c5 : t427 = 0
  · rw [if_pos c5] at H
    have c5b0 : (t427 == 0) = true := beq_iff_eq.mpr c5
    have c5b1 : (t427 != 0) = false := bne_eq_false_iff_eq.mpr c5
    clear c5
    (try simp only [c5b0, c5b1])
    by_cases c6 : (l0.length : Int) = 0
    · rw [if_pos c6] at H
      have c6b0 : ((l0.length : Int) == 0) = true := beq_iff_eq.mpr c6
      have c6b1 : ((l0.length : Int) != 0) = false := bne_eq_false_iff_eq.mpr c6
      clear c6
      (try simp only [c6b0, c6b1])
      simp only [Option.some.injEq, Prod.mk.injEq] at H
      obtain ⟨rfl, rfl, rfl, rfl, rfl, rfl⟩ := H
      have hcz7_0 : w4.cell? ⟨gb426, 0, none⟩ = some (.string (⟨#[]⟩ : ByteArray)) := (blk_cell BK426.out 0).trans rfl
      have hcz7_1 : w4.cell? ⟨gb426, 1, none⟩ = some (.int .i64 0) := (blk_cell BK426.out 1).trans rfl
      have hcz7_2 : w4.cell? ⟨gb426, 2, none⟩ = some (.int .i64 0) := (blk_cell BK426.out 2).trans rfl
      have hcz7_3 : w4.cell? ⟨gb426, 3, none⟩ = some (.int .i64 0) := (blk_cell BK426.out 3).trans rfl
      have hfz7_0 := blk_frozen BK426.out 0
      have hfz7_1 := blk_frozen BK426.out 1
      have hfz7_2 := blk_frozen BK426.out 2
      have hfz7_3 := blk_frozen BK426.out 3
      go_wp2
      refine bodyPost_ret (results_list (rs := [.tmp 2, .cell 3 58, .tmp 4]) rfl (by simp) (.tmp (.cell gb426 58 #[.string (⟨#[]⟩ : ByteArray), .int .i64 0, .int .i64 0, .int .i64 0] (0, 0) _ rfl (by (with_reducible repeat (first | refine blk_drewN ?_ _ | refine blk_drew ?_ | refine blk_alloc ?_ _)); refine blk_put (cs := #[.string (⟨#[]⟩ : ByteArray), .int .i64 0, .int .i64 0, .int .i64 0]) ?_ 3 _ rfl; (with_reducible repeat (first | refine blk_drewN ?_ _ | refine blk_drew ?_ | refine blk_alloc ?_ _)); refine blk_put (cs := #[.string (⟨#[]⟩ : ByteArray), .int .i64 0, .int .i64 0, .int .i64 0]) ?_ 2 _ rfl; (with_reducible repeat (first | refine blk_drewN ?_ _ | refine blk_drew ?_ | refine blk_alloc ?_ _)); refine blk_put (cs := #[.string (⟨#[]⟩ : ByteArray), .int .i64 0, .int .i64 0, .int .i64 0]) ?_ 1 _ rfl; (with_reducible repeat (first | refine blk_drewN ?_ _ | refine blk_drew ?_ | refine blk_alloc ?_ _)); refine blk_put (cs := #[.string (⟨#[]⟩ : ByteArray), .int .i64 0, .int .i64 0, .int .i64 0]) ?_ 0 _ rfl; (with_reducible repeat (first | refine blk_drewN ?_ _ | refine blk_drew ?_ | refine blk_alloc ?_ _)); exact BK426.out) Try.underlying58 rfl (by kernel_rfl) (.tmp .nil)))) rfl ?_
      exact ⟨by first | rfl | (simp [errW_none, errW_some] <;> rfl) | (simp [*, errW_none, errW_some] <;> rfl), by repeat (first | (with_reducible first | exact HB.out | apply below_alloc | apply pw_below_drewN | apply below_drew1 | refine below_set ?_ GE426.out) | exact HB.out)⟩
    · rw [if_neg c6] at H
      have c6b0 : ((l0.length : Int) == 0) = false := beq_eq_false_iff_ne.mpr c6
      have c6b1 : ((l0.length : Int) != 0) = true := bne_iff_ne.mpr c6
      have c6b2 : ¬ (l0 = []) := fun h_ => c6 (by rw [h_]; rfl)
      (try simp only [c6b0, c6b1, c6b2])
      have H' := Aside0.mk H
      clear H
      go_wp2_with (first | ((with_reducible refine gate_dst (N := 7) rfl ?_); refine box_event ?hg (N := 7) ?hd (cs := #[.string (⟨#[]⟩ : ByteArray), .int .i64 0, .int .i64 0, .int .i64 0]) (t := 58) ?hr ?_; (case hd => rfl); (case hg => rfl); (case hr => first | (go_simp; done) | (go_simp; rfl)); intro gb428 hg w8 hbox hb; have n0_ := Aside0.mk (blk_below (g := gb426) (o := .cells #[.string (⟨#[]⟩ : ByteArray), .int .i64 0, .int .i64 0, .int .i64 0] 58 (0, 0)) (by (with_reducible repeat (first | refine blk_drewN ?_ _ | refine blk_drew ?_ | refine blk_alloc ?_ _)); exact BK426.out) hb); have n1_ := Aside0.mk (below_step (by repeat (first | (with_reducible first | exact HB.out | apply below_alloc | apply pw_below_drewN | apply below_drew1 | refine below_set ?_ GE426.out) | exact HB.out)) hb); have n2_ := Aside0.mk (hbox); have n3_ := Aside0.mk ((by rw [hg]; exact (below_size (by repeat (first | (with_reducible first | exact HB.out | apply below_alloc | apply pw_below_drewN | apply below_drew1 | refine below_set ?_ GE426.out) | exact HB.out))) : w.heap.size ≤ gb428)); have n4_ := Aside0.mk ((by rw [hg]; exact (below_size (by repeat (first | (with_reducible first | exact HB.out | apply below_alloc | apply pw_below_drewN | apply below_drew1 | refine below_set ?_ GE426.out) | exact HB.out))) : w.heap.size ≤ gb428)); have n5_ := Aside0.mk ((by rw [hg]; exact Nat.ne_of_lt (blk_lt (g := gb426) (o := .cells #[.string (⟨#[]⟩ : ByteArray), .int .i64 0, .int .i64 0, .int .i64 0] 58 (0, 0)) (by (with_reducible repeat (first | refine blk_drewN ?_ _ | refine blk_drew ?_ | refine blk_alloc ?_ _)); exact BK426.out)) : gb426 ≠ gb428)); have n6_ := Aside0.mk ((by rw [hg]; exact Nat.ne_of_gt (blk_lt (g := gb426) (o := .cells #[.string (⟨#[]⟩ : ByteArray), .int .i64 0, .int .i64 0, .int .i64 0] 58 (0, 0)) (by (with_reducible repeat (first | refine blk_drewN ?_ _ | refine blk_drew ?_ | refine blk_alloc ?_ _)); exact BK426.out)) : gb428 ≠ gb426)); clear BK426; clear HB; have BK426 := n0_; have HB := n1_; have BK428 := n2_; have GW428 := n3_; have GE428 := n4_; have NB426_428 := n5_; have NB428_426 := n6_; clear n0_ n1_ n2_ n3_ n4_ n5_ n6_; clear hb hbox hg; have hnb9 := NB428_426.out; have hnc9 := NB426_428.out; have hcz10_0 : w8.cell? ⟨gb428, 0, none⟩ = some (.string (⟨#[]⟩ : ByteArray)) := (blk_cell BK428.out 0).trans rfl; have hcz10_1 : w8.cell? ⟨gb428, 1, none⟩ = some (.int .i64 0) := (blk_cell BK428.out 1).trans rfl; have hcz10_2 : w8.cell? ⟨gb428, 2, none⟩ = some (.int .i64 0) := (blk_cell BK428.out 2).trans rfl; have hcz10_3 : w8.cell? ⟨gb428, 3, none⟩ = some (.int .i64 0) := (blk_cell BK428.out 3).trans rfl; have hfz10_0 := blk_frozen BK428.out 0; have hfz10_1 := blk_frozen BK428.out 1; have hfz10_2 := blk_frozen BK428.out 2; have hfz10_3 := blk_frozen BK428.out 3))
      go_loopg [6, 8] k (fun kq v6 v8 w' => ∃ (x6_1 : Int) (x8_1 : Int) (x429000_1 : ByteArray) (x429001_1 : Int) (x429002_1 : Int) (x429003_1 : Int), v6 = .int .i64 x6_1 ∧ v8 = .int .i64 x8_1 ∧ Aside0 (contangoref28_Largest.l0 kq l0 x6_1 x8_1 x429000_1 x429001_1 x429002_1 x429003_1 = some (r1, r2, r3, r4, r5, r6)) ∧ Aside0 (kq ≤ k) ∧ Aside0 (w'.heap[gb426]? = some (.cells #[.string (⟨#[]⟩ : ByteArray), .int .i64 0, .int .i64 0, .int .i64 0] 58 (0, 0))) ∧ Aside0 (w'.heap[gb428]? = some (.cells #[.string x429000_1, .int .i64 x429001_1, .int .i64 x429002_1, .int .i64 x429003_1] 58 (0, 0))) ∧ Aside0 (Below w.heap.size w w'))
      case atStart => exact ⟨((-1)), (0), ((⟨#[]⟩ : ByteArray)), (0), (0), (0), (by first | rfl | (simp; done) | (simp [*]; done)), (by first | rfl | (simp; done) | (simp [*]; done)), H', ⟨Nat.le_refl _⟩, ⟨by (with_reducible repeat (first | refine blk_drewN ?_ _ | refine blk_drew ?_ | refine blk_alloc ?_ _)); refine blk_far ?_ NB426_428.out _; (with_reducible repeat (first | refine blk_drewN ?_ _ | refine blk_drew ?_ | refine blk_alloc ?_ _)); refine blk_far ?_ NB426_428.out _; (with_reducible repeat (first | refine blk_drewN ?_ _ | refine blk_drew ?_ | refine blk_alloc ?_ _)); refine blk_far ?_ NB426_428.out _; (with_reducible repeat (first | refine blk_drewN ?_ _ | refine blk_drew ?_ | refine blk_alloc ?_ _)); refine blk_far ?_ NB426_428.out _; (with_reducible repeat (first | refine blk_drewN ?_ _ | refine blk_drew ?_ | refine blk_alloc ?_ _)); exact BK426.out⟩, ⟨by (with_reducible repeat (first | refine blk_drewN ?_ _ | refine blk_drew ?_ | refine blk_alloc ?_ _)); refine blk_put (cs := #[.string (⟨#[]⟩ : ByteArray), .int .i64 0, .int .i64 0, .int .i64 0]) ?_ 3 _ rfl; (with_reducible repeat (first | refine blk_drewN ?_ _ | refine blk_drew ?_ | refine blk_alloc ?_ _)); refine blk_put (cs := #[.string (⟨#[]⟩ : ByteArray), .int .i64 0, .int .i64 0, .int .i64 0]) ?_ 2 _ rfl; (with_reducible repeat (first | refine blk_drewN ?_ _ | refine blk_drew ?_ | refine blk_alloc ?_ _)); refine blk_put (cs := #[.string (⟨#[]⟩ : ByteArray), .int .i64 0, .int .i64 0, .int .i64 0]) ?_ 1 _ rfl; (with_reducible repeat (first | refine blk_drewN ?_ _ | refine blk_drew ?_ | refine blk_alloc ?_ _)); refine blk_put (cs := #[.string (⟨#[]⟩ : ByteArray), .int .i64 0, .int .i64 0, .int .i64 0]) ?_ 0 _ rfl; (with_reducible repeat (first | refine blk_drewN ?_ _ | refine blk_drew ?_ | refine blk_alloc ?_ _)); exact BK428.out⟩, ⟨by repeat (first | (with_reducible first | exact HB.out | apply below_alloc | apply pw_below_drewN | apply below_drew1 | refine below_set ?_ GE426.out | refine below_set ?_ GE428.out) | exact HB.out)⟩⟩
      case round =>
        clear H'
        try clear p2
        try clear c3
        try clear c5
        try clear c5b0
        try clear c5b1
        try clear c6
        try clear c6b0
        try clear c6b1
        try clear c6b2
        try clear c7
        try clear c9
        try clear hcz10_0
        try clear hcz10_1
        try clear hcz10_2
        try clear hcz10_3
        try clear hcz7_0
        try clear hcz7_1
        try clear hcz7_2
        try clear hcz7_3
        try clear hfz10_0
        try clear hfz10_1
        try clear hfz10_2
        try clear hfz10_3
        try clear hfz7_0
        try clear hfz7_1
        try clear hfz7_2
        try clear hfz7_3
        obtain ⟨x6_1, x8_1, x429000_1, x429001_1, x429002_1, x429003_1, rfl, rfl, HA, HK1, BK426, BK428, HB⟩ := hrel
        cases gk with
        | zero => exact absurd HA.out (by simp [contangoref28_Largest.l0])
        | succ k1 =>
          have H := HA.out
          clear HA
          simp only [contangoref28_Largest.l0] at H
          by_cases c11 : x8_1 < (l0.length : Int)
          · rw [if_pos c11] at H
            have c11b0 : decide (x8_1 < (l0.length : Int)) = true := decide_eq_true c11
            clear c11
            (try simp only [c11b0])
            by_cases c12 : 0 ≤ x8_1
            · rw [if_pos c12] at H
              have c12b0 : decide (0 ≤ x8_1) = true := decide_eq_true c12
              clear c12
              replace H := Option.bind_eq_some_iff.mp H
              obtain ⟨t430, A130, H⟩ := H
              replace H : ((contangoref15_Net.f ((rd_T109 l0 x8_1).f0.f0) ((rd_T109 l0 x8_1).f0.f1) ((rd_T109 l0 x8_1).f0.f2) ((rd_T109 l0 x8_1).f0.f3) ((rd_T109 l0 x8_1).f1) ((rd_T109 l0 x8_1).f2)).bind fun t432 => (if (mx t430 (wrap64 (-t432))) > x6_1 then (contangoref28_Largest.l0 k1 l0 (mx t430 (wrap64 (-t432))) (wrap64 (x8_1 + 1)) ((rd_T109 l0 x8_1).f0.f0) ((rd_T109 l0 x8_1).f0.f1) ((rd_T109 l0 x8_1).f0.f2) ((rd_T109 l0 x8_1).f0.f3)) else (contangoref28_Largest.l0 k1 l0 x6_1 (wrap64 (x8_1 + 1)) x429000_1 x429001_1 x429002_1 x429003_1))) = some (r1, r2, r3, r4, r5, r6) := H
              have A13 := Aside0.mk A130
              clear A130
              replace H := Option.bind_eq_some_iff.mp H
              obtain ⟨t432, A140, H⟩ := H
              replace H : (if (mx t430 (wrap64 (-t432))) > x6_1 then (contangoref28_Largest.l0 k1 l0 (mx t430 (wrap64 (-t432))) (wrap64 (x8_1 + 1)) ((rd_T109 l0 x8_1).f0.f0) ((rd_T109 l0 x8_1).f0.f1) ((rd_T109 l0 x8_1).f0.f2) ((rd_T109 l0 x8_1).f0.f3)) else (contangoref28_Largest.l0 k1 l0 x6_1 (wrap64 (x8_1 + 1)) x429000_1 x429001_1 x429002_1 x429003_1)) = some (r1, r2, r3, r4, r5, r6) := H
              have A14 := Aside0.mk A140
              clear A140
              obtain ⟨ji15, hji15⟩ : ∃ j_ : Int, (mx t430 (wrap64 (-t432))) = j_ := ⟨_, rfl⟩
              replace H : (if (ji15) > x6_1 then (contangoref28_Largest.l0 k1 l0 ji15 (wrap64 (x8_1 + 1)) ((rd_T109 l0 x8_1).f0.f0) ((rd_T109 l0 x8_1).f0.f1) ((rd_T109 l0 x8_1).f0.f2) ((rd_T109 l0 x8_1).f0.f3)) else (contangoref28_Largest.l0 k1 l0 x6_1 (wrap64 (x8_1 + 1)) x429000_1 x429001_1 x429002_1 x429003_1)) = some (r1, r2, r3, r4, r5, r6) := by first | (rw [hji15] at H; exact H) | (simp only [hji15] at H ⊢; exact H)
              (try rw [hji15] at A13)
              (try rw [hji15] at A14)
              have hji15_ : (if t430 < (wrap64 (-t432)) then (wrap64 (-t432)) else t430) = ji15 := hji15
              try go_wp2
              have n0_ := Aside0.mk (blk_drew BK426.out)
              have n1_ := Aside0.mk (blk_drew BK428.out)
              have n2_ := Aside0.mk (below_drew1 HB.out)
              clear BK426
              clear BK428
              clear HB
              have BK426 := n0_
              have BK428 := n1_
              have HB := n2_
              clear n0_ n1_ n2_
              have p429 : 0 ≤ (x8_1 : Int) := of_decide_eq_true (by first | (with_reducible assumption) | assumption)
              have q429 : x8_1 < (l0.length : Int) := of_decide_eq_true (by first | (with_reducible assumption) | assumption)
              obtain ⟨ad429, e429, hx429_0, hx429_1, hx429_2, hx429_3, hx429_4, hx429_5⟩ := at_T109 HR0.out x8_1 p429 q429
              have hw429_5 := hx429_5
              have hw429_4 := hx429_4
              have hw429_3 := hx429_3
              have hw429_2 := hx429_2
              have hw429_1 := hx429_1
              have hw429_0 := hx429_0
              cases e429
              replace hx429_0 := (HB.out.cell (World.block_lt_of_cell? w _ hx429_0)).trans hx429_0
              replace hx429_1 := (HB.out.cell (World.block_lt_of_cell? w _ hx429_1)).trans hx429_1
              replace hx429_2 := (HB.out.cell (World.block_lt_of_cell? w _ hx429_2)).trans hx429_2
              replace hx429_3 := (HB.out.cell (World.block_lt_of_cell? w _ hx429_3)).trans hx429_3
              replace hx429_4 := (HB.out.cell (World.block_lt_of_cell? w _ hx429_4)).trans hx429_4
              replace hx429_5 := (HB.out.cell (World.block_lt_of_cell? w _ hx429_5)).trans hx429_5
              replace p429 := eq_true p429
              replace q429 := eq_true q429
              have p431 : 0 ≤ (x8_1 : Int) := of_decide_eq_true (by first | (with_reducible assumption) | assumption)
              have q431 : x8_1 < (l0.length : Int) := of_decide_eq_true (by first | (with_reducible assumption) | assumption)
              obtain ⟨ad431, e431, hx431_0, hx431_1, hx431_2, hx431_3, hx431_4, hx431_5⟩ := at_T109 HR0.out x8_1 p431 q431
              have hw431_5 := hx431_5
              have hw431_4 := hx431_4
              have hw431_3 := hx431_3
              have hw431_2 := hx431_2
              have hw431_1 := hx431_1
              have hw431_0 := hx431_0
              obtain rfl : ad429 = ad431 := (by injection e431)
              replace hx431_0 := (HB.out.cell (World.block_lt_of_cell? w _ hx431_0)).trans hx431_0
              replace hx431_1 := (HB.out.cell (World.block_lt_of_cell? w _ hx431_1)).trans hx431_1
              replace hx431_2 := (HB.out.cell (World.block_lt_of_cell? w _ hx431_2)).trans hx431_2
              replace hx431_3 := (HB.out.cell (World.block_lt_of_cell? w _ hx431_3)).trans hx431_3
              replace hx431_4 := (HB.out.cell (World.block_lt_of_cell? w _ hx431_4)).trans hx431_4
              replace hx431_5 := (HB.out.cell (World.block_lt_of_cell? w _ hx431_5)).trans hx431_5
              replace p431 := eq_true p431
              replace q431 := eq_true q431
              refine start_ (n := 13) (S := fun w' => w'.cell? (ad429.add ((x8_1).toNat * 6)) = some (.string ((rd_T109 l0 x8_1).f0.f0)) ∧ w'.cell? ⟨(ad429.add ((x8_1).toNat * 6)).block, (ad429.add ((x8_1).toNat * 6)).off + 1, none⟩ = some (.int .i64 ((rd_T109 l0 x8_1).f0.f1)) ∧ w'.cell? ⟨(ad429.add ((x8_1).toNat * 6)).block, (ad429.add ((x8_1).toNat * 6)).off + 2, none⟩ = some (.int .i64 ((rd_T109 l0 x8_1).f0.f2)) ∧ w'.cell? ⟨(ad429.add ((x8_1).toNat * 6)).block, (ad429.add ((x8_1).toNat * 6)).off + 3, none⟩ = some (.int .i64 ((rd_T109 l0 x8_1).f0.f3)) ∧ w'.cell? ⟨(ad429.add ((x8_1).toNat * 6)).block, (ad429.add ((x8_1).toNat * 6)).off + 4, none⟩ = some (.int .i64 ((rd_T109 l0 x8_1).f1)) ∧ w'.cell? ⟨(ad429.add ((x8_1).toNat * 6)).block, (ad429.add ((x8_1).toNat * 6)).off + 5, none⟩ = some (.int .i64 ((rd_T109 l0 x8_1).f2)) ∧ w'.cell? (ad429.add ((x8_1).toNat * 6)) = some (.string ((rd_T109 l0 x8_1).f0.f0)) ∧ w'.cell? ⟨(ad429.add ((x8_1).toNat * 6)).block, (ad429.add ((x8_1).toNat * 6)).off + 1, none⟩ = some (.int .i64 ((rd_T109 l0 x8_1).f0.f1)) ∧ w'.cell? ⟨(ad429.add ((x8_1).toNat * 6)).block, (ad429.add ((x8_1).toNat * 6)).off + 2, none⟩ = some (.int .i64 ((rd_T109 l0 x8_1).f0.f2)) ∧ w'.cell? ⟨(ad429.add ((x8_1).toNat * 6)).block, (ad429.add ((x8_1).toNat * 6)).off + 3, none⟩ = some (.int .i64 ((rd_T109 l0 x8_1).f0.f3)) ∧ w'.cell? ⟨(ad429.add ((x8_1).toNat * 6)).block, (ad429.add ((x8_1).toNat * 6)).off + 4, none⟩ = some (.int .i64 ((rd_T109 l0 x8_1).f1)) ∧ w'.cell? ⟨(ad429.add ((x8_1).toNat * 6)).block, (ad429.add ((x8_1).toNat * 6)).off + 5, none⟩ = some (.int .i64 ((rd_T109 l0 x8_1).f2))) (ds := []) #[false, false, false, false, false, false, false, false, false, false, false, false, false] (by kernel_rfl) rfl rfl ⟨((HB.out.cell (World.block_lt_of_cell? w _ hw429_0)).trans hw429_0), ((HB.out.cell (World.block_lt_of_cell? w _ hw429_1)).trans hw429_1), ((HB.out.cell (World.block_lt_of_cell? w _ hw429_2)).trans hw429_2), ((HB.out.cell (World.block_lt_of_cell? w _ hw429_3)).trans hw429_3), ((HB.out.cell (World.block_lt_of_cell? w _ hw429_4)).trans hw429_4), ((HB.out.cell (World.block_lt_of_cell? w _ hw429_5)).trans hw429_5), ((HB.out.cell (World.block_lt_of_cell? w _ hw431_0)).trans hw431_0), ((HB.out.cell (World.block_lt_of_cell? w _ hw431_1)).trans hw431_1), ((HB.out.cell (World.block_lt_of_cell? w _ hw431_2)).trans hw431_2), ((HB.out.cell (World.block_lt_of_cell? w _ hw431_3)).trans hw431_3), ((HB.out.cell (World.block_lt_of_cell? w _ hw431_4)).trans hw431_4), ((HB.out.cell (World.block_lt_of_cell? w _ hw431_5)).trans hw431_5)⟩ (fun hHeld => ?_); refine with_tabW contangoref28_Largest.tab10 contangoref28_Largest.bits10 (fun HT_ HW_ => ?_)
              generalize wr.drew = w16 at BK426 BK428 HB hx429_0 hx429_1 hx429_2 hx429_3 hx429_4 hx429_5 hx431_0 hx431_1 hx431_2 hx431_3 hx431_4 hx431_5 hHeld ⊢
              refine pure_ (i := 0) (N := some 27) (v := ?_) (a' := ?_) #[true, false, false, false, false, false, false, false, false, false, false, false, false] rfl rfl (any_of HT_.out (by kernel_rfl)) (fun _ _ _ h => h) (Or.inl ⟨by rfl, ?_⟩) ?_ ?_
              rotate_left
              · intro w'
                go_simp
                with_reducible rfl
              rotate_left
              · simp only [Act.put, List.setIfInBounds_toArray, List.set_cons_zero, List.set_cons_succ, i64_w, i32_w]
                rfl
              refine pure_ (i := 1) (N := some 28) (v := ?_) (a' := ?_) #[true, true, false, false, false, false, false, false, false, false, false, false, false] rfl rfl (any_of HT_.out (by kernel_rfl)) (fun _ _ _ h => h) (Or.inl ⟨by rfl, ?_⟩) ?_ ?_
              rotate_left
              · intro w'
                go_simp
                with_reducible rfl
              rotate_left
              · simp only [Act.put, List.setIfInBounds_toArray, List.set_cons_zero, List.set_cons_succ, i64_w, i32_w]
                rfl
              refine pure_ (i := 2) (N := some 29) (v := ?_) (a' := ?_) #[true, true, true, false, false, false, false, false, false, false, false, false, false] rfl rfl (any_of HT_.out (by kernel_rfl)) (fun _ _ _ h => h) (Or.inl ⟨by rfl, ?_⟩) ?_ ?_
              rotate_left
              · intro w'
                go_simp
                with_reducible rfl
              rotate_left
              · simp only [Act.put, List.setIfInBounds_toArray, List.set_cons_zero, List.set_cons_succ, i64_w, i32_w]
                rfl
              refine pure_ (i := 5) (N := some 32) (v := ?_) (a' := ?_) #[true, true, true, false, false, true, false, false, false, false, false, false, false] rfl rfl (any_of HT_.out (by kernel_rfl)) (fun _ _ _ h => h) (Or.inl ⟨by rfl, ?_⟩) ?_ ?_
              rotate_left
              · intro w'
                go_simp
                with_reducible rfl
              rotate_left
              · simp only [Act.put, List.setIfInBounds_toArray, List.set_cons_zero, List.set_cons_succ, i64_w, i32_w]
                rfl
              refine pure_ (i := 6) (N := some 33) (v := ?_) (a' := ?_) #[true, true, true, false, false, true, true, false, false, false, false, false, false] rfl rfl (any_of HT_.out (by kernel_rfl)) (fun _ _ _ h => h) (Or.inl ⟨by rfl, ?_⟩) ?_ ?_
              rotate_left
              · intro w'
                go_simp
                with_reducible rfl
              rotate_left
              · simp only [Act.put, List.setIfInBounds_toArray, List.set_cons_zero, List.set_cons_succ, i64_w, i32_w]
                rfl
              refine pure_ (i := 7) (N := some 34) (v := ?_) (a' := ?_) #[true, true, true, false, false, true, true, true, false, false, false, false, false] rfl rfl (any_of HT_.out (by kernel_rfl)) (fun _ _ _ h => h) (Or.inl ⟨by rfl, ?_⟩) ?_ ?_
              rotate_left
              · intro w'
                go_simp
                with_reducible rfl
              rotate_left
              · simp only [Act.put, List.setIfInBounds_toArray, List.set_cons_zero, List.set_cons_succ, i64_w, i32_w]
                rfl
              refine take_ (i := 3) (N := some 30) (v := ?_) (a' := ?_) #[true, true, true, true, false, true, true, true, false, false, false, false, false] rfl rfl (take_ofW HT_.out HW_.out (by kernel_rfl)) (fun _ _ _ h => h) (Or.inl ⟨by rfl, ?_⟩) hHeld ?_ ?_
              rotate_left
              · rintro w' ⟨s0, s1, s2, s3, s4, s5, s6, s7, s8, s9, s10, s11⟩
                go_simp
                with_reducible rfl
              rotate_left
              · simp only [Act.put, List.setIfInBounds_toArray, List.set_cons_zero, List.set_cons_succ, i64_w, i32_w]
                rfl
              refine take_ (i := 8) (N := some 35) (v := ?_) (a' := ?_) #[true, true, true, true, false, true, true, true, true, false, false, false, false] rfl rfl (take_ofW HT_.out HW_.out (by kernel_rfl)) (fun _ _ _ h => h) (Or.inl ⟨by rfl, ?_⟩) hHeld ?_ ?_
              rotate_left
              · rintro w' ⟨s0, s1, s2, s3, s4, s5, s6, s7, s8, s9, s10, s11⟩
                go_simp
                with_reducible rfl
              rotate_left
              · simp only [Act.put, List.setIfInBounds_toArray, List.set_cons_zero, List.set_cons_succ, i64_w, i32_w]
                rfl
              refine one_ (i := 4) (N := some 31) #[true, true, true, true, true, true, true, true, true, false, false, false, false] rfl rfl (one_of HT_.out (by kernel_rfl)) (by decide) (fun K hK => ?_)
              refine goes_ Try.func74 (by kernel_rfl) rfl #[.agg #[.string ((rd_T109 l0 x8_1).f0.f0), .int .i64 ((rd_T109 l0 x8_1).f0.f1), .int .i64 ((rd_T109 l0 x8_1).f0.f2), .int .i64 ((rd_T109 l0 x8_1).f0.f3), .int .i64 ((rd_T109 l0 x8_1).f1), .int .i64 ((rd_T109 l0 x8_1).f2)]] (by rfl) rfl rfl (by (try simp only [List.map_toArray, List.map_cons, List.map_nil]); first | done | rfl | (simp only [List.length_drop, List.length_take]; rfl)) ?_
              with_reducible refine (contangoref15_Net.calls ((rd_T109 l0 x8_1).f0.f0) ((rd_T109 l0 x8_1).f0.f1) ((rd_T109 l0 x8_1).f0.f2) ((rd_T109 l0 x8_1).f0.f3) ((rd_T109 l0 x8_1).f1) ((rd_T109 l0 x8_1).f2) t430 _ A13.out).mono ?_
              rintro e w17 ⟨rfl, hb⟩
              refine ⟨_, rfl, ?_⟩
              have n0_ := Aside0.mk (blk_below (g := gb426) (o := .cells #[.string (⟨#[]⟩ : ByteArray), .int .i64 0, .int .i64 0, .int .i64 0] 58 (0, 0)) (by (with_reducible repeat (first | refine blk_drewN ?_ _ | refine blk_drew ?_ | refine blk_alloc ?_ _)); exact BK426.out) hb)
              have n1_ := Aside0.mk (blk_below (g := gb428) (o := .cells #[.string x429000_1, .int .i64 x429001_1, .int .i64 x429002_1, .int .i64 x429003_1] 58 (0, 0)) (by (with_reducible repeat (first | refine blk_drewN ?_ _ | refine blk_drew ?_ | refine blk_alloc ?_ _)); exact BK428.out) hb)
              have n2_ := Aside0.mk (below_step (by repeat (first | (with_reducible first | exact HB.out | apply below_alloc | apply pw_below_drewN | apply below_drew1 | refine below_set ?_ GE426.out | refine below_set ?_ GE428.out) | exact HB.out)) hb)
              clear BK426
              clear BK428
              clear HB
              have BK426 := n0_
              have BK428 := n1_
              have HB := n2_
              clear n0_ n1_ n2_
              (try clear hb)
              (try clear hb2)
              (try clear hk)
              (try clear hi)
              refine hK.out _ _ ⟨((HB.out.cell (World.block_lt_of_cell? w _ hw429_0)).trans hw429_0), ((HB.out.cell (World.block_lt_of_cell? w _ hw429_1)).trans hw429_1), ((HB.out.cell (World.block_lt_of_cell? w _ hw429_2)).trans hw429_2), ((HB.out.cell (World.block_lt_of_cell? w _ hw429_3)).trans hw429_3), ((HB.out.cell (World.block_lt_of_cell? w _ hw429_4)).trans hw429_4), ((HB.out.cell (World.block_lt_of_cell? w _ hw429_5)).trans hw429_5), ((HB.out.cell (World.block_lt_of_cell? w _ hw431_0)).trans hw431_0), ((HB.out.cell (World.block_lt_of_cell? w _ hw431_1)).trans hw431_1), ((HB.out.cell (World.block_lt_of_cell? w _ hw431_2)).trans hw431_2), ((HB.out.cell (World.block_lt_of_cell? w _ hw431_3)).trans hw431_3), ((HB.out.cell (World.block_lt_of_cell? w _ hw431_4)).trans hw431_4), ((HB.out.cell (World.block_lt_of_cell? w _ hw431_5)).trans hw431_5)⟩ (fun hHeld => ?_)
              clear hK K
              refine norm_ (a' := ?_) ?_ ?_
              rotate_left
              · show Act.put _ (some 31) _ = _
                simp only [Act.put, List.setIfInBounds_toArray, List.set_cons_zero, List.set_cons_succ, i64_w, i32_w]
                rfl
              refine one_ (i := 9) (N := some 36) #[true, true, true, true, true, true, true, true, true, true, false, false, false] rfl rfl (one_of HT_.out (by kernel_rfl)) (by decide) (fun K hK => ?_)
              refine goes_ Try.func74 (by kernel_rfl) rfl #[.agg #[.string ((rd_T109 l0 x8_1).f0.f0), .int .i64 ((rd_T109 l0 x8_1).f0.f1), .int .i64 ((rd_T109 l0 x8_1).f0.f2), .int .i64 ((rd_T109 l0 x8_1).f0.f3), .int .i64 ((rd_T109 l0 x8_1).f1), .int .i64 ((rd_T109 l0 x8_1).f2)]] (by rfl) rfl rfl (by (try simp only [List.map_toArray, List.map_cons, List.map_nil]); first | done | rfl | (simp only [List.length_drop, List.length_take]; rfl)) ?_
              with_reducible refine (contangoref15_Net.calls ((rd_T109 l0 x8_1).f0.f0) ((rd_T109 l0 x8_1).f0.f1) ((rd_T109 l0 x8_1).f0.f2) ((rd_T109 l0 x8_1).f0.f3) ((rd_T109 l0 x8_1).f1) ((rd_T109 l0 x8_1).f2) t432 _ A14.out).mono ?_
              rintro e w18 ⟨rfl, hb⟩
              refine ⟨_, rfl, ?_⟩
              have n0_ := Aside0.mk (blk_below (g := gb426) (o := .cells #[.string (⟨#[]⟩ : ByteArray), .int .i64 0, .int .i64 0, .int .i64 0] 58 (0, 0)) (by (with_reducible repeat (first | refine blk_drewN ?_ _ | refine blk_drew ?_ | refine blk_alloc ?_ _)); exact BK426.out) hb)
              have n1_ := Aside0.mk (blk_below (g := gb428) (o := .cells #[.string x429000_1, .int .i64 x429001_1, .int .i64 x429002_1, .int .i64 x429003_1] 58 (0, 0)) (by (with_reducible repeat (first | refine blk_drewN ?_ _ | refine blk_drew ?_ | refine blk_alloc ?_ _)); exact BK428.out) hb)
              have n2_ := Aside0.mk (below_step (by repeat (first | (with_reducible first | exact HB.out | apply below_alloc | apply pw_below_drewN | apply below_drew1 | refine below_set ?_ GE426.out | refine below_set ?_ GE428.out) | exact HB.out)) hb)
              clear BK426
              clear BK428
              clear HB
              have BK426 := n0_
              have BK428 := n1_
              have HB := n2_
              clear n0_ n1_ n2_
              (try clear hb)
              (try clear hb2)
              (try clear hk)
              (try clear hi)
              refine hK.out _ _ ⟨((HB.out.cell (World.block_lt_of_cell? w _ hw429_0)).trans hw429_0), ((HB.out.cell (World.block_lt_of_cell? w _ hw429_1)).trans hw429_1), ((HB.out.cell (World.block_lt_of_cell? w _ hw429_2)).trans hw429_2), ((HB.out.cell (World.block_lt_of_cell? w _ hw429_3)).trans hw429_3), ((HB.out.cell (World.block_lt_of_cell? w _ hw429_4)).trans hw429_4), ((HB.out.cell (World.block_lt_of_cell? w _ hw429_5)).trans hw429_5), ((HB.out.cell (World.block_lt_of_cell? w _ hw431_0)).trans hw431_0), ((HB.out.cell (World.block_lt_of_cell? w _ hw431_1)).trans hw431_1), ((HB.out.cell (World.block_lt_of_cell? w _ hw431_2)).trans hw431_2), ((HB.out.cell (World.block_lt_of_cell? w _ hw431_3)).trans hw431_3), ((HB.out.cell (World.block_lt_of_cell? w _ hw431_4)).trans hw431_4), ((HB.out.cell (World.block_lt_of_cell? w _ hw431_5)).trans hw431_5)⟩ (fun hHeld => ?_)
              clear hK K
              refine norm_ (a' := ?_) ?_ ?_
              rotate_left
              · show Act.put _ (some 36) _ = _
                simp only [Act.put, List.setIfInBounds_toArray, List.set_cons_zero, List.set_cons_succ, i64_w, i32_w]
                rfl
              refine pure_ (i := 10) (N := some 37) (v := ?_) (a' := ?_) #[true, true, true, true, true, true, true, true, true, true, true, false, false] rfl rfl (any_of HT_.out (by kernel_rfl)) (fun _ _ _ h => h) (Or.inl ⟨by rfl, ?_⟩) ?_ ?_
              rotate_left
              · intro w'
                go_simp
                with_reducible rfl
              rotate_left
              · simp only [Act.put, List.setIfInBounds_toArray, List.set_cons_zero, List.set_cons_succ, i64_w, i32_w]
                rfl
              refine pure_ (i := 11) (N := some 38) (v := ?_) (a' := ?_) #[true, true, true, true, true, true, true, true, true, true, true, true, false] rfl rfl (any_of HT_.out (by kernel_rfl)) (fun _ _ _ h => h) (Or.inl ⟨by rfl, ?_⟩) ?_ ?_
              rotate_left
              · intro w'
                go_simp
                with_reducible rfl
              rotate_left
              · simp only [Act.put, List.setIfInBounds_toArray, List.set_cons_zero, List.set_cons_succ, i64_w, i32_w]
                rfl
              refine pure_ (i := 12) (N := some 9) (v := ?_) (a' := ?_) #[true, true, true, true, true, true, true, true, true, true, true, true, true] rfl rfl (any_of HT_.out (by kernel_rfl)) (fun _ _ _ h => h) (Or.inl ⟨by rfl, ?_⟩) ?_ ?_
              rotate_left
              · intro w'
                go_simp
                with_reducible rfl
              rotate_left
              · simp only [Act.put, List.setIfInBounds_toArray, List.set_cons_zero, List.set_cons_succ, i64_w, i32_w]
                rfl
              refine done_ (done_of HT_.out (by kernel_rfl)) ?_
              go_upto_if 41 with (fail)
              by_cases c19 : (ji15) > x6_1
              · rw [if_pos c19] at H
                have c19b0 : decide (x6_1 < (ji15)) = true := decide_eq_true c19
                clear c19
                (try simp only [c19b0])
                have H' := Aside0.mk H
                clear H
                try go_wp2
                have n0_ := Aside0.mk (blk_drew BK426.out)
                have n1_ := Aside0.mk (blk_drew BK428.out)
                have n2_ := Aside0.mk (below_drew1 HB.out)
                clear BK426
                clear BK428
                clear HB
                have BK426 := n0_
                have BK428 := n1_
                have HB := n2_
                clear n0_ n1_ n2_
                have p433 : 0 ≤ (x8_1 : Int) := of_decide_eq_true (by first | (with_reducible assumption) | assumption)
                have q433 : x8_1 < (l0.length : Int) := of_decide_eq_true (by first | (with_reducible assumption) | assumption)
                obtain ⟨ad433, e433, hx433_0, hx433_1, hx433_2, hx433_3, hx433_4, hx433_5⟩ := at_T109 HR0.out x8_1 p433 q433
                have hw433_5 := hx433_5
                have hw433_4 := hx433_4
                have hw433_3 := hx433_3
                have hw433_2 := hx433_2
                have hw433_1 := hx433_1
                have hw433_0 := hx433_0
                obtain rfl : ad429 = ad433 := (by injection e433)
                replace hx433_0 := (HB.out.cell (World.block_lt_of_cell? w _ hx433_0)).trans hx433_0
                replace hx433_1 := (HB.out.cell (World.block_lt_of_cell? w _ hx433_1)).trans hx433_1
                replace hx433_2 := (HB.out.cell (World.block_lt_of_cell? w _ hx433_2)).trans hx433_2
                replace hx433_3 := (HB.out.cell (World.block_lt_of_cell? w _ hx433_3)).trans hx433_3
                replace hx433_4 := (HB.out.cell (World.block_lt_of_cell? w _ hx433_4)).trans hx433_4
                replace hx433_5 := (HB.out.cell (World.block_lt_of_cell? w _ hx433_5)).trans hx433_5
                replace p433 := eq_true p433
                replace q433 := eq_true q433
                refine start_ (n := 8) (S := fun w' => w'.cell? (ad429.add ((x8_1).toNat * 6)) = some (.string ((rd_T109 l0 x8_1).f0.f0)) ∧ w'.cell? ⟨(ad429.add ((x8_1).toNat * 6)).block, (ad429.add ((x8_1).toNat * 6)).off + 1, none⟩ = some (.int .i64 ((rd_T109 l0 x8_1).f0.f1)) ∧ w'.cell? ⟨(ad429.add ((x8_1).toNat * 6)).block, (ad429.add ((x8_1).toNat * 6)).off + 2, none⟩ = some (.int .i64 ((rd_T109 l0 x8_1).f0.f2)) ∧ w'.cell? ⟨(ad429.add ((x8_1).toNat * 6)).block, (ad429.add ((x8_1).toNat * 6)).off + 3, none⟩ = some (.int .i64 ((rd_T109 l0 x8_1).f0.f3)) ∧ w'.cell? ⟨(ad429.add ((x8_1).toNat * 6)).block, (ad429.add ((x8_1).toNat * 6)).off + 4, none⟩ = some (.int .i64 ((rd_T109 l0 x8_1).f1)) ∧ w'.cell? ⟨(ad429.add ((x8_1).toNat * 6)).block, (ad429.add ((x8_1).toNat * 6)).off + 5, none⟩ = some (.int .i64 ((rd_T109 l0 x8_1).f2))) (ds := []) #[false, false, false, false, false, false, false, false] (by kernel_rfl) rfl rfl ⟨((HB.out.cell (World.block_lt_of_cell? w _ hw433_0)).trans hw433_0), ((HB.out.cell (World.block_lt_of_cell? w _ hw433_1)).trans hw433_1), ((HB.out.cell (World.block_lt_of_cell? w _ hw433_2)).trans hw433_2), ((HB.out.cell (World.block_lt_of_cell? w _ hw433_3)).trans hw433_3), ((HB.out.cell (World.block_lt_of_cell? w _ hw433_4)).trans hw433_4), ((HB.out.cell (World.block_lt_of_cell? w _ hw433_5)).trans hw433_5)⟩ (fun hHeld => ?_); refine with_tabW contangoref28_Largest.tab12 contangoref28_Largest.bits12 (fun HT_ HW_ => ?_)
                generalize w18.drew = w20 at BK426 BK428 HB hx433_0 hx433_1 hx433_2 hx433_3 hx433_4 hx433_5 hHeld ⊢
                refine pure_ (i := 0) (N := some 42) (v := ?_) (a' := ?_) #[true, false, false, false, false, false, false, false] rfl rfl (any_of HT_.out (by kernel_rfl)) (fun _ _ _ h => h) (Or.inl ⟨by rfl, ?_⟩) ?_ ?_
                rotate_left
                · intro w'
                  go_simp
                  with_reducible rfl
                rotate_left
                · simp only [Act.put, List.setIfInBounds_toArray, List.set_cons_zero, List.set_cons_succ, i64_w, i32_w]
                  rfl
                refine pure_ (i := 1) (N := some 43) (v := ?_) (a' := ?_) #[true, true, false, false, false, false, false, false] rfl rfl (any_of HT_.out (by kernel_rfl)) (fun _ _ _ h => h) (Or.inl ⟨by rfl, ?_⟩) ?_ ?_
                rotate_left
                · intro w'
                  go_simp
                  with_reducible rfl
                rotate_left
                · simp only [Act.put, List.setIfInBounds_toArray, List.set_cons_zero, List.set_cons_succ, i64_w, i32_w]
                  rfl
                refine pure_ (i := 2) (N := some 44) (v := ?_) (a' := ?_) #[true, true, true, false, false, false, false, false] rfl rfl (any_of HT_.out (by kernel_rfl)) (fun _ _ _ h => h) (Or.inl ⟨by rfl, ?_⟩) ?_ ?_
                rotate_left
                · intro w'
                  go_simp
                  with_reducible rfl
                rotate_left
                · simp only [Act.put, List.setIfInBounds_toArray, List.set_cons_zero, List.set_cons_succ, i64_w, i32_w]
                  rfl
                refine pure_ (i := 3) (N := some 45) (v := ?_) (a' := ?_) #[true, true, true, true, false, false, false, false] rfl rfl (any_of HT_.out (by kernel_rfl)) (fun _ _ _ h => h) (Or.inl ⟨by rfl, ?_⟩) ?_ ?_
                rotate_left
                · intro w'
                  go_simp
                  with_reducible rfl
                rotate_left
                · simp only [Act.put, List.setIfInBounds_toArray, List.set_cons_zero, List.set_cons_succ, i64_w, i32_w]
                  rfl
                refine pure_ (i := 4) (N := some 46) (v := ?_) (a' := ?_) #[true, true, true, true, true, false, false, false] rfl rfl (any_of HT_.out (by kernel_rfl)) (fun _ _ _ h => h) (Or.inl ⟨by rfl, ?_⟩) ?_ ?_
                rotate_left
                · intro w'
                  go_simp
                  with_reducible rfl
                rotate_left
                · simp only [Act.put, List.setIfInBounds_toArray, List.set_cons_zero, List.set_cons_succ, i64_w, i32_w]
                  rfl
                refine pure_ (i := 6) (N := some 6) (v := ?_) (a' := ?_) #[true, true, true, true, true, false, true, false] rfl rfl (any_of HT_.out (by kernel_rfl)) (fun _ _ _ h => h) (Or.inl ⟨by rfl, ?_⟩) ?_ ?_
                rotate_left
                · intro w'
                  go_simp
                  with_reducible rfl
                rotate_left
                · simp only [Act.put, List.setIfInBounds_toArray, List.set_cons_zero, List.set_cons_succ, i64_w, i32_w]
                  rfl
                refine take_ (i := 5) (N := some 47) (v := ?_) (a' := ?_) #[true, true, true, true, true, true, true, false] rfl rfl (take_ofW HT_.out HW_.out (by kernel_rfl)) (fun _ _ _ h => h) (Or.inl ⟨by rfl, ?_⟩) hHeld ?_ ?_
                rotate_left
                · rintro w' ⟨s0, s1, s2, s3, s4, s5⟩
                  go_simp
                  with_reducible rfl
                rotate_left
                · simp only [Act.put, List.setIfInBounds_toArray, List.set_cons_zero, List.set_cons_succ, i64_w, i32_w]
                  rfl
                refine one_ (i := 7) (N := none) #[true, true, true, true, true, true, true, true] rfl rfl (one_of HT_.out (by kernel_rfl)) (by decide) (fun K hK => ?_)
                have hs21 : w20.cell? ⟨gb428, 0, none⟩ = some (.string x429000_1) := (blk_cell BK428.out 0).trans rfl
                have hfs21 := blk_frozen BK428.out 0
                have hns21_0 := NB426_428.out
                have hms21_0 := NB428_426.out
                have hs22 : w20.cell? ⟨gb428, 1, none⟩ = some (.int .i64 x429001_1) := (blk_cell BK428.out 1).trans rfl
                have hfs22 := blk_frozen BK428.out 1
                have hns22_0 := NB426_428.out
                have hms22_0 := NB428_426.out
                have hs23 : w20.cell? ⟨gb428, 2, none⟩ = some (.int .i64 x429002_1) := (blk_cell BK428.out 2).trans rfl
                have hfs23 := blk_frozen BK428.out 2
                have hns23_0 := NB426_428.out
                have hms23_0 := NB428_426.out
                have hs24 : w20.cell? ⟨gb428, 3, none⟩ = some (.int .i64 x429003_1) := (blk_cell BK428.out 3).trans rfl
                have hfs24 := blk_frozen BK428.out 3
                have hns24_0 := NB426_428.out
                have hms24_0 := NB428_426.out
                refine skip_ (w1 := ?_) (by rfl) rfl ?_ ?_
                rotate_left
                · go_simp
                  rfl
                refine hK.out _ _ ⟨((cell_far (p := ⟨gb428, _, none⟩) (by first | exact Nat.ne_of_lt (Nat.lt_of_lt_of_le (by have := World.block_lt_of_cell? _ _ hw433_0; first | rwa [add_block] at this | exact this) GW428.out) | (rw [add_block]; exact Nat.ne_of_lt (Nat.lt_of_lt_of_le (by have := World.block_lt_of_cell? _ _ hw433_0; first | rwa [add_block] at this | exact this) GW428.out)) | (show (Addr.add _ _).block ≠ _; rw [add_block]; exact Nat.ne_of_lt (Nat.lt_of_lt_of_le (by have := World.block_lt_of_cell? _ _ hw433_0; first | rwa [add_block] at this | exact this) GW428.out)) | (dsimp only; exact Nat.ne_of_lt (Nat.lt_of_lt_of_le (by have := World.block_lt_of_cell? _ _ hw433_0; first | rwa [add_block] at this | exact this) GW428.out))) _).trans (((cell_far (p := ⟨gb428, _, none⟩) (by first | exact Nat.ne_of_lt (Nat.lt_of_lt_of_le (by have := World.block_lt_of_cell? _ _ hw433_0; first | rwa [add_block] at this | exact this) GW428.out) | (rw [add_block]; exact Nat.ne_of_lt (Nat.lt_of_lt_of_le (by have := World.block_lt_of_cell? _ _ hw433_0; first | rwa [add_block] at this | exact this) GW428.out)) | (show (Addr.add _ _).block ≠ _; rw [add_block]; exact Nat.ne_of_lt (Nat.lt_of_lt_of_le (by have := World.block_lt_of_cell? _ _ hw433_0; first | rwa [add_block] at this | exact this) GW428.out)) | (dsimp only; exact Nat.ne_of_lt (Nat.lt_of_lt_of_le (by have := World.block_lt_of_cell? _ _ hw433_0; first | rwa [add_block] at this | exact this) GW428.out))) _).trans (((cell_far (p := ⟨gb428, _, none⟩) (by first | exact Nat.ne_of_lt (Nat.lt_of_lt_of_le (by have := World.block_lt_of_cell? _ _ hw433_0; first | rwa [add_block] at this | exact this) GW428.out) | (rw [add_block]; exact Nat.ne_of_lt (Nat.lt_of_lt_of_le (by have := World.block_lt_of_cell? _ _ hw433_0; first | rwa [add_block] at this | exact this) GW428.out)) | (show (Addr.add _ _).block ≠ _; rw [add_block]; exact Nat.ne_of_lt (Nat.lt_of_lt_of_le (by have := World.block_lt_of_cell? _ _ hw433_0; first | rwa [add_block] at this | exact this) GW428.out)) | (dsimp only; exact Nat.ne_of_lt (Nat.lt_of_lt_of_le (by have := World.block_lt_of_cell? _ _ hw433_0; first | rwa [add_block] at this | exact this) GW428.out))) _).trans (((cell_far (p := ⟨gb428, _, none⟩) (by first | exact Nat.ne_of_lt (Nat.lt_of_lt_of_le (by have := World.block_lt_of_cell? _ _ hw433_0; first | rwa [add_block] at this | exact this) GW428.out) | (rw [add_block]; exact Nat.ne_of_lt (Nat.lt_of_lt_of_le (by have := World.block_lt_of_cell? _ _ hw433_0; first | rwa [add_block] at this | exact this) GW428.out)) | (show (Addr.add _ _).block ≠ _; rw [add_block]; exact Nat.ne_of_lt (Nat.lt_of_lt_of_le (by have := World.block_lt_of_cell? _ _ hw433_0; first | rwa [add_block] at this | exact this) GW428.out)) | (dsimp only; exact Nat.ne_of_lt (Nat.lt_of_lt_of_le (by have := World.block_lt_of_cell? _ _ hw433_0; first | rwa [add_block] at this | exact this) GW428.out))) _).trans (hHeld.1)))))))), ((cell_far (p := ⟨gb428, _, none⟩) (by first | exact Nat.ne_of_lt (Nat.lt_of_lt_of_le (by have := World.block_lt_of_cell? _ _ hw433_1; first | rwa [add_block] at this | exact this) GW428.out) | (rw [add_block]; exact Nat.ne_of_lt (Nat.lt_of_lt_of_le (by have := World.block_lt_of_cell? _ _ hw433_1; first | rwa [add_block] at this | exact this) GW428.out)) | (show (Addr.add _ _).block ≠ _; rw [add_block]; exact Nat.ne_of_lt (Nat.lt_of_lt_of_le (by have := World.block_lt_of_cell? _ _ hw433_1; first | rwa [add_block] at this | exact this) GW428.out)) | (dsimp only; exact Nat.ne_of_lt (Nat.lt_of_lt_of_le (by have := World.block_lt_of_cell? _ _ hw433_1; first | rwa [add_block] at this | exact this) GW428.out))) _).trans (((cell_far (p := ⟨gb428, _, none⟩) (by first | exact Nat.ne_of_lt (Nat.lt_of_lt_of_le (by have := World.block_lt_of_cell? _ _ hw433_1; first | rwa [add_block] at this | exact this) GW428.out) | (rw [add_block]; exact Nat.ne_of_lt (Nat.lt_of_lt_of_le (by have := World.block_lt_of_cell? _ _ hw433_1; first | rwa [add_block] at this | exact this) GW428.out)) | (show (Addr.add _ _).block ≠ _; rw [add_block]; exact Nat.ne_of_lt (Nat.lt_of_lt_of_le (by have := World.block_lt_of_cell? _ _ hw433_1; first | rwa [add_block] at this | exact this) GW428.out)) | (dsimp only; exact Nat.ne_of_lt (Nat.lt_of_lt_of_le (by have := World.block_lt_of_cell? _ _ hw433_1; first | rwa [add_block] at this | exact this) GW428.out))) _).trans (((cell_far (p := ⟨gb428, _, none⟩) (by first | exact Nat.ne_of_lt (Nat.lt_of_lt_of_le (by have := World.block_lt_of_cell? _ _ hw433_1; first | rwa [add_block] at this | exact this) GW428.out) | (rw [add_block]; exact Nat.ne_of_lt (Nat.lt_of_lt_of_le (by have := World.block_lt_of_cell? _ _ hw433_1; first | rwa [add_block] at this | exact this) GW428.out)) | (show (Addr.add _ _).block ≠ _; rw [add_block]; exact Nat.ne_of_lt (Nat.lt_of_lt_of_le (by have := World.block_lt_of_cell? _ _ hw433_1; first | rwa [add_block] at this | exact this) GW428.out)) | (dsimp only; exact Nat.ne_of_lt (Nat.lt_of_lt_of_le (by have := World.block_lt_of_cell? _ _ hw433_1; first | rwa [add_block] at this | exact this) GW428.out))) _).trans (((cell_far (p := ⟨gb428, _, none⟩) (by first | exact Nat.ne_of_lt (Nat.lt_of_lt_of_le (by have := World.block_lt_of_cell? _ _ hw433_1; first | rwa [add_block] at this | exact this) GW428.out) | (rw [add_block]; exact Nat.ne_of_lt (Nat.lt_of_lt_of_le (by have := World.block_lt_of_cell? _ _ hw433_1; first | rwa [add_block] at this | exact this) GW428.out)) | (show (Addr.add _ _).block ≠ _; rw [add_block]; exact Nat.ne_of_lt (Nat.lt_of_lt_of_le (by have := World.block_lt_of_cell? _ _ hw433_1; first | rwa [add_block] at this | exact this) GW428.out)) | (dsimp only; exact Nat.ne_of_lt (Nat.lt_of_lt_of_le (by have := World.block_lt_of_cell? _ _ hw433_1; first | rwa [add_block] at this | exact this) GW428.out))) _).trans (hHeld.2.1)))))))), ((cell_far (p := ⟨gb428, _, none⟩) (by first | exact Nat.ne_of_lt (Nat.lt_of_lt_of_le (by have := World.block_lt_of_cell? _ _ hw433_2; first | rwa [add_block] at this | exact this) GW428.out) | (rw [add_block]; exact Nat.ne_of_lt (Nat.lt_of_lt_of_le (by have := World.block_lt_of_cell? _ _ hw433_2; first | rwa [add_block] at this | exact this) GW428.out)) | (show (Addr.add _ _).block ≠ _; rw [add_block]; exact Nat.ne_of_lt (Nat.lt_of_lt_of_le (by have := World.block_lt_of_cell? _ _ hw433_2; first | rwa [add_block] at this | exact this) GW428.out)) | (dsimp only; exact Nat.ne_of_lt (Nat.lt_of_lt_of_le (by have := World.block_lt_of_cell? _ _ hw433_2; first | rwa [add_block] at this | exact this) GW428.out))) _).trans (((cell_far (p := ⟨gb428, _, none⟩) (by first | exact Nat.ne_of_lt (Nat.lt_of_lt_of_le (by have := World.block_lt_of_cell? _ _ hw433_2; first | rwa [add_block] at this | exact this) GW428.out) | (rw [add_block]; exact Nat.ne_of_lt (Nat.lt_of_lt_of_le (by have := World.block_lt_of_cell? _ _ hw433_2; first | rwa [add_block] at this | exact this) GW428.out)) | (show (Addr.add _ _).block ≠ _; rw [add_block]; exact Nat.ne_of_lt (Nat.lt_of_lt_of_le (by have := World.block_lt_of_cell? _ _ hw433_2; first | rwa [add_block] at this | exact this) GW428.out)) | (dsimp only; exact Nat.ne_of_lt (Nat.lt_of_lt_of_le (by have := World.block_lt_of_cell? _ _ hw433_2; first | rwa [add_block] at this | exact this) GW428.out))) _).trans (((cell_far (p := ⟨gb428, _, none⟩) (by first | exact Nat.ne_of_lt (Nat.lt_of_lt_of_le (by have := World.block_lt_of_cell? _ _ hw433_2; first | rwa [add_block] at this | exact this) GW428.out) | (rw [add_block]; exact Nat.ne_of_lt (Nat.lt_of_lt_of_le (by have := World.block_lt_of_cell? _ _ hw433_2; first | rwa [add_block] at this | exact this) GW428.out)) | (show (Addr.add _ _).block ≠ _; rw [add_block]; exact Nat.ne_of_lt (Nat.lt_of_lt_of_le (by have := World.block_lt_of_cell? _ _ hw433_2; first | rwa [add_block] at this | exact this) GW428.out)) | (dsimp only; exact Nat.ne_of_lt (Nat.lt_of_lt_of_le (by have := World.block_lt_of_cell? _ _ hw433_2; first | rwa [add_block] at this | exact this) GW428.out))) _).trans (((cell_far (p := ⟨gb428, _, none⟩) (by first | exact Nat.ne_of_lt (Nat.lt_of_lt_of_le (by have := World.block_lt_of_cell? _ _ hw433_2; first | rwa [add_block] at this | exact this) GW428.out) | (rw [add_block]; exact Nat.ne_of_lt (Nat.lt_of_lt_of_le (by have := World.block_lt_of_cell? _ _ hw433_2; first | rwa [add_block] at this | exact this) GW428.out)) | (show (Addr.add _ _).block ≠ _; rw [add_block]; exact Nat.ne_of_lt (Nat.lt_of_lt_of_le (by have := World.block_lt_of_cell? _ _ hw433_2; first | rwa [add_block] at this | exact this) GW428.out)) | (dsimp only; exact Nat.ne_of_lt (Nat.lt_of_lt_of_le (by have := World.block_lt_of_cell? _ _ hw433_2; first | rwa [add_block] at this | exact this) GW428.out))) _).trans (hHeld.2.2.1)))))))), ((cell_far (p := ⟨gb428, _, none⟩) (by first | exact Nat.ne_of_lt (Nat.lt_of_lt_of_le (by have := World.block_lt_of_cell? _ _ hw433_3; first | rwa [add_block] at this | exact this) GW428.out) | (rw [add_block]; exact Nat.ne_of_lt (Nat.lt_of_lt_of_le (by have := World.block_lt_of_cell? _ _ hw433_3; first | rwa [add_block] at this | exact this) GW428.out)) | (show (Addr.add _ _).block ≠ _; rw [add_block]; exact Nat.ne_of_lt (Nat.lt_of_lt_of_le (by have := World.block_lt_of_cell? _ _ hw433_3; first | rwa [add_block] at this | exact this) GW428.out)) | (dsimp only; exact Nat.ne_of_lt (Nat.lt_of_lt_of_le (by have := World.block_lt_of_cell? _ _ hw433_3; first | rwa [add_block] at this | exact this) GW428.out))) _).trans (((cell_far (p := ⟨gb428, _, none⟩) (by first | exact Nat.ne_of_lt (Nat.lt_of_lt_of_le (by have := World.block_lt_of_cell? _ _ hw433_3; first | rwa [add_block] at this | exact this) GW428.out) | (rw [add_block]; exact Nat.ne_of_lt (Nat.lt_of_lt_of_le (by have := World.block_lt_of_cell? _ _ hw433_3; first | rwa [add_block] at this | exact this) GW428.out)) | (show (Addr.add _ _).block ≠ _; rw [add_block]; exact Nat.ne_of_lt (Nat.lt_of_lt_of_le (by have := World.block_lt_of_cell? _ _ hw433_3; first | rwa [add_block] at this | exact this) GW428.out)) | (dsimp only; exact Nat.ne_of_lt (Nat.lt_of_lt_of_le (by have := World.block_lt_of_cell? _ _ hw433_3; first | rwa [add_block] at this | exact this) GW428.out))) _).trans (((cell_far (p := ⟨gb428, _, none⟩) (by first | exact Nat.ne_of_lt (Nat.lt_of_lt_of_le (by have := World.block_lt_of_cell? _ _ hw433_3; first | rwa [add_block] at this | exact this) GW428.out) | (rw [add_block]; exact Nat.ne_of_lt (Nat.lt_of_lt_of_le (by have := World.block_lt_of_cell? _ _ hw433_3; first | rwa [add_block] at this | exact this) GW428.out)) | (show (Addr.add _ _).block ≠ _; rw [add_block]; exact Nat.ne_of_lt (Nat.lt_of_lt_of_le (by have := World.block_lt_of_cell? _ _ hw433_3; first | rwa [add_block] at this | exact this) GW428.out)) | (dsimp only; exact Nat.ne_of_lt (Nat.lt_of_lt_of_le (by have := World.block_lt_of_cell? _ _ hw433_3; first | rwa [add_block] at this | exact this) GW428.out))) _).trans (((cell_far (p := ⟨gb428, _, none⟩) (by first | exact Nat.ne_of_lt (Nat.lt_of_lt_of_le (by have := World.block_lt_of_cell? _ _ hw433_3; first | rwa [add_block] at this | exact this) GW428.out) | (rw [add_block]; exact Nat.ne_of_lt (Nat.lt_of_lt_of_le (by have := World.block_lt_of_cell? _ _ hw433_3; first | rwa [add_block] at this | exact this) GW428.out)) | (show (Addr.add _ _).block ≠ _; rw [add_block]; exact Nat.ne_of_lt (Nat.lt_of_lt_of_le (by have := World.block_lt_of_cell? _ _ hw433_3; first | rwa [add_block] at this | exact this) GW428.out)) | (dsimp only; exact Nat.ne_of_lt (Nat.lt_of_lt_of_le (by have := World.block_lt_of_cell? _ _ hw433_3; first | rwa [add_block] at this | exact this) GW428.out))) _).trans (hHeld.2.2.2.1)))))))), ((cell_far (p := ⟨gb428, _, none⟩) (by first | exact Nat.ne_of_lt (Nat.lt_of_lt_of_le (by have := World.block_lt_of_cell? _ _ hw433_4; first | rwa [add_block] at this | exact this) GW428.out) | (rw [add_block]; exact Nat.ne_of_lt (Nat.lt_of_lt_of_le (by have := World.block_lt_of_cell? _ _ hw433_4; first | rwa [add_block] at this | exact this) GW428.out)) | (show (Addr.add _ _).block ≠ _; rw [add_block]; exact Nat.ne_of_lt (Nat.lt_of_lt_of_le (by have := World.block_lt_of_cell? _ _ hw433_4; first | rwa [add_block] at this | exact this) GW428.out)) | (dsimp only; exact Nat.ne_of_lt (Nat.lt_of_lt_of_le (by have := World.block_lt_of_cell? _ _ hw433_4; first | rwa [add_block] at this | exact this) GW428.out))) _).trans (((cell_far (p := ⟨gb428, _, none⟩) (by first | exact Nat.ne_of_lt (Nat.lt_of_lt_of_le (by have := World.block_lt_of_cell? _ _ hw433_4; first | rwa [add_block] at this | exact this) GW428.out) | (rw [add_block]; exact Nat.ne_of_lt (Nat.lt_of_lt_of_le (by have := World.block_lt_of_cell? _ _ hw433_4; first | rwa [add_block] at this | exact this) GW428.out)) | (show (Addr.add _ _).block ≠ _; rw [add_block]; exact Nat.ne_of_lt (Nat.lt_of_lt_of_le (by have := World.block_lt_of_cell? _ _ hw433_4; first | rwa [add_block] at this | exact this) GW428.out)) | (dsimp only; exact Nat.ne_of_lt (Nat.lt_of_lt_of_le (by have := World.block_lt_of_cell? _ _ hw433_4; first | rwa [add_block] at this | exact this) GW428.out))) _).trans (((cell_far (p := ⟨gb428, _, none⟩) (by first | exact Nat.ne_of_lt (Nat.lt_of_lt_of_le (by have := World.block_lt_of_cell? _ _ hw433_4; first | rwa [add_block] at this | exact this) GW428.out) | (rw [add_block]; exact Nat.ne_of_lt (Nat.lt_of_lt_of_le (by have := World.block_lt_of_cell? _ _ hw433_4; first | rwa [add_block] at this | exact this) GW428.out)) | (show (Addr.add _ _).block ≠ _; rw [add_block]; exact Nat.ne_of_lt (Nat.lt_of_lt_of_le (by have := World.block_lt_of_cell? _ _ hw433_4; first | rwa [add_block] at this | exact this) GW428.out)) | (dsimp only; exact Nat.ne_of_lt (Nat.lt_of_lt_of_le (by have := World.block_lt_of_cell? _ _ hw433_4; first | rwa [add_block] at this | exact this) GW428.out))) _).trans (((cell_far (p := ⟨gb428, _, none⟩) (by first | exact Nat.ne_of_lt (Nat.lt_of_lt_of_le (by have := World.block_lt_of_cell? _ _ hw433_4; first | rwa [add_block] at this | exact this) GW428.out) | (rw [add_block]; exact Nat.ne_of_lt (Nat.lt_of_lt_of_le (by have := World.block_lt_of_cell? _ _ hw433_4; first | rwa [add_block] at this | exact this) GW428.out)) | (show (Addr.add _ _).block ≠ _; rw [add_block]; exact Nat.ne_of_lt (Nat.lt_of_lt_of_le (by have := World.block_lt_of_cell? _ _ hw433_4; first | rwa [add_block] at this | exact this) GW428.out)) | (dsimp only; exact Nat.ne_of_lt (Nat.lt_of_lt_of_le (by have := World.block_lt_of_cell? _ _ hw433_4; first | rwa [add_block] at this | exact this) GW428.out))) _).trans (hHeld.2.2.2.2.1)))))))), ((cell_far (p := ⟨gb428, _, none⟩) (by first | exact Nat.ne_of_lt (Nat.lt_of_lt_of_le (by have := World.block_lt_of_cell? _ _ hw433_5; first | rwa [add_block] at this | exact this) GW428.out) | (rw [add_block]; exact Nat.ne_of_lt (Nat.lt_of_lt_of_le (by have := World.block_lt_of_cell? _ _ hw433_5; first | rwa [add_block] at this | exact this) GW428.out)) | (show (Addr.add _ _).block ≠ _; rw [add_block]; exact Nat.ne_of_lt (Nat.lt_of_lt_of_le (by have := World.block_lt_of_cell? _ _ hw433_5; first | rwa [add_block] at this | exact this) GW428.out)) | (dsimp only; exact Nat.ne_of_lt (Nat.lt_of_lt_of_le (by have := World.block_lt_of_cell? _ _ hw433_5; first | rwa [add_block] at this | exact this) GW428.out))) _).trans (((cell_far (p := ⟨gb428, _, none⟩) (by first | exact Nat.ne_of_lt (Nat.lt_of_lt_of_le (by have := World.block_lt_of_cell? _ _ hw433_5; first | rwa [add_block] at this | exact this) GW428.out) | (rw [add_block]; exact Nat.ne_of_lt (Nat.lt_of_lt_of_le (by have := World.block_lt_of_cell? _ _ hw433_5; first | rwa [add_block] at this | exact this) GW428.out)) | (show (Addr.add _ _).block ≠ _; rw [add_block]; exact Nat.ne_of_lt (Nat.lt_of_lt_of_le (by have := World.block_lt_of_cell? _ _ hw433_5; first | rwa [add_block] at this | exact this) GW428.out)) | (dsimp only; exact Nat.ne_of_lt (Nat.lt_of_lt_of_le (by have := World.block_lt_of_cell? _ _ hw433_5; first | rwa [add_block] at this | exact this) GW428.out))) _).trans (((cell_far (p := ⟨gb428, _, none⟩) (by first | exact Nat.ne_of_lt (Nat.lt_of_lt_of_le (by have := World.block_lt_of_cell? _ _ hw433_5; first | rwa [add_block] at this | exact this) GW428.out) | (rw [add_block]; exact Nat.ne_of_lt (Nat.lt_of_lt_of_le (by have := World.block_lt_of_cell? _ _ hw433_5; first | rwa [add_block] at this | exact this) GW428.out)) | (show (Addr.add _ _).block ≠ _; rw [add_block]; exact Nat.ne_of_lt (Nat.lt_of_lt_of_le (by have := World.block_lt_of_cell? _ _ hw433_5; first | rwa [add_block] at this | exact this) GW428.out)) | (dsimp only; exact Nat.ne_of_lt (Nat.lt_of_lt_of_le (by have := World.block_lt_of_cell? _ _ hw433_5; first | rwa [add_block] at this | exact this) GW428.out))) _).trans (((cell_far (p := ⟨gb428, _, none⟩) (by first | exact Nat.ne_of_lt (Nat.lt_of_lt_of_le (by have := World.block_lt_of_cell? _ _ hw433_5; first | rwa [add_block] at this | exact this) GW428.out) | (rw [add_block]; exact Nat.ne_of_lt (Nat.lt_of_lt_of_le (by have := World.block_lt_of_cell? _ _ hw433_5; first | rwa [add_block] at this | exact this) GW428.out)) | (show (Addr.add _ _).block ≠ _; rw [add_block]; exact Nat.ne_of_lt (Nat.lt_of_lt_of_le (by have := World.block_lt_of_cell? _ _ hw433_5; first | rwa [add_block] at this | exact this) GW428.out)) | (dsimp only; exact Nat.ne_of_lt (Nat.lt_of_lt_of_le (by have := World.block_lt_of_cell? _ _ hw433_5; first | rwa [add_block] at this | exact this) GW428.out))) _).trans (hHeld.2.2.2.2.2))))))))⟩ (fun hHeld => ?_)
                clear hK K
                refine done_ (done_of HT_.out (by kernel_rfl)) ?_
                try go_wp2
                go_roundg k1
                case measure => have := HK1.out; omega
                case rel => exact ⟨(ji15), (wrap64 (x8_1 + 1)), ((rd_T109 l0 x8_1).f0.f0), ((rd_T109 l0 x8_1).f0.f1), ((rd_T109 l0 x8_1).f0.f2), ((rd_T109 l0 x8_1).f0.f3), (by first | rfl | (simp; done) | (simp only [← hji15] <;> (first | rfl | simp)) | (simp [*]; done)), (by first | rfl | (simp; done) | (simp [*]; done)), H', ⟨by have := HK1.out; omega⟩, ⟨by (with_reducible repeat (first | refine blk_drewN ?_ _ | refine blk_drew ?_ | refine blk_alloc ?_ _)); refine blk_far ?_ NB426_428.out _; (with_reducible repeat (first | refine blk_drewN ?_ _ | refine blk_drew ?_ | refine blk_alloc ?_ _)); refine blk_far ?_ NB426_428.out _; (with_reducible repeat (first | refine blk_drewN ?_ _ | refine blk_drew ?_ | refine blk_alloc ?_ _)); refine blk_far ?_ NB426_428.out _; (with_reducible repeat (first | refine blk_drewN ?_ _ | refine blk_drew ?_ | refine blk_alloc ?_ _)); refine blk_far ?_ NB426_428.out _; (with_reducible repeat (first | refine blk_drewN ?_ _ | refine blk_drew ?_ | refine blk_alloc ?_ _)); exact BK426.out⟩, ⟨by (with_reducible repeat (first | refine blk_drewN ?_ _ | refine blk_drew ?_ | refine blk_alloc ?_ _)); refine blk_put (cs := #[.string ((rd_T109 l0 x8_1).f0.f0), .int .i64 ((rd_T109 l0 x8_1).f0.f1), .int .i64 ((rd_T109 l0 x8_1).f0.f2), .int .i64 x429003_1]) ?_ 3 _ rfl; (with_reducible repeat (first | refine blk_drewN ?_ _ | refine blk_drew ?_ | refine blk_alloc ?_ _)); refine blk_put (cs := #[.string ((rd_T109 l0 x8_1).f0.f0), .int .i64 ((rd_T109 l0 x8_1).f0.f1), .int .i64 x429002_1, .int .i64 x429003_1]) ?_ 2 _ rfl; (with_reducible repeat (first | refine blk_drewN ?_ _ | refine blk_drew ?_ | refine blk_alloc ?_ _)); refine blk_put (cs := #[.string ((rd_T109 l0 x8_1).f0.f0), .int .i64 x429001_1, .int .i64 x429002_1, .int .i64 x429003_1]) ?_ 1 _ rfl; (with_reducible repeat (first | refine blk_drewN ?_ _ | refine blk_drew ?_ | refine blk_alloc ?_ _)); refine blk_put (cs := #[.string x429000_1, .int .i64 x429001_1, .int .i64 x429002_1, .int .i64 x429003_1]) ?_ 0 _ rfl; (with_reducible repeat (first | refine blk_drewN ?_ _ | refine blk_drew ?_ | refine blk_alloc ?_ _)); exact BK428.out⟩, ⟨by repeat (first | (with_reducible first | exact HB.out | apply below_alloc | apply pw_below_drewN | apply below_drew1 | refine below_set ?_ GE426.out | refine below_set ?_ GE428.out) | exact HB.out)⟩⟩
              · rw [if_neg c19] at H
                have c19b0 : decide (x6_1 < (ji15)) = false := decide_eq_false c19
                clear c19
                (try simp only [c19b0])
                have H' := Aside0.mk H
                clear H
                go_wp2
                go_roundg k1
                case measure => have := HK1.out; omega
                case rel => exact ⟨(x6_1), (wrap64 (x8_1 + 1)), (x429000_1), (x429001_1), (x429002_1), (x429003_1), (by first | rfl | (simp; done) | (simp [*]; done)), (by first | rfl | (simp; done) | (simp [*]; done)), H', ⟨by have := HK1.out; omega⟩, ⟨by (with_reducible repeat (first | refine blk_drewN ?_ _ | refine blk_drew ?_ | refine blk_alloc ?_ _)); exact BK426.out⟩, ⟨by (with_reducible repeat (first | refine blk_drewN ?_ _ | refine blk_drew ?_ | refine blk_alloc ?_ _)); exact BK428.out⟩, ⟨by repeat (first | (with_reducible first | exact HB.out | apply below_alloc | apply pw_below_drewN | apply below_drew1 | refine below_set ?_ GE426.out | refine below_set ?_ GE428.out) | exact HB.out)⟩⟩
            · rw [if_neg c12] at H
              exact absurd H (by simp)
          · rw [if_neg c11] at H
            have c11b0 : decide (x8_1 < (l0.length : Int)) = false := decide_eq_false c11
            clear c11
            (try simp only [c11b0])
            simp only [Option.some.injEq, Prod.mk.injEq] at H
            obtain ⟨rfl, rfl, rfl, rfl, rfl, rfl⟩ := H
            try go_wp2
            have n0_ := Aside0.mk (blk_drew BK426.out)
            have n1_ := Aside0.mk (blk_drew BK428.out)
            have n2_ := Aside0.mk (below_drew1 HB.out)
            clear BK426
            clear BK428
            clear HB
            have BK426 := n0_
            have BK428 := n1_
            have HB := n2_
            clear n0_ n1_ n2_
            refine start_ (n := 5) (S := fun w' => w'.cell? ⟨gb428, 0, none⟩ = some (.string x429000_1) ∧ w'.cell? ⟨gb428, 1, none⟩ = some (.int .i64 x429001_1) ∧ w'.cell? ⟨gb428, 2, none⟩ = some (.int .i64 x429002_1) ∧ w'.cell? ⟨gb428, 3, none⟩ = some (.int .i64 x429003_1)) (ds := []) #[false, false, false, false, false] (by kernel_rfl) rfl rfl ⟨(blk_cell BK428.out 0).trans rfl, (blk_cell BK428.out 1).trans rfl, (blk_cell BK428.out 2).trans rfl, (blk_cell BK428.out 3).trans rfl⟩ (fun hHeld => ?_)
            generalize wr.drew = w25 at BK426 BK428 HB hHeld ⊢
            refine pure_ (i := 0) (N := some 48) (v := ?_) (a' := ?_) #[true, false, false, false, false] rfl rfl (by kernel_rfl) (fun _ _ _ h => h) (Or.inl ⟨by rfl, ?_⟩) ?_ ?_
            rotate_left
            · intro w'
              go_simp
              with_reducible rfl
            rotate_left
            · simp only [Act.put, List.setIfInBounds_toArray, List.set_cons_zero, List.set_cons_succ, i64_w, i32_w]
              rfl
            refine pure_ (i := 2) (N := some 2) (v := ?_) (a' := ?_) #[true, false, true, false, false] rfl rfl (by kernel_rfl) (fun _ _ _ h => h) (Or.inl ⟨by rfl, ?_⟩) ?_ ?_
            rotate_left
            · intro w'
              go_simp
              with_reducible rfl
            rotate_left
            · simp only [Act.put, List.setIfInBounds_toArray, List.set_cons_zero, List.set_cons_succ, i64_w, i32_w]
              rfl
            refine take_ (i := 1) (N := some 49) (v := ?_) (a' := ?_) #[true, true, true, false, false] rfl rfl (by kernel_rfl) (fun _ _ _ h => h) (Or.inl ⟨by rfl, ?_⟩) hHeld ?_ ?_
            rotate_left
            · rintro w' ⟨s0, s1, s2, s3⟩
              go_simp
              with_reducible rfl
            rotate_left
            · simp only [Act.put, List.setIfInBounds_toArray, List.set_cons_zero, List.set_cons_succ, i64_w, i32_w]
              rfl
            refine one_ (i := 3) (N := none) #[true, true, true, true, false] rfl rfl (by kernel_rfl) (by decide) (fun K hK => ?_)
            have hs26 : w25.cell? ⟨gb426, 0, none⟩ = some (.string (⟨#[]⟩ : ByteArray)) := (blk_cell BK426.out 0).trans rfl
            have hfs26 := blk_frozen BK426.out 0
            have hns26_1 := NB428_426.out
            have hms26_1 := NB426_428.out
            have hs27 : w25.cell? ⟨gb426, 1, none⟩ = some (.int .i64 0) := (blk_cell BK426.out 1).trans rfl
            have hfs27 := blk_frozen BK426.out 1
            have hns27_1 := NB428_426.out
            have hms27_1 := NB426_428.out
            have hs28 : w25.cell? ⟨gb426, 2, none⟩ = some (.int .i64 0) := (blk_cell BK426.out 2).trans rfl
            have hfs28 := blk_frozen BK426.out 2
            have hns28_1 := NB428_426.out
            have hms28_1 := NB426_428.out
            have hs29 : w25.cell? ⟨gb426, 3, none⟩ = some (.int .i64 0) := (blk_cell BK426.out 3).trans rfl
            have hfs29 := blk_frozen BK426.out 3
            have hns29_1 := NB428_426.out
            have hms29_1 := NB426_428.out
            refine skip_ (w1 := ?_) (by rfl) rfl ?_ ?_
            rotate_left
            · go_simp
              rfl
            refine hK.out _ _ ⟨((cell_far (p := ⟨gb426, _, none⟩) NB428_426.out _).trans (((cell_far (p := ⟨gb426, _, none⟩) NB428_426.out _).trans (((cell_far (p := ⟨gb426, _, none⟩) NB428_426.out _).trans (((cell_far (p := ⟨gb426, _, none⟩) NB428_426.out _).trans (hHeld.1)))))))), ((cell_far (p := ⟨gb426, _, none⟩) NB428_426.out _).trans (((cell_far (p := ⟨gb426, _, none⟩) NB428_426.out _).trans (((cell_far (p := ⟨gb426, _, none⟩) NB428_426.out _).trans (((cell_far (p := ⟨gb426, _, none⟩) NB428_426.out _).trans (hHeld.2.1)))))))), ((cell_far (p := ⟨gb426, _, none⟩) NB428_426.out _).trans (((cell_far (p := ⟨gb426, _, none⟩) NB428_426.out _).trans (((cell_far (p := ⟨gb426, _, none⟩) NB428_426.out _).trans (((cell_far (p := ⟨gb426, _, none⟩) NB428_426.out _).trans (hHeld.2.2.1)))))))), ((cell_far (p := ⟨gb426, _, none⟩) NB428_426.out _).trans (((cell_far (p := ⟨gb426, _, none⟩) NB428_426.out _).trans (((cell_far (p := ⟨gb426, _, none⟩) NB428_426.out _).trans (((cell_far (p := ⟨gb426, _, none⟩) NB428_426.out _).trans (hHeld.2.2.2))))))))⟩ (fun hHeld => ?_)
            clear hK K
            refine pure_ (i := 4) (N := some 4) (v := ?_) (a' := ?_) #[true, true, true, true, true] rfl rfl (by kernel_rfl) (fun _ _ _ h => h) (Or.inl ⟨by rfl, ?_⟩) ?_ ?_
            rotate_left
            · intro w'
              go_simp
              with_reducible rfl
            rotate_left
            · simp only [Act.put, List.setIfInBounds_toArray, List.set_cons_zero, List.set_cons_succ, i64_w, i32_w]
              rfl
            refine done_ (by kernel_rfl) ?_
            try go_wp2
            refine bodyPost_ret (results_list (rs := [.tmp 2, .cell 3 58, .tmp 4]) rfl (by simp) (.tmp (.cell gb426 58 #[.string x429000_1, .int .i64 x429001_1, .int .i64 x429002_1, .int .i64 x429003_1] (0, 0) _ rfl (by (with_reducible repeat (first | refine blk_drewN ?_ _ | refine blk_drew ?_ | refine blk_alloc ?_ _)); refine blk_put (cs := #[.string x429000_1, .int .i64 x429001_1, .int .i64 x429002_1, .int .i64 0]) ?_ 3 _ rfl; (with_reducible repeat (first | refine blk_drewN ?_ _ | refine blk_drew ?_ | refine blk_alloc ?_ _)); refine blk_put (cs := #[.string x429000_1, .int .i64 x429001_1, .int .i64 0, .int .i64 0]) ?_ 2 _ rfl; (with_reducible repeat (first | refine blk_drewN ?_ _ | refine blk_drew ?_ | refine blk_alloc ?_ _)); refine blk_put (cs := #[.string x429000_1, .int .i64 0, .int .i64 0, .int .i64 0]) ?_ 1 _ rfl; (with_reducible repeat (first | refine blk_drewN ?_ _ | refine blk_drew ?_ | refine blk_alloc ?_ _)); refine blk_put (cs := #[.string (⟨#[]⟩ : ByteArray), .int .i64 0, .int .i64 0, .int .i64 0]) ?_ 0 _ rfl; (with_reducible repeat (first | refine blk_drewN ?_ _ | refine blk_drew ?_ | refine blk_alloc ?_ _)); exact BK426.out) Try.underlying58 rfl (by kernel_rfl) (.tmp .nil)))) rfl ?_
            exact ⟨by first | rfl | (simp [errW_none, errW_some] <;> rfl) | (simp [*, errW_none, errW_some] <;> rfl), by repeat (first | (with_reducible first | exact HB.out | apply below_alloc | apply pw_below_drewN | apply below_drew1 | refine below_set ?_ GE426.out | refine below_set ?_ GE428.out) | exact HB.out)⟩
  · rw [if_neg c5] at H
    have c5b0 : (t427 == 0) = false := beq_eq_false_iff_ne.mpr c5
    have c5b1 : (t427 != 0) = true := bne_iff_ne.mpr c5
    (try simp only [c5b0, c5b1])
    simp only [Option.some.injEq, Prod.mk.injEq] at H
    obtain ⟨rfl, rfl, rfl, rfl, rfl, rfl⟩ := H
    have hcz30_0 : w4.cell? ⟨gb426, 0, none⟩ = some (.string (⟨#[]⟩ : ByteArray)) := (blk_cell BK426.out 0).trans rfl
    have hcz30_1 : w4.cell? ⟨gb426, 1, none⟩ = some (.int .i64 0) := (blk_cell BK426.out 1).trans rfl
    have hcz30_2 : w4.cell? ⟨gb426, 2, none⟩ = some (.int .i64 0) := (blk_cell BK426.out 2).trans rfl
    have hcz30_3 : w4.cell? ⟨gb426, 3, none⟩ = some (.int .i64 0) := (blk_cell BK426.out 3).trans rfl
    have hfz30_0 := blk_frozen BK426.out 0
    have hfz30_1 := blk_frozen BK426.out 1
    have hfz30_2 := blk_frozen BK426.out 2
    have hfz30_3 := blk_frozen BK426.out 3
    go_wp2
    refine bodyPost_ret (results_list (rs := [.tmp 2, .cell 3 58, .tmp 4]) rfl (by simp) (.tmp (.cell gb426 58 #[.string (⟨#[]⟩ : ByteArray), .int .i64 0, .int .i64 0, .int .i64 0] (0, 0) _ rfl (by (with_reducible repeat (first | refine blk_drewN ?_ _ | refine blk_drew ?_ | refine blk_alloc ?_ _)); refine blk_put (cs := #[.string (⟨#[]⟩ : ByteArray), .int .i64 0, .int .i64 0, .int .i64 0]) ?_ 3 _ rfl; (with_reducible repeat (first | refine blk_drewN ?_ _ | refine blk_drew ?_ | refine blk_alloc ?_ _)); refine blk_put (cs := #[.string (⟨#[]⟩ : ByteArray), .int .i64 0, .int .i64 0, .int .i64 0]) ?_ 2 _ rfl; (with_reducible repeat (first | refine blk_drewN ?_ _ | refine blk_drew ?_ | refine blk_alloc ?_ _)); refine blk_put (cs := #[.string (⟨#[]⟩ : ByteArray), .int .i64 0, .int .i64 0, .int .i64 0]) ?_ 1 _ rfl; (with_reducible repeat (first | refine blk_drewN ?_ _ | refine blk_drew ?_ | refine blk_alloc ?_ _)); refine blk_put (cs := #[.string (⟨#[]⟩ : ByteArray), .int .i64 0, .int .i64 0, .int .i64 0]) ?_ 0 _ rfl; (with_reducible repeat (first | refine blk_drewN ?_ _ | refine blk_drew ?_ | refine blk_alloc ?_ _)); exact BK426.out) Try.underlying58 rfl (by kernel_rfl) (.tmp .nil)))) rfl ?_
    exact ⟨by first | rfl | (simp [errW_none, errW_some] <;> rfl) | (simp [*, errW_none, errW_some] <;> rfl), by repeat (first | (with_reducible first | exact HB.out | apply below_alloc | apply pw_below_drewN | apply below_drew1 | refine below_set ?_ GE426.out) | exact HB.out)⟩
end Go.Proofs.Ytaiekjimdjlgbaa.Pr
