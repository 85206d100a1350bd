/- Functions' values and contracts, as the print wrote them. -/
import Derived.Test.YtggbflplbblgbaaQ58CP0
import Derived.Test.YtggbflplbblgbaaQ58CP2
import Derived.Test.YtggbflplbblgbaaQ58CP1
namespace Go.Proofs.Ytggbflplbblgbaa.Pr
open Go.RowKit Go.Proofs.YtggbflplbblgbaaW.PrintWords Go.Proofs.YtggbflplbblgbaaW.PrintLast Go.Proofs.YtggbflplbblgbaaW.PrintMore
attribute [local go_sem] max2_int min2_int max_two min_two max_three min_three max_four min_four   -- for this text's walks alone
set_option linter.unusedVariables false
set_option linter.unusedSimpArgs false
attribute [local go_sem high] eqA24
mutual
def pledge_Move.l0 : Nat → List (S26) → List (S26) → List (S26) → Int → Int → ByteArray → ByteArray → ByteArray → ByteArray → Option ((List (S26)) × Int)
 | 0, _, _, _, _, _, _, _, _, _ => none
 | k + 1, x0, x6, x31, x32, x33, x346000, x346001, x347000, x347001 => if x33 < x32 then (if 0 ≤ x33 then (if x33 < (x31.length : Int) then (if (!((((rd_T26 x31 x33).f0.f0).toList) == x346000.toList) || (!((((rd_T26 x31 x33).f0.f1).toList) == x346001.toList))) = true then (if x6.length < 2513169434916 then (pledge_Move.l0 k x0 (x6 ++ [(⟨(⟨(rd_T26 x31 x33).f0.f0, (rd_T26 x31 x33).f0.f1⟩ : S24), (rd_T26 x31 x33).f1, (rd_T26 x31 x33).f2⟩ : S26)]) x31 x32 (wrap64 (x33 + 1)) x346000 x346001 x347000 x347001) else (none)) else (pledge_Move.l0 k x0 x6 x31 x32 (wrap64 (x33 + 1)) x346000 x346001 x347000 x347001)) else (none)) else (none)) else ((pledge_Of.f k x0 x346000 x346001).bind fun t357 => (pledge_Move.l1 k x6 t357 (t357.length : Int) 0 x347000 x347001))
def pledge_Move.l1 : Nat → List (S26) → List (S26) → Int → Int → ByteArray → ByteArray → Option ((List (S26)) × Int)
 | 0, _, _, _, _, _, _ => none
 | k + 1, x6, x48, x49, x50, x347000, x347001 => if x50 < x49 then (if 0 ≤ x50 then (if x50 < (x48.length : Int) then ((pledge_with.f k x6 x347000 x347001 ((rd_T26 x48 x50).f1) ((rd_T26 x48 x50).f2)).bind fun bt362 => (if bt362.2 = 0 then (pledge_Move.l1 k bt362.1 x48 x49 (wrap64 (x50 + 1)) x347000 x347001) else (some (([] : List (S26)), bt362.2)))) else (none)) else (none)) else (some (x6, 0))
end
def pledge_Move.f (k : Nat) (l0 : List (S26)) (a1_0 : ByteArray) (a1_1 : ByteArray) (a2_0 : ByteArray) (a2_1 : ByteArray) : Option ((List (S26)) × Int) := (pledge_Check.f k l0).bind fun t347 => (if t347 = 0 then ((pledge_named.f k (([a1_0, a1_1, a2_0, a2_1] : List ByteArray))).bind fun t351 => (if t351 = true then (if (a1_0.toList == a2_0.toList && (a1_1.toList == a2_1.toList)) = true then (some (([] : List (S26)), 21)) else (pledge_Move.l0 k l0 ([] : List (S26)) l0 (l0.length : Int) 0 a1_0 a1_1 a2_0 a2_1)) else (some (([] : List (S26)), 10)))) else (some (([] : List (S26)), t347)))
theorem pledge_Move.mono_l : ∀ k, (∀ y0 y1 y2 y3 y4 y5 y6 y7 y8, LeO (pledge_Move.l0 k y0 y1 y2 y3 y4 y5 y6 y7 y8) (pledge_Move.l0 (k + 1) y0 y1 y2 y3 y4 y5 y6 y7 y8)) ∧ (∀ y0 y1 y2 y3 y4 y5, LeO (pledge_Move.l1 k y0 y1 y2 y3 y4 y5) (pledge_Move.l1 (k + 1) y0 y1 y2 y3 y4 y5))
 | 0 => ⟨fun _ _ _ _ _ _ _ _ _ r h => by simp [pledge_Move.l0] at h, fun _ _ _ _ _ _ r h => by simp [pledge_Move.l1] at h⟩
 | k + 1 => by
  obtain ⟨ih0, ih1⟩ := pledge_Move.mono_l k
  refine ⟨?_, ?_⟩
  ·intro y0 y1 y2 y3 y4 y5 y6 y7 y8
   unfold pledge_Move.l0
   repeat' first
   | (with_reducible exact ih0 _ _ _ _ _ _ _ _ _)
   | (with_reducible exact ih1 _ _ _ _ _ _)
   | (with_reducible exact pledge_Check.mono _ _)
   | (with_reducible exact pledge_Of.mono _ _ _ _)
   | (with_reducible exact pledge_named.mono _ _)
   | (with_reducible exact pledge_with.mono _ _ _ _ _ _)
   | (with_reducible exact LeO.refl _)
   | (with_reducible exact LeO.none _)
   | (with_reducible refine LeO.ite ?_ ?_)
   | (with_reducible refine LeO.bind ?_ (fun _ => ?_))
   | exact ih0 _ _ _ _ _ _ _ _ _
   | exact ih1 _ _ _ _ _ _
   | exact pledge_Check.mono _ _
   | exact pledge_Of.mono _ _ _ _
   | exact pledge_named.mono _ _
   | exact pledge_with.mono _ _ _ _ _ _
   | exact LeO.none _
   | refine LeO.ite ?_ ?_
   | refine LeO.bind ?_ (fun _ => ?_)
  ·intro y0 y1 y2 y3 y4 y5
   unfold pledge_Move.l1
   repeat' first
   | (with_reducible exact ih0 _ _ _ _ _ _ _ _ _)
   | (with_reducible exact ih1 _ _ _ _ _ _)
   | (with_reducible exact pledge_Check.mono _ _)
   | (with_reducible exact pledge_Of.mono _ _ _ _)
   | (with_reducible exact pledge_named.mono _ _)
   | (with_reducible exact pledge_with.mono _ _ _ _ _ _)
   | (with_reducible exact LeO.refl _)
   | (with_reducible exact LeO.none _)
   | (with_reducible refine LeO.ite ?_ ?_)
   | (with_reducible refine LeO.bind ?_ (fun _ => ?_))
   | exact ih0 _ _ _ _ _ _ _ _ _
   | exact ih1 _ _ _ _ _ _
   | exact pledge_Check.mono _ _
   | exact pledge_Of.mono _ _ _ _
   | exact pledge_named.mono _ _
   | exact pledge_with.mono _ _ _ _ _ _
   | exact LeO.none _
   | refine LeO.ite ?_ ?_
   | refine LeO.bind ?_ (fun _ => ?_)
theorem pledge_Move.mono : ∀ a0 a1 a2 a3 a4 k, LeO (pledge_Move.f k a0 a1 a2 a3 a4) (pledge_Move.f (k + 1) a0 a1 a2 a3 a4) := by
 intro a0 a1 a2 a3 a4 k
 obtain ⟨ih0, ih1⟩ := pledge_Move.mono_l k
 unfold pledge_Move.f
 repeat' first
   | (with_reducible exact ih0 _ _ _ _ _ _ _ _ _)
   | (with_reducible exact ih1 _ _ _ _ _ _)
   | (with_reducible exact pledge_Check.mono _ _)
   | (with_reducible exact pledge_Of.mono _ _ _ _)
   | (with_reducible exact pledge_named.mono _ _)
   | (with_reducible exact pledge_with.mono _ _ _ _ _ _)
   | (with_reducible exact LeO.refl _)
   | (with_reducible exact LeO.none _)
   | (with_reducible refine LeO.ite ?_ ?_)
   | (with_reducible refine LeO.bind ?_ (fun _ => ?_))
   | exact ih0 _ _ _ _ _ _ _ _ _
   | exact ih1 _ _ _ _ _ _
   | exact pledge_Check.mono _ _
   | exact pledge_Of.mono _ _ _ _
   | exact pledge_named.mono _ _
   | exact pledge_with.mono _ _ _ _ _ _
   | exact LeO.none _
   | refine LeO.ite ?_ ?_
   | refine LeO.bind ?_ (fun _ => ?_)
set_option maxHeartbeats 8000000 in
set_option maxRecDepth 100000 in
theorem pledge_Move.calls (k : Nat) (A0 : Option Addr) (c0 : Nat) (l0 : List (S26)) (a1_0 : ByteArray) (a1_1 : ByteArray) (a2_0 : ByteArray) (a2_1 : ByteArray) (r1 : List (S26)) (r2 : Int) (w : World) (hr0 : Kd.C k26 w A0 l0.length l0) (hc0 : l0.length ≤ c0) (h : pledge_Move.f k l0 a1_0 a1_1 a2_0 a2_1 = some (r1, r2)) :
  Calls Try.prog 25 #[.slice A0 l0.length c0, .agg #[.string a1_0, .string a1_1], .agg #[.string a2_0, .string a2_1]] w fun e w' => ∃ v0_ : Value, e = .returned (.tuple #[v0_, .int .i64 r2]) ∧ Kd.R k26 26 w' w.heap.size (fun _ => True) v0_ r1 ∧ Below w.heap.size w w' := by
 have hu24 := Try.underlying24
 have hu26 := Try.underlying26
 have HR0 := Aside0.mk hr0
 have HC0 := Aside0.mk hc0
 clear hr0 hc0
 have HB := Aside0.mk (Below.refl w.heap.size w)
 have H : ((pledge_Check.f k l0).bind fun t347 => (if t347 = 0 then ((pledge_named.f k (([a1_0, a1_1, a2_0, a2_1] : List ByteArray))).bind fun t351 => (if t351 = true then (if (a1_0.toList == a2_0.toList && (a1_1.toList == a2_1.toList)) = true then (some (([] : List (S26)), 21)) else (pledge_Move.l0 k l0 ([] : List (S26)) l0 (l0.length : Int) 0 a1_0 a1_1 a2_0 a2_1)) else (some (([] : List (S26)), 10)))) else (some (([] : List (S26)), t347)))) = some (r1, r2) := h
 clear h
 replace H := Option.bind_eq_some_iff.mp H
 obtain ⟨t347, A40, H⟩ := H
 replace H : (if t347 = 0 then ((pledge_named.f k (([a1_0, a1_1, a2_0, a2_1] : List ByteArray))).bind fun t351 => (if t351 = true then (if (a1_0.toList == a2_0.toList && (a1_1.toList == a2_1.toList)) = true then (some (([] : List (S26)), 21)) else (pledge_Move.l0 k l0 ([] : List (S26)) l0 (l0.length : Int) 0 a1_0 a1_1 a2_0 a2_1)) else (some (([] : List (S26)), 10)))) else (some (([] : List (S26)), t347))) = some (r1, r2) := H
 have A4 := Aside0.mk A40
 clear A40
 go_enter Try.func25, Try.ntmps25
 go_upto_if 15 with (first | ((with_reducible refine gate_dst (N := 4) rfl ?_); refine box_event ?hg (N := 4) ?hd (cs := #[.string a1_0, .string a1_1]) (t := 24) ?hr ?_; (case hd => rfl); (case hg => rfl); (case hr => first | (go_simp; done) | (go_simp; rfl)); intro gb345 hg w5 hbox hb; have n0_ := Aside0.mk (below_step (by repeat (first | (with_reducible first | exact HB.out | apply below_alloc | apply pw_below_drewN | apply below_drew1) | exact HB.out)) hb); have n1_ := Aside0.mk (hbox); have n2_ := Aside0.mk ((by rw [hg]; exact (below_size (by repeat (first | (with_reducible first | exact HB.out | apply below_alloc | apply pw_below_drewN | apply below_drew1) | exact HB.out))) : w.heap.size ≤ gb345)); have n3_ := Aside0.mk ((by rw [hg]; exact (below_size (by repeat (first | (with_reducible first | exact HB.out | apply below_alloc | apply pw_below_drewN | apply below_drew1) | exact HB.out))) : w.heap.size ≤ gb345)); clear HB; have HB := n0_; have BK345 := n1_; have GW345 := n2_; have GE345 := n3_; clear n0_ n1_ n2_ n3_; clear hb hbox hg) | ((with_reducible refine gate_dst (N := 5) rfl ?_); refine box_event ?hg (N := 5) ?hd (cs := #[.string a2_0, .string a2_1]) (t := 24) ?hr ?_; (case hd => rfl); (case hg => rfl); (case hr => first | (go_simp; done) | (go_simp; rfl)); intro gb346 hg w6 hbox hb; have n0_ := Aside0.mk (blk_below (g := gb345) (o := .cells #[.string a1_0, .string a1_1] 24 (0, 0)) (by (with_reducible repeat (first | refine blk_drewN ?_ _ | refine blk_drew ?_ | refine blk_alloc ?_ _)); exact BK345.out) hb); have n1_ := Aside0.mk (below_step (by repeat (first | (with_reducible first | exact HB.out | apply below_alloc | apply pw_below_drewN | apply below_drew1 | refine below_set ?_ GE345.out) | exact HB.out)) hb); have n2_ := Aside0.mk (hbox); have n3_ := Aside0.mk ((by rw [hg]; exact (below_size (by repeat (first | (with_reducible first | exact HB.out | apply below_alloc | apply pw_below_drewN | apply below_drew1 | refine below_set ?_ GE345.out) | exact HB.out))) : w.heap.size ≤ gb346)); have n4_ := Aside0.mk ((by rw [hg]; exact (below_size (by repeat (first | (with_reducible first | exact HB.out | apply below_alloc | apply pw_below_drewN | apply below_drew1 | refine below_set ?_ GE345.out) | exact HB.out))) : w.heap.size ≤ gb346)); have n5_ := Aside0.mk ((by rw [hg]; exact Nat.ne_of_lt (blk_lt (g := gb345) (o := .cells #[.string a1_0, .string a1_1] 24 (0, 0)) (by (with_reducible repeat (first | refine blk_drewN ?_ _ | refine blk_drew ?_ | refine blk_alloc ?_ _)); exact BK345.out)) : gb345 ≠ gb346)); have n6_ := Aside0.mk ((by rw [hg]; exact Nat.ne_of_gt (blk_lt (g := gb345) (o := .cells #[.string a1_0, .string a1_1] 24 (0, 0)) (by (with_reducible repeat (first | refine blk_drewN ?_ _ | refine blk_drew ?_ | refine blk_alloc ?_ _)); exact BK345.out)) : gb346 ≠ gb345)); clear BK345; clear HB; have BK345 := n0_; have HB := n1_; have BK346 := n2_; have GW346 := n3_; have GE346 := n4_; have NB345_346 := n5_; have NB346_345 := n6_; clear n0_ n1_ n2_ n3_ n4_ n5_ n6_; clear hb hbox hg) | ((with_reducible refine gate_callee (f := 20) rfl ?_); refine goesL_ (some 13) rfl rfl Try.func20 (by kernel_rfl) rfl #[.slice A0 l0.length c0] rfl (by (try simp only [List.map_toArray, List.map_cons, List.map_nil]); first | done | rfl | (simp only [List.length_drop, List.length_take]; rfl)) ?_; (with_reducible refine (pledge_Check.calls k _ _ l0 t347 _ ?side1 ?side2 A4.out).mono ?_); (case side1 => repeat (first | exact (Kd.C_below HR0.out HB.out) | (with_reducible refine Kd.C_alloc ?_ _) | (with_reducible refine Kd.C_drewN ?_ _) | (with_reducible refine Kd.C_drew ?_))); (case side2 => exact HC0.out); rintro e w7 ⟨rfl, hb⟩; refine ⟨_, rfl, ?_⟩; have n0_ := Aside0.mk (blk_below (g := gb345) (o := .cells #[.string a1_0, .string a1_1] 24 (0, 0)) (by (with_reducible repeat (first | refine blk_drewN ?_ _ | refine blk_drew ?_ | refine blk_alloc ?_ _)); exact BK345.out) hb); have n1_ := Aside0.mk (blk_below (g := gb346) (o := .cells #[.string a2_0, .string a2_1] 24 (0, 0)) (by (with_reducible repeat (first | refine blk_drewN ?_ _ | refine blk_drew ?_ | refine blk_alloc ?_ _)); exact BK346.out) hb); have n2_ := Aside0.mk (below_step (by repeat (first | (with_reducible first | exact HB.out | apply below_alloc | apply pw_below_drewN | apply below_drew1 | refine below_set ?_ GE345.out | refine below_set ?_ GE346.out) | exact HB.out)) hb); clear BK345; clear BK346; clear HB; have BK345 := n0_; have BK346 := n1_; have HB := n2_; clear n0_ n1_ n2_; (try clear hb); (try clear hb2); (try clear hk); (try clear hi)))
 (try simp only [Act.put, List.setIfInBounds_toArray, List.set_cons_zero, List.set_cons_succ])
 by_cases c8 : t347 = 0
 ·rw [if_pos c8] at H
  have c8b0 : (t347 == 0) = true := beq_iff_eq.mpr c8
  have c8b1 : (t347 != 0) = false := bne_eq_false_iff_eq.mpr c8
  clear c8
  (try simp only [c8b0, c8b1])
  obtain ⟨y348, hy348⟩ : ∃ y_ : List ByteArray, y_ = (([a1_0, a1_1, a2_0, a2_1] : List ByteArray)) := ⟨_, rfl⟩
  replace H : ((pledge_named.f k y348).bind fun t351 => (if t351 = true then (if (a1_0.toList == a2_0.toList && (a1_1.toList == a2_1.toList)) = true then (some (([] : List (S26)), 21)) else (pledge_Move.l0 k l0 ([] : List (S26)) l0 (l0.length : Int) 0 a1_0 a1_1 a2_0 a2_1)) else (some (([] : List (S26)), 10)))) = some (r1, r2) := by first | (rw [hy348]; with_reducible exact H) | (have H2_ := (Option.bind_some _ _).symm.trans H; rw [hy348]; with_reducible exact H2_) | (have H2_ := (Option.bind_some _ _).symm.trans H; with_reducible exact H2_) | with_reducible exact H | (rw [hy348]; exact H) | exact H
  have Ny348 := Aside0.mk hy348
  clear hy348
  replace H := Option.bind_eq_some_iff.mp H
  obtain ⟨t351, A90, H⟩ := H
  replace H : (if t351 = true then (if (a1_0.toList == a2_0.toList && (a1_1.toList == a2_1.toList)) = true then (some (([] : List (S26)), 21)) else (pledge_Move.l0 k l0 ([] : List (S26)) l0 (l0.length : Int) 0 a1_0 a1_1 a2_0 a2_1)) else (some (([] : List (S26)), 10))) = some (r1, r2) := H
  have A9 := Aside0.mk A90
  clear A90
  have hnb10 := NB345_346.out
  have hnc10 := NB346_345.out
  have hcz11_0 : w7.cell? ⟨gb345, 0, none⟩ = some (.string a1_0) := (blk_cell BK345.out 0).trans rfl
  have hcz11_1 : w7.cell? ⟨gb345, 1, none⟩ = some (.string a1_1) := (blk_cell BK345.out 1).trans rfl
  have hfz11_0 := blk_frozen BK345.out 0
  have hfz11_1 := blk_frozen BK345.out 1
  have hcz12_0 : w7.cell? ⟨gb346, 0, none⟩ = some (.string a2_0) := (blk_cell BK346.out 0).trans rfl
  have hcz12_1 : w7.cell? ⟨gb346, 1, none⟩ = some (.string a2_1) := (blk_cell BK346.out 1).trans rfl
  have hfz12_0 := blk_frozen BK346.out 0
  have hfz12_1 := blk_frozen BK346.out 1
  go_upto_if 27 with (first | ((with_reducible refine gate_dst (N := 25) rfl ?_); refine Kd.R_lit Kd.string _ 9 ?hg (N := 25) ?hd (xs := ([a1_0, a1_1, a2_0, a2_1] : List ByteArray)) (inner := [.string a1_0, .string a1_1, .string a2_0, .string a2_1]) (ok := fun _ => True) (okp := fun _ => True) ?hr ?hp (fun _ hk => hk) trivial (Below.refl _ _) (Nat.le_refl _) (by simp) ?_; (case hd => rfl); (case hg => rfl); (case hr => first | (go_simp; done) | (go_simp; rfl)); (case hp => exact (Reps.one (show Kd.M Kd.string _ _ _ a1_0 [.string a1_0] from rfl) (Reps.one (show Kd.M Kd.string _ _ _ a1_1 [.string a1_1] from rfl) (Reps.one (show Kd.M Kd.string _ _ _ a2_0 [.string a2_0] from rfl) (Reps.one (show Kd.M Kd.string _ _ _ a2_1 [.string a2_1] from rfl) (Reps.none _ _)))))); intro v349 w13 ho14 hb hg_ hnew_; clear hg_ hnew_; (first | rw [← Ny348.out] at ho14 | (simp only [Int.reduceToNat] at ho14; rw [← Ny348.out] at ho14)); have n0_ := Aside0.mk (Kd.R_lower ho14 (below_size (by repeat (first | (with_reducible first | exact HB.out | apply below_alloc | apply pw_below_drewN | apply below_drew1 | refine below_set ?_ GE345.out | refine below_set ?_ GE346.out) | exact HB.out)))); have n1_ := Aside0.mk (blk_below (g := gb345) (o := .cells #[.string a1_0, .string a1_1] 24 (0, 0)) (by (with_reducible repeat (first | refine blk_drewN ?_ _ | refine blk_drew ?_ | refine blk_alloc ?_ _)); exact BK345.out) hb); have n2_ := Aside0.mk (blk_below (g := gb346) (o := .cells #[.string a2_0, .string a2_1] 24 (0, 0)) (by (with_reducible repeat (first | refine blk_drewN ?_ _ | refine blk_drew ?_ | refine blk_alloc ?_ _)); exact BK346.out) hb); have n3_ := Aside0.mk (below_step (by repeat (first | (with_reducible first | exact HB.out | apply below_alloc | apply pw_below_drewN | apply below_drew1 | refine below_set ?_ GE345.out | refine below_set ?_ GE346.out) | exact HB.out)) hb); clear BK345; clear BK346; clear HB; have HO350 := n0_; have BK345 := n1_; have BK346 := n2_; have HB := n3_; clear n0_ n1_ n2_ n3_; clear hb ho14; obtain ⟨Ao15, co15, eo15⟩ := Kd.R_slice HO350.out; subst eo15) | ((with_reducible refine gate_callee (f := 50) rfl ?_); refine goesL_ (some 26) rfl rfl Try.func50 (by kernel_rfl) rfl #[.slice Ao15 y348.length co15] rfl (by (try simp only [List.map_toArray, List.map_cons, List.map_nil]); first | done | rfl | (simp only [List.length_drop, List.length_take]; rfl)) ?_; (with_reducible refine (pledge_named.calls k _ _ y348 t351 _ ?side1 ?side2 A9.out).mono ?_); (case side1 => repeat (first | exact (Kd.R_reads' HO350.out).2.2 | (with_reducible refine Kd.C_alloc ?_ _) | (with_reducible refine Kd.C_drewN ?_ _) | (with_reducible refine Kd.C_drew ?_))); (case side2 => exact (Kd.R_reads' HO350.out).2.1); rintro e w' ⟨rfl, ⟨nd, rfl⟩⟩; refine ⟨_, rfl, ?_⟩))
  (try simp only [Act.put, List.setIfInBounds_toArray, List.set_cons_zero, List.set_cons_succ])
  by_cases c16 : t351 = true
  ·subst c16
   have H1 : (if (a1_0.toList == a2_0.toList && (a1_1.toList == a2_1.toList)) = true then (some (([] : List (S26)), 21)) else (pledge_Move.l0 k l0 ([] : List (S26)) l0 (l0.length : Int) 0 a1_0 a1_1 a2_0 a2_1)) = some (r1, r2) := by rw [if_pos rfl] at H; exact H
   clear H
   have H := H1
   clear H1
   have hnb17 := NB345_346.out
   have hnc17 := NB346_345.out
   have hcz18_0 : w13.cell? ⟨gb345, 0, none⟩ = some (.string a1_0) := (blk_cell BK345.out 0).trans rfl
   have hcz18_1 : w13.cell? ⟨gb345, 1, none⟩ = some (.string a1_1) := (blk_cell BK345.out 1).trans rfl
   have hfz18_0 := blk_frozen BK345.out 0
   have hfz18_1 := blk_frozen BK345.out 1
   have hcz19_0 : w13.cell? ⟨gb346, 0, none⟩ = some (.string a2_0) := (blk_cell BK346.out 0).trans rfl
   have hcz19_1 : w13.cell? ⟨gb346, 1, none⟩ = some (.string a2_1) := (blk_cell BK346.out 1).trans rfl
   have hfz19_0 := blk_frozen BK346.out 0
   have hfz19_1 := blk_frozen BK346.out 1
   go_upto_if 30 with (fail)
   by_cases c20 : (a1_0.toList == a2_0.toList && (a1_1.toList == a2_1.toList)) = true
   ·rw [if_pos c20] at H
    have c20b0 : (a1_0.toList == a2_0.toList && (a1_1.toList == a2_1.toList)) = true := c20
    (try (have c20b1 : decide (a1_0.toList = a2_0.toList && (a1_1.toList == a2_1.toList)) = true := by simpa using c20))
    (try (have c20b2 : (a1_0.toList == a2_0.toList && (a1_1.toList == a2_1.toList)) = true := by simpa using c20))
    clear c20
    (try simp only [c20b0])
    simp only [Option.some.injEq, Prod.mk.injEq] at H
    obtain ⟨rfl, rfl⟩ := H
    go_wp2
    go_ret2
    exact ⟨_, by first | rfl | (simp [errW_none, errW_some] <;> rfl) | (simp [*, errW_none, errW_some] <;> rfl), by first | exact Kd.R_nil _ _ _ _ _ | exact Kd.N_nil _ _ _ _ _ | exact Kd.V_nil _ _ _ _ _ | exact Kd.Q_nil _ _ _ _ _ | exact Kd.S_nil _ _ _ _ _, by repeat (first | (with_reducible first | exact HB.out | apply below_alloc | apply pw_below_drewN | apply below_drew1 | refine below_set ?_ GE345.out | refine below_set ?_ GE346.out) | exact HB.out)⟩
   ·rw [if_neg c20] at H
    have c20b0 : (a1_0.toList == a2_0.toList && (a1_1.toList == a2_1.toList)) = false := by simpa using c20
    (try (have c20b1 : decide (a1_0.toList = a2_0.toList && (a1_1.toList == a2_1.toList)) = false := by simpa using c20))
    (try (have c20b2 : (a1_0.toList == a2_0.toList && (a1_1.toList == a2_1.toList)) = false := by simpa using c20))
    (try (have c20b3 : ¬ (a1_0.toList = a2_0.toList && (a1_1.toList == a2_1.toList)) := by simpa using c20))
    clear c20
    (try simp only [c20b0])
    have H' := Aside0.mk H
    clear H
    go_wp2
    go_loopg [6, 33] k (fun kq v6 v33 w' => ∃ (x6_1 : List (S26)) (x33_1 : Int), v33 = .int .i64 x33_1 ∧ Aside0 (pledge_Move.l0 kq l0 x6_1 l0 (l0.length : Int) x33_1 a1_0 a1_1 a2_0 a2_1 = some (r1, r2)) ∧ Aside0 (kq ≤ k) ∧ Aside0 (Kd.R k26 26 w' w.heap.size (fun _ => True) v6 x6_1) ∧ Aside0 (w'.heap[gb345]? = some (.cells #[.string a1_0, .string a1_1] 24 (0, 0))) ∧ Aside0 (w'.heap[gb346]? = some (.cells #[.string a2_0, .string a2_1] 24 (0, 0))) ∧ Aside0 (Below w.heap.size w w'))
    case atStart => exact ⟨(([] : List (S26))), (0), (by first | rfl | (simp; done) | (simp [*]; done)), H', ⟨Nat.le_refl _⟩, ⟨by first | exact Kd.R_nil _ _ _ _ _ | exact Kd.N_nil _ _ _ _ _ | exact Kd.V_nil _ _ _ _ _ | exact Kd.Q_nil _ _ _ _ _ | exact Kd.S_nil _ _ _ _ _⟩, ⟨by (with_reducible repeat (first | refine blk_drewN ?_ _ | refine blk_drew ?_ | refine blk_alloc ?_ _)); exact BK345.out⟩, ⟨by (with_reducible repeat (first | refine blk_drewN ?_ _ | refine blk_drew ?_ | refine blk_alloc ?_ _)); exact BK346.out⟩, ⟨by repeat (first | (with_reducible first | exact HB.out | apply below_alloc | apply pw_below_drewN | apply below_drew1 | refine below_set ?_ GE345.out | refine below_set ?_ GE346.out) | exact HB.out)⟩⟩
    case round =>
     clear H'
     try clear c1
     try clear c2
     try clear p2
     try clear c5
     try clear c8
     try clear c8b0
     try clear c8b1
     try clear c10
     try clear c16
     try clear c17
     try clear c20
     try clear c20b0
     try clear c20b1
     try clear c20b2
     try clear hcz11_0
     try clear hcz11_1
     try clear hcz12_0
     try clear hcz12_1
     try clear hcz18_0
     try clear hcz18_1
     try clear hcz19_0
     try clear hcz19_1
     try clear hfz11_0
     try clear hfz11_1
     try clear hfz12_0
     try clear hfz12_1
     try clear hfz18_0
     try clear hfz18_1
     try clear hfz19_0
     try clear hfz19_1
     obtain ⟨x6_1, x33_1, rfl, HA, HK1, HO_6, BK345, BK346, HB⟩ := hrel
     cases gk with
     | zero => exact absurd HA.out (by simp [pledge_Move.l0])
     | succ k1 =>
      have H := HA.out
      clear HA
      simp only [pledge_Move.l0] at H
      by_cases c21 : x33_1 < (l0.length : Int)
      ·rw [if_pos c21] at H
       have c21b0 : decide (x33_1 < (l0.length : Int)) = true := decide_eq_true c21
       clear c21
       (try simp only [c21b0])
       by_cases c22 : 0 ≤ x33_1
       ·rw [if_pos c22] at H
        have c22b0 : decide (0 ≤ x33_1) = true := decide_eq_true c22
        clear c22
        by_cases c23 : x33_1 < (l0.length : Int)
        ·rw [if_pos c23] at H
         have c23b0 : decide (x33_1 < (l0.length : Int)) = true := decide_eq_true c23
         clear c23
         have p352 : 0 ≤ (x33_1 : Int) := of_decide_eq_true (by first | (with_reducible assumption) | assumption)
         have q352 : x33_1 < (l0.length : Int) := of_decide_eq_true (by first | (with_reducible assumption) | assumption)
         obtain ⟨ad352, e352, hx352_0, hx352_1, hx352_2, hx352_3⟩ := at_T26 HR0.out x33_1 p352 q352
         cases e352
         replace hx352_0 := (HB.out.cell (World.block_lt_of_cell? w _ hx352_0)).trans hx352_0
         replace hx352_1 := (HB.out.cell (World.block_lt_of_cell? w _ hx352_1)).trans hx352_1
         replace hx352_2 := (HB.out.cell (World.block_lt_of_cell? w _ hx352_2)).trans hx352_2
         replace hx352_3 := (HB.out.cell (World.block_lt_of_cell? w _ hx352_3)).trans hx352_3
         replace p352 := eq_true p352
         replace q352 := eq_true q352
         go_upto_if 40 with (first | ((with_reducible refine gate_dst (N := 9) rfl ?_); refine box_event ?hg (N := 9) ?hd (cs := #[.string (⟨#[]⟩ : ByteArray), .string (⟨#[]⟩ : ByteArray), .string (⟨#[]⟩ : ByteArray), .int .i64 0]) (t := 26) ?hr ?_; (case hd => rfl); (case hg => rfl); (case hr => first | (go_simp; done) | (go_simp; rfl)); intro gb353 hg w24 hbox hb; have n0_ := Aside0.mk (Kd.R_below (Kd.R_elderB (by (with_reducible repeat (first | apply Kd.R_alloc | apply Kd.R_drewN | apply Kd.R_drew)); exact HO_6.out) gb353 (Nat.le_of_eq hg.symm)) hb); have n1_ := Aside0.mk (blk_below (g := gb345) (o := .cells #[.string a1_0, .string a1_1] 24 (0, 0)) (by (with_reducible repeat (first | refine blk_drewN ?_ _ | refine blk_drew ?_ | refine blk_alloc ?_ _)); exact BK345.out) hb); have n2_ := Aside0.mk (blk_below (g := gb346) (o := .cells #[.string a2_0, .string a2_1] 24 (0, 0)) (by (with_reducible repeat (first | refine blk_drewN ?_ _ | refine blk_drew ?_ | refine blk_alloc ?_ _)); exact BK346.out) hb); have n3_ := Aside0.mk (below_step (by repeat (first | (with_reducible first | exact HB.out | apply below_alloc | apply pw_below_drewN | apply below_drew1 | refine below_set ?_ GE345.out | refine below_set ?_ GE346.out) | exact HB.out)) hb); have n4_ := Aside0.mk (hbox); have n5_ := Aside0.mk ((by rw [hg]; exact (below_size (by repeat (first | (with_reducible first | exact HB.out | apply below_alloc | apply pw_below_drewN | apply below_drew1 | refine below_set ?_ GE345.out | refine below_set ?_ GE346.out) | exact HB.out))) : w.heap.size ≤ gb353)); have n6_ := Aside0.mk ((by rw [hg]; exact (below_size (by repeat (first | (with_reducible first | exact HB.out | apply below_alloc | apply pw_below_drewN | apply below_drew1 | refine below_set ?_ GE345.out | refine below_set ?_ GE346.out) | exact HB.out))) : w.heap.size ≤ gb353)); have n7_ := Aside0.mk ((by rw [hg]; exact Nat.ne_of_lt (blk_lt (g := gb345) (o := .cells #[.string a1_0, .string a1_1] 24 (0, 0)) (by (with_reducible repeat (first | refine blk_drewN ?_ _ | refine blk_drew ?_ | refine blk_alloc ?_ _)); exact BK345.out)) : gb345 ≠ gb353)); have n8_ := Aside0.mk ((by rw [hg]; exact Nat.ne_of_gt (blk_lt (g := gb345) (o := .cells #[.string a1_0, .string a1_1] 24 (0, 0)) (by (with_reducible repeat (first | refine blk_drewN ?_ _ | refine blk_drew ?_ | refine blk_alloc ?_ _)); exact BK345.out)) : gb353 ≠ gb345)); have n9_ := Aside0.mk ((by rw [hg]; exact Nat.ne_of_lt (blk_lt (g := gb346) (o := .cells #[.string a2_0, .string a2_1] 24 (0, 0)) (by (with_reducible repeat (first | refine blk_drewN ?_ _ | refine blk_drew ?_ | refine blk_alloc ?_ _)); exact BK346.out)) : gb346 ≠ gb353)); have n10_ := Aside0.mk ((by rw [hg]; exact Nat.ne_of_gt (blk_lt (g := gb346) (o := .cells #[.string a2_0, .string a2_1] 24 (0, 0)) (by (with_reducible repeat (first | refine blk_drewN ?_ _ | refine blk_drew ?_ | refine blk_alloc ?_ _)); exact BK346.out)) : gb353 ≠ gb346)); clear HO_6; clear BK345; clear BK346; clear HB; have HO_6 := n0_; have BK345 := n1_; have BK346 := n2_; have HB := n3_; have BK353 := n4_; have GW353 := n5_; have GE353 := n6_; have NB345_353 := n7_; have NB353_345 := n8_; have NB346_353 := n9_; have NB353_346 := n10_; clear n0_ n1_ n2_ n3_ n4_ n5_ n6_ n7_ n8_ n9_ n10_; clear hb hbox hg; have hnb25 := NB353_345.out; have hnc25 := NB345_353.out; have hnb26 := NB353_346.out; have hnc26 := NB346_353.out; have hcz27_0 : w24.cell? ⟨gb353, 0, none⟩ = some (.string (⟨#[]⟩ : ByteArray)) := (blk_cell BK353.out 0).trans rfl; have hcz27_1 : w24.cell? ⟨gb353, 1, none⟩ = some (.string (⟨#[]⟩ : ByteArray)) := (blk_cell BK353.out 1).trans rfl; have hcz27_2 : w24.cell? ⟨gb353, 2, none⟩ = some (.string (⟨#[]⟩ : ByteArray)) := (blk_cell BK353.out 2).trans rfl; have hcz27_3 : w24.cell? ⟨gb353, 3, none⟩ = some (.int .i64 0) := (blk_cell BK353.out 3).trans rfl; have hfz27_0 := blk_frozen BK353.out 0; have hfz27_1 := blk_frozen BK353.out 1; have hfz27_2 := blk_frozen BK353.out 2; have hfz27_3 := blk_frozen BK353.out 3) | ((with_reducible refine gate_store (t := 26) (p := 9) rfl ?_); refine store_event (t := 26) (p := 9) (v := ?vo_w28) (w1 := ((((w24.setCell ⟨gb353, 0, none⟩ (.string ((rd_T26 l0 x33_1).f0.f0))).setCell ⟨gb353, 1, none⟩ (.string ((rd_T26 l0 x33_1).f0.f1))).setCell ⟨gb353, 2, none⟩ (.string ((rd_T26 l0 x33_1).f1))).setCell ⟨gb353, 3, none⟩ (.int .i64 ((rd_T26 l0 x33_1).f2)))) ?hg ?ho ?hn ?hr ?_; (case ho => rfl); (case hg => rfl); (case hn => rfl); (case hr => first | (exact store_box_run (cs := #[.string (⟨#[]⟩ : ByteArray), .string (⟨#[]⟩ : ByteArray), .string (⟨#[]⟩ : ByteArray), .int .i64 0]) (seg := [.string ((rd_T26 l0 x33_1).f0.f0), .string ((rd_T26 l0 x33_1).f0.f1), .string ((rd_T26 l0 x33_1).f1), .int .i64 ((rd_T26 l0 x33_1).f2)]) BK353.out rfl (by first | rfl | (go_simp; done)) (by first | rfl | (go_simp; done)) (by rfl) (by first | rfl | kernel_rfl) (by simp) (by first | rfl | simp [Value.oneCell'])) | (go_simp; done) | (go_simp; rfl)); intro w28 hw; have n0_ : Aside0 (Kd.R k26 26 w28 w.heap.size (fun k_ => k_ ≠ gb353) u6 x6_1) := ⟨(by rw [hw]; exact (by (with_reducible repeat (first | apply Kd.R_alloc | apply Kd.R_drewN | apply Kd.R_drew)); exact Kd.R_mono (Kd.R_far (p := ⟨gb353, 3, none⟩) (Kd.R_far (p := ⟨gb353, 2, none⟩) (Kd.R_far (p := ⟨gb353, 1, none⟩) (Kd.R_far (p := ⟨gb353, 0, none⟩) (Kd.R_mono HO_6.out (fun k_ hk => (⟨hk, hk.2⟩ : _ ∧ k_ ≠ gb353))) (fun _ hk => hk.2) (.string ((rd_T26 l0 x33_1).f0.f0))) (fun _ hk => hk.2) (.string ((rd_T26 l0 x33_1).f0.f1))) (fun _ hk => hk.2) (.string ((rd_T26 l0 x33_1).f1))) (fun _ hk => hk.2) (.int .i64 ((rd_T26 l0 x33_1).f2))) (fun _ hk => hk.1.2)))⟩; have n1_ : Aside0 (w28.heap[gb345]? = some (.cells #[.string a1_0, .string a1_1] 24 (0, 0))) := ⟨(by rw [hw]; exact (by (with_reducible repeat (first | refine blk_drewN ?_ _ | refine blk_drew ?_ | refine blk_alloc ?_ _)); refine blk_far ?_ NB345_353.out _; (with_reducible repeat (first | refine blk_drewN ?_ _ | refine blk_drew ?_ | refine blk_alloc ?_ _)); refine blk_far ?_ NB345_353.out _; (with_reducible repeat (first | refine blk_drewN ?_ _ | refine blk_drew ?_ | refine blk_alloc ?_ _)); refine blk_far ?_ NB345_353.out _; (with_reducible repeat (first | refine blk_drewN ?_ _ | refine blk_drew ?_ | refine blk_alloc ?_ _)); refine blk_far ?_ NB345_353.out _; (with_reducible repeat (first | refine blk_drewN ?_ _ | refine blk_drew ?_ | refine blk_alloc ?_ _)); exact BK345.out))⟩; have n2_ : Aside0 (w28.heap[gb346]? = some (.cells #[.string a2_0, .string a2_1] 24 (0, 0))) := ⟨(by rw [hw]; exact (by (with_reducible repeat (first | refine blk_drewN ?_ _ | refine blk_drew ?_ | refine blk_alloc ?_ _)); refine blk_far ?_ NB346_353.out _; (with_reducible repeat (first | refine blk_drewN ?_ _ | refine blk_drew ?_ | refine blk_alloc ?_ _)); refine blk_far ?_ NB346_353.out _; (with_reducible repeat (first | refine blk_drewN ?_ _ | refine blk_drew ?_ | refine blk_alloc ?_ _)); refine blk_far ?_ NB346_353.out _; (with_reducible repeat (first | refine blk_drewN ?_ _ | refine blk_drew ?_ | refine blk_alloc ?_ _)); refine blk_far ?_ NB346_353.out _; (with_reducible repeat (first | refine blk_drewN ?_ _ | refine blk_drew ?_ | refine blk_alloc ?_ _)); exact BK346.out))⟩; have n3_ : Aside0 (w28.heap[gb353]? = some (.cells #[.string ((rd_T26 l0 x33_1).f0.f0), .string ((rd_T26 l0 x33_1).f0.f1), .string ((rd_T26 l0 x33_1).f1), .int .i64 ((rd_T26 l0 x33_1).f2)] 26 (0, 0))) := ⟨(by rw [hw]; exact (by (with_reducible repeat (first | refine blk_drewN ?_ _ | refine blk_drew ?_ | refine blk_alloc ?_ _)); refine blk_put (cs := #[.string ((rd_T26 l0 x33_1).f0.f0), .string ((rd_T26 l0 x33_1).f0.f1), .string ((rd_T26 l0 x33_1).f1), .int .i64 0]) ?_ 3 _ rfl; (with_reducible repeat (first | refine blk_drewN ?_ _ | refine blk_drew ?_ | refine blk_alloc ?_ _)); refine blk_put (cs := #[.string ((rd_T26 l0 x33_1).f0.f0), .string ((rd_T26 l0 x33_1).f0.f1), .string (⟨#[]⟩ : ByteArray), .int .i64 0]) ?_ 2 _ rfl; (with_reducible repeat (first | refine blk_drewN ?_ _ | refine blk_drew ?_ | refine blk_alloc ?_ _)); refine blk_put (cs := #[.string ((rd_T26 l0 x33_1).f0.f0), .string (⟨#[]⟩ : ByteArray), .string (⟨#[]⟩ : ByteArray), .int .i64 0]) ?_ 1 _ rfl; (with_reducible repeat (first | refine blk_drewN ?_ _ | refine blk_drew ?_ | refine blk_alloc ?_ _)); refine blk_put (cs := #[.string (⟨#[]⟩ : ByteArray), .string (⟨#[]⟩ : ByteArray), .string (⟨#[]⟩ : ByteArray), .int .i64 0]) ?_ 0 _ rfl; (with_reducible repeat (first | refine blk_drewN ?_ _ | refine blk_drew ?_ | refine blk_alloc ?_ _)); exact BK353.out))⟩; have n4_ : Aside0 (Below w.heap.size w w28) := ⟨(by rw [hw]; exact (by repeat (first | (with_reducible first | exact HB.out | apply below_alloc | apply pw_below_drewN | apply below_drew1 | refine below_set ?_ GE345.out | refine below_set ?_ GE346.out | refine below_set ?_ GE353.out) | exact HB.out)))⟩; clear hw; clear HO_6; clear BK345; clear BK346; clear BK353; clear HB; have HO_6 := n0_; have BK345 := n1_; have BK346 := n2_; have BK353 := n3_; have HB := n4_; clear n0_ n1_ n2_ n3_ n4_; have hcz29_0 : w28.cell? ⟨gb353, 0, none⟩ = some (.string ((rd_T26 l0 x33_1).f0.f0)) := (blk_cell BK353.out 0).trans rfl; have hcz29_1 : w28.cell? ⟨gb353, 1, none⟩ = some (.string ((rd_T26 l0 x33_1).f0.f1)) := (blk_cell BK353.out 1).trans rfl; have hcz29_2 : w28.cell? ⟨gb353, 2, none⟩ = some (.string ((rd_T26 l0 x33_1).f1)) := (blk_cell BK353.out 2).trans rfl; have hcz29_3 : w28.cell? ⟨gb353, 3, none⟩ = some (.int .i64 ((rd_T26 l0 x33_1).f2)) := (blk_cell BK353.out 3).trans rfl; have hfz29_0 := blk_frozen BK353.out 0; have hfz29_1 := blk_frozen BK353.out 1; have hfz29_2 := blk_frozen BK353.out 2; have hfz29_3 := blk_frozen BK353.out 3; have hnb30 := NB345_346.out; have hnc30 := NB346_345.out; have hcz31_0 : w28.cell? ⟨gb345, 0, none⟩ = some (.string a1_0) := (blk_cell BK345.out 0).trans rfl; have hcz31_1 : w28.cell? ⟨gb345, 1, none⟩ = some (.string a1_1) := (blk_cell BK345.out 1).trans rfl; have hfz31_0 := blk_frozen BK345.out 0; have hfz31_1 := blk_frozen BK345.out 1))
         (try simp only [Act.put, List.setIfInBounds_toArray, List.set_cons_zero, List.set_cons_succ])
         by_cases c32 : (!((((rd_T26 l0 x33_1).f0.f0).toList) == a1_0.toList) || (!((((rd_T26 l0 x33_1).f0.f1).toList) == a1_1.toList))) = true
         ·rw [if_pos c32] at H
          have c32b0 : (!((((rd_T26 l0 x33_1).f0.f0).toList) == a1_0.toList) || (!((((rd_T26 l0 x33_1).f0.f1).toList) == a1_1.toList))) = true := c32
          clear c32
          (try simp only [c32b0])
          by_cases c33 : x6_1.length < 2513169434916
          ·rw [if_pos c33] at H
           have LMc33 := Aside0.mk c33
           clear c33
           obtain ⟨y354, hy354⟩ : ∃ y_ : List (S26), y_ = (x6_1 ++ [(⟨(⟨(rd_T26 l0 x33_1).f0.f0, (rd_T26 l0 x33_1).f0.f1⟩ : S24), (rd_T26 l0 x33_1).f1, (rd_T26 l0 x33_1).f2⟩ : S26)]) := ⟨_, rfl⟩
           replace H : (pledge_Move.l0 k1 l0 y354 l0 (l0.length : Int) (wrap64 (x33_1 + 1)) a1_0 a1_1 a2_0 a2_1) = some (r1, r2) := by first | (rw [hy354]; with_reducible exact H) | (have H2_ := (Option.bind_some _ _).symm.trans H; rw [hy354]; with_reducible exact H2_) | (have H2_ := (Option.bind_some _ _).symm.trans H; with_reducible exact H2_) | with_reducible exact H | (rw [hy354]; exact H) | exact H
           have Ny354 := Aside0.mk hy354
           clear hy354
           have H' := Aside0.mk H
           clear H
           have hnb34 := NB353_345.out
           have hnc34 := NB345_353.out
           have hnb35 := NB353_346.out
           have hnc35 := NB346_353.out
           have hcz36_0 : w28.cell? ⟨gb353, 0, none⟩ = some (.string ((rd_T26 l0 x33_1).f0.f0)) := (blk_cell BK353.out 0).trans rfl
           have hcz36_1 : w28.cell? ⟨gb353, 1, none⟩ = some (.string ((rd_T26 l0 x33_1).f0.f1)) := (blk_cell BK353.out 1).trans rfl
           have hcz36_2 : w28.cell? ⟨gb353, 2, none⟩ = some (.string ((rd_T26 l0 x33_1).f1)) := (blk_cell BK353.out 2).trans rfl
           have hcz36_3 : w28.cell? ⟨gb353, 3, none⟩ = some (.int .i64 ((rd_T26 l0 x33_1).f2)) := (blk_cell BK353.out 3).trans rfl
           have hfz36_0 := blk_frozen BK353.out 0
           have hfz36_1 := blk_frozen BK353.out 1
           have hfz36_2 := blk_frozen BK353.out 2
           have hfz36_3 := blk_frozen BK353.out 3
           go_wp2_with (first | ((with_reducible refine gate_builtin (b := .append) (xs := #[.tmp 41, .tmp 43]) rfl ?_); at_builtin; refine Kd.R_append k26 (w0 := w) w.heap.size rfl (.tmp 41) (.tmp 43) 22 26 (.agg #[(.string ⟨#[]⟩), (.string ⟨#[]⟩), (.string ⟨#[]⟩), (.int .i64 0)]) 56 rfl Try.underlying22 info26 rfl (by decide) (by omega) u6 x6_1 (⟨(⟨(rd_T26 l0 x33_1).f0.f0, (rd_T26 l0 x33_1).f0.f1⟩ : S24), (rd_T26 l0 x33_1).f1, (rd_T26 l0 x33_1).f2⟩ : S26) [.string ((rd_T26 l0 x33_1).f0.f0), .string ((rd_T26 l0 x33_1).f0.f1), .string ((rd_T26 l0 x33_1).f1), .int .i64 ((rd_T26 l0 x33_1).f2)] (fun k_ => k_ ≠ gb353) (fun _ => False) rfl rfl ?aP (fun _ hk => hk.elim) ?aF ?aO ?aB ?aS ?aL ?_; (case aP => exact k26_mkM _ _ _ (⟨(⟨(rd_T26 l0 x33_1).f0.f0, (rd_T26 l0 x33_1).f0.f1⟩ : S24), (rd_T26 l0 x33_1).f1, (rd_T26 l0 x33_1).f2⟩ : S26)); (case aB => exact (by repeat (first | (with_reducible first | exact HB.out | apply below_alloc | apply pw_below_drewN | apply below_drew1 | refine below_set ?_ GE345.out | refine below_set ?_ GE346.out | refine below_set ?_ GE353.out) | exact HB.out))); (case aF => exact (fun k_ hk => Kd.freshB (g := gb353) (o := .cells #[.string ((rd_T26 l0 x33_1).f0.f0), .string ((rd_T26 l0 x33_1).f0.f1), .string ((rd_T26 l0 x33_1).f1), .int .i64 ((rd_T26 l0 x33_1).f2)] 26 (0, 0)) (by (with_reducible repeat (first | refine blk_drewN ?_ _ | refine blk_drew ?_ | refine blk_alloc ?_ _)); exact BK353.out) k_ hk)); (case aO => exact (by (with_reducible repeat (first | apply Kd.R_alloc | apply Kd.R_drewN | apply Kd.R_drew)); exact HO_6.out)); (case aS => exact (below_size (by repeat (first | (with_reducible first | exact HB.out | apply below_alloc | apply pw_below_drewN | apply below_drew1 | refine below_set ?_ GE345.out | refine below_set ?_ GE346.out | refine below_set ?_ GE353.out) | exact HB.out)))); (case aL => have := LMc33.out; omega); intro v355 w37 ho hb hg hat; rw [← Ny354.out] at ho; have n0_ := Aside0.mk (blk_grown (g := gb345) (o := .cells #[.string a1_0, .string a1_1] 24 (0, 0)) (by (with_reducible repeat (first | refine blk_drewN ?_ _ | refine blk_drew ?_ | refine blk_alloc ?_ _)); exact BK345.out) hg (Kd.R_ne HO_6.out BK345.out (by decide))); have n1_ := Aside0.mk (blk_grown (g := gb346) (o := .cells #[.string a2_0, .string a2_1] 24 (0, 0)) (by (with_reducible repeat (first | refine blk_drewN ?_ _ | refine blk_drew ?_ | refine blk_alloc ?_ _)); exact BK346.out) hg (Kd.R_ne HO_6.out BK346.out (by decide))); have n2_ := Aside0.mk (blk_grown (g := gb353) (o := .cells #[.string ((rd_T26 l0 x33_1).f0.f0), .string ((rd_T26 l0 x33_1).f0.f1), .string ((rd_T26 l0 x33_1).f1), .int .i64 ((rd_T26 l0 x33_1).f2)] 26 (0, 0)) (by (with_reducible repeat (first | refine blk_drewN ?_ _ | refine blk_drew ?_ | refine blk_alloc ?_ _)); exact BK353.out) hg (Kd.R_away HO_6.out (fun _ hk => hk))); have n3_ := Aside0.mk (hb); have n4_ := Aside0.mk (ho); clear BK345; clear BK346; clear BK353; clear HB; clear HO_6; have BK345 := n0_; have BK346 := n1_; have BK353 := n2_; have HB := n3_; have HO356 := n4_; clear n0_ n1_ n2_ n3_ n4_; clear ho hb hg hat))
           go_roundg k1
           case measure => have := HK1.out; omega
           case rel => exact ⟨(y354), (wrap64 (x33_1 + 1)), (by first | rfl | (simp; done) | (simp [*]; done)), H', ⟨by have := HK1.out; omega⟩, ⟨by (with_reducible repeat (first | apply Kd.R_alloc | apply Kd.R_drewN | apply Kd.R_drew)); exact Kd.R_mono HO356.out (fun _ hk => trivial)⟩, ⟨by (with_reducible repeat (first | refine blk_drewN ?_ _ | refine blk_drew ?_ | refine blk_alloc ?_ _)); exact BK345.out⟩, ⟨by (with_reducible repeat (first | refine blk_drewN ?_ _ | refine blk_drew ?_ | refine blk_alloc ?_ _)); exact BK346.out⟩, ⟨by repeat (first | (with_reducible first | exact HB.out | apply below_alloc | apply pw_below_drewN | apply below_drew1 | refine below_set ?_ GE345.out | refine below_set ?_ GE346.out | refine below_set ?_ GE353.out) | exact HB.out)⟩⟩
          ·rw [if_neg c33] at H
           exact absurd H (by simp)
         ·rw [if_neg c32] at H
          have c32b0 : (!((((rd_T26 l0 x33_1).f0.f0).toList) == a1_0.toList) || (!((((rd_T26 l0 x33_1).f0.f1).toList) == a1_1.toList))) = false := by simpa using c32
          clear c32
          (try simp only [c32b0])
          have H' := Aside0.mk H
          clear H
          go_wp2
          go_roundg k1
          case measure => have := HK1.out; omega
          case rel => exact ⟨(x6_1), (wrap64 (x33_1 + 1)), (by first | rfl | (simp; done) | (simp [*]; done)), H', ⟨by have := HK1.out; omega⟩, ⟨by (with_reducible repeat (first | apply Kd.R_alloc | apply Kd.R_drewN | apply Kd.R_drew)); exact Kd.R_mono HO_6.out (fun _ hk => trivial)⟩, ⟨by (with_reducible repeat (first | refine blk_drewN ?_ _ | refine blk_drew ?_ | refine blk_alloc ?_ _)); exact BK345.out⟩, ⟨by (with_reducible repeat (first | refine blk_drewN ?_ _ | refine blk_drew ?_ | refine blk_alloc ?_ _)); exact BK346.out⟩, ⟨by repeat (first | (with_reducible first | exact HB.out | apply below_alloc | apply pw_below_drewN | apply below_drew1 | refine below_set ?_ GE345.out | refine below_set ?_ GE346.out | refine below_set ?_ GE353.out) | exact HB.out)⟩⟩
        ·rw [if_neg c23] at H
         exact absurd H (by simp)
       ·rw [if_neg c22] at H
        exact absurd H (by simp)
      ·rw [if_neg c21] at H
       have c21b0 : decide (x33_1 < (l0.length : Int)) = false := decide_eq_false c21
       clear c21
       (try simp only [c21b0])
       replace H := Option.bind_eq_some_iff.mp H
       obtain ⟨t357, A380, H⟩ := H
       replace H : (pledge_Move.l1 k1 x6_1 t357 (t357.length : Int) 0 a2_0 a2_1) = some (r1, r2) := H
       have A38 := Aside0.mk A380
       clear A380
       have H' := Aside0.mk H
       clear H
       have hnb39 := NB345_346.out
       have hnc39 := NB346_345.out
       have hcz40_0 : wr.cell? ⟨gb345, 0, none⟩ = some (.string a1_0) := (blk_cell BK345.out 0).trans rfl
       have hcz40_1 : wr.cell? ⟨gb345, 1, none⟩ = some (.string a1_1) := (blk_cell BK345.out 1).trans rfl
       have hfz40_0 := blk_frozen BK345.out 0
       have hfz40_1 := blk_frozen BK345.out 1
       go_wp2_with (first | ((with_reducible refine gate_callee (f := 27) rfl ?_); refine goesL_ (some 48) rfl rfl Try.func27 (by kernel_rfl) rfl #[.slice A0 l0.length c0, .agg #[.string a1_0, .string a1_1]] rfl (by (try simp only [List.map_toArray, List.map_cons, List.map_nil]); first | done | rfl | (simp only [List.length_drop, List.length_take]; rfl)) ?_; (with_reducible refine (pledge_Of.calls k1 _ _ l0 a1_0 a1_1 t357 _ ?side1 ?side2 A38.out).mono ?_); (case side1 => repeat (first | exact (Kd.C_below HR0.out HB.out) | (with_reducible refine Kd.C_alloc ?_ _) | (with_reducible refine Kd.C_drewN ?_ _) | (with_reducible refine Kd.C_drew ?_))); (case side2 => exact HC0.out); rintro e w41 ⟨v358, rfl, ho0, hb⟩; refine ⟨_, rfl, ?_⟩; have n0_ := Aside0.mk (Kd.R_elder' (by (with_reducible repeat (first | apply Kd.R_alloc | apply Kd.R_drewN | apply Kd.R_drew)); exact HO_6.out) (Kd.R_base ho0) hb); have n1_ := Aside0.mk (Kd.R_lower (Kd.R_new' ho0 (Kd.R_lt (by (with_reducible repeat (first | apply Kd.R_alloc | apply Kd.R_drewN | apply Kd.R_drew)); exact HO_6.out))) (below_size (by repeat (first | (with_reducible first | exact HB.out | apply below_alloc | apply pw_below_drewN | apply below_drew1 | refine below_set ?_ GE345.out | refine below_set ?_ GE346.out) | exact HB.out)))); have n2_ := Aside0.mk (blk_below (g := gb345) (o := .cells #[.string a1_0, .string a1_1] 24 (0, 0)) (by (with_reducible repeat (first | refine blk_drewN ?_ _ | refine blk_drew ?_ | refine blk_alloc ?_ _)); exact BK345.out) hb); have n3_ := Aside0.mk (blk_below (g := gb346) (o := .cells #[.string a2_0, .string a2_1] 24 (0, 0)) (by (with_reducible repeat (first | refine blk_drewN ?_ _ | refine blk_drew ?_ | refine blk_alloc ?_ _)); exact BK346.out) hb); have n4_ := Aside0.mk (below_step (by repeat (first | (with_reducible first | exact HB.out | apply below_alloc | apply pw_below_drewN | apply below_drew1 | refine below_set ?_ GE345.out | refine below_set ?_ GE346.out) | exact HB.out)) hb); clear HO_6; clear BK345; clear BK346; clear HB; have HO_6 := n0_; have HO359 := n1_; have BK345 := n2_; have BK346 := n3_; have HB := n4_; clear n0_ n1_ n2_ n3_ n4_; (try clear hb); (try clear hb2); (try clear hk); (try clear hi); (try clear ho0); obtain ⟨Ao42, co42, eo42⟩ := Kd.R_slice HO359.out; subst eo42))
       go_loopg [6, 50] k1 (fun kq v6 v50 w' => ∃ (x6_2 : List (S26)) (x50_2 : Int), v50 = .int .i64 x50_2 ∧ Aside0 (pledge_Move.l1 kq x6_2 t357 (t357.length : Int) x50_2 a2_0 a2_1 = some (r1, r2)) ∧ Aside0 (kq ≤ k1) ∧ Aside0 (Kd.R k26 26 w' w.heap.size (fun k_ => some k_ ≠ ((.slice Ao42 t357.length co42) : Value).ownBlock) v6 x6_2) ∧ Aside0 (Kd.R k26 26 w' w.heap.size (fun k_ => some k_ ≠ (v6 : Value).ownBlock) (.slice Ao42 t357.length co42) t357) ∧ Aside0 (w'.heap[gb345]? = some (.cells #[.string a1_0, .string a1_1] 24 (0, 0))) ∧ Aside0 (w'.heap[gb346]? = some (.cells #[.string a2_0, .string a2_1] 24 (0, 0))) ∧ Aside0 (Below w.heap.size w w'))
       case atStart => exact ⟨(x6_1), (0), (by first | rfl | (simp; done) | (simp [*]; done)), H', ⟨Nat.le_refl _⟩, ⟨by (with_reducible repeat (first | apply Kd.R_alloc | apply Kd.R_drewN | apply Kd.R_drew)); exact Kd.R_mono HO_6.out (fun _ hk => hk.2)⟩, ⟨by (with_reducible repeat (first | apply Kd.R_alloc | apply Kd.R_drewN | apply Kd.R_drew)); exact Kd.R_mono HO359.out (fun _ hk => hk.2)⟩, ⟨by (with_reducible repeat (first | refine blk_drewN ?_ _ | refine blk_drew ?_ | refine blk_alloc ?_ _)); exact BK345.out⟩, ⟨by (with_reducible repeat (first | refine blk_drewN ?_ _ | refine blk_drew ?_ | refine blk_alloc ?_ _)); exact BK346.out⟩, ⟨by repeat (first | (with_reducible first | exact HB.out | apply below_alloc | apply pw_below_drewN | apply below_drew1 | refine below_set ?_ GE345.out | refine below_set ?_ GE346.out) | exact HB.out)⟩⟩
       case round =>
        clear H'
        try clear c1
        try clear c2
        try clear p2
        try clear c3
        try clear p3
        try clear q3
        try clear hx3
        try clear c5
        try clear p6
        try clear c8
        try clear c8b0
        try clear c8b1
        try clear c10
        try clear c16
        try clear c17
        try clear c20
        try clear c20b0
        try clear c20b1
        try clear c20b2
        try clear c21
        try clear c21b0
        try clear c22
        try clear c22b0
        try clear c23
        try clear c23b0
        try clear c25
        try clear c26
        try clear c27
        try clear c30
        try clear c32
        try clear c32b0
        try clear c33
        try clear c34
        try clear c35
        try clear p35
        try clear q35
        try clear hx35
        try clear c39
        try clear hcz11_0
        try clear hcz11_1
        try clear hcz12_0
        try clear hcz12_1
        try clear hcz18_0
        try clear hcz18_1
        try clear hcz19_0
        try clear hcz19_1
        try clear hcz27_0
        try clear hcz27_1
        try clear hcz27_2
        try clear hcz27_3
        try clear hcz29_0
        try clear hcz29_1
        try clear hcz29_2
        try clear hcz29_3
        try clear hcz31_0
        try clear hcz31_1
        try clear hcz36_0
        try clear hcz36_1
        try clear hcz36_2
        try clear hcz36_3
        try clear hcz40_0
        try clear hcz40_1
        try clear hfz11_0
        try clear hfz11_1
        try clear hfz12_0
        try clear hfz12_1
        try clear hfz18_0
        try clear hfz18_1
        try clear hfz19_0
        try clear hfz19_1
        try clear hfz27_0
        try clear hfz27_1
        try clear hfz27_2
        try clear hfz27_3
        try clear hfz29_0
        try clear hfz29_1
        try clear hfz29_2
        try clear hfz29_3
        try clear hfz31_0
        try clear hfz31_1
        try clear hfz36_0
        try clear hfz36_1
        try clear hfz36_2
        try clear hfz36_3
        try clear hfz40_0
        try clear hfz40_1
        try clear hx352_0
        try clear hx352_1
        try clear hx352_2
        try clear hx352_3
        try clear p2
        try clear p352
        try clear q352
        obtain ⟨x6_2, x50_2, rfl, HA, HK2, HO_6, HO_48, BK345, BK346, HB⟩ := hrel
        cases gk with
        | zero => exact absurd HA.out (by simp [pledge_Move.l1])
        | succ k2 =>
         have H := HA.out
         clear HA
         simp only [pledge_Move.l1] at H
         by_cases c43 : x50_2 < (t357.length : Int)
         ·rw [if_pos c43] at H
          have c43b0 : decide (x50_2 < (t357.length : Int)) = true := decide_eq_true c43
          clear c43
          (try simp only [c43b0])
          by_cases c44 : 0 ≤ x50_2
          ·rw [if_pos c44] at H
           have c44b0 : decide (0 ≤ x50_2) = true := decide_eq_true c44
           clear c44
           by_cases c45 : x50_2 < (t357.length : Int)
           ·rw [if_pos c45] at H
            have c45b0 : decide (x50_2 < (t357.length : Int)) = true := decide_eq_true c45
            clear c45
            replace H := Option.bind_eq_some_iff.mp H
            obtain ⟨⟨t362, t365⟩, A460, H⟩ := H
            replace H : (if t365 = 0 then (pledge_Move.l1 k2 t362 t357 (t357.length : Int) (wrap64 (x50_2 + 1)) a2_0 a2_1) else (some (([] : List (S26)), t365))) = some (r1, r2) := H
            have A46 := Aside0.mk A460
            clear A460
            have p360 : 0 ≤ (x50_2 : Int) := of_decide_eq_true (by first | (with_reducible assumption) | assumption)
            have q360 : x50_2 < (t357.length : Int) := of_decide_eq_true (by first | (with_reducible assumption) | assumption)
            obtain ⟨ad360, e360, hx360_0, hx360_1, hx360_2, hx360_3⟩ := at_T26 (Kd.R_reads' HO_48.out).2.2 x50_2 p360 q360
            cases e360
            replace p360 := eq_true p360
            replace q360 := eq_true q360
            go_upto_if 63 with (first | ((with_reducible refine gate_dst (N := 11) rfl ?_); refine box_event ?hg (N := 11) ?hd (cs := #[.string (⟨#[]⟩ : ByteArray), .string (⟨#[]⟩ : ByteArray), .string (⟨#[]⟩ : ByteArray), .int .i64 0]) (t := 26) ?hr ?_; (case hd => rfl); (case hg => rfl); (case hr => first | (go_simp; done) | (go_simp; rfl)); intro gb361 hg w47 hbox hb; have n0_ := Aside0.mk (Kd.R_below (Kd.R_elderB (by (with_reducible repeat (first | apply Kd.R_alloc | apply Kd.R_drewN | apply Kd.R_drew)); exact HO_6.out) gb361 (Nat.le_of_eq hg.symm)) hb); have n1_ := Aside0.mk (Kd.R_below (Kd.R_elderB (by (with_reducible repeat (first | apply Kd.R_alloc | apply Kd.R_drewN | apply Kd.R_drew)); exact HO_48.out) gb361 (Nat.le_of_eq hg.symm)) hb); have n2_ := Aside0.mk (blk_below (g := gb345) (o := .cells #[.string a1_0, .string a1_1] 24 (0, 0)) (by (with_reducible repeat (first | refine blk_drewN ?_ _ | refine blk_drew ?_ | refine blk_alloc ?_ _)); exact BK345.out) hb); have n3_ := Aside0.mk (blk_below (g := gb346) (o := .cells #[.string a2_0, .string a2_1] 24 (0, 0)) (by (with_reducible repeat (first | refine blk_drewN ?_ _ | refine blk_drew ?_ | refine blk_alloc ?_ _)); exact BK346.out) hb); have n4_ := Aside0.mk (below_step (by repeat (first | (with_reducible first | exact HB.out | apply below_alloc | apply pw_below_drewN | apply below_drew1 | refine below_set ?_ GE345.out | refine below_set ?_ GE346.out) | exact HB.out)) hb); have n5_ := Aside0.mk (hbox); have n6_ := Aside0.mk ((by rw [hg]; exact (below_size (by repeat (first | (with_reducible first | exact HB.out | apply below_alloc | apply pw_below_drewN | apply below_drew1 | refine below_set ?_ GE345.out | refine below_set ?_ GE346.out) | exact HB.out))) : w.heap.size ≤ gb361)); have n7_ := Aside0.mk ((by rw [hg]; exact (below_size (by repeat (first | (with_reducible first | exact HB.out | apply below_alloc | apply pw_below_drewN | apply below_drew1 | refine below_set ?_ GE345.out | refine below_set ?_ GE346.out) | exact HB.out))) : w.heap.size ≤ gb361)); have n8_ := Aside0.mk ((by rw [hg]; exact Nat.ne_of_lt (blk_lt (g := gb345) (o := .cells #[.string a1_0, .string a1_1] 24 (0, 0)) (by (with_reducible repeat (first | refine blk_drewN ?_ _ | refine blk_drew ?_ | refine blk_alloc ?_ _)); exact BK345.out)) : gb345 ≠ gb361)); have n9_ := Aside0.mk ((by rw [hg]; exact Nat.ne_of_gt (blk_lt (g := gb345) (o := .cells #[.string a1_0, .string a1_1] 24 (0, 0)) (by (with_reducible repeat (first | refine blk_drewN ?_ _ | refine blk_drew ?_ | refine blk_alloc ?_ _)); exact BK345.out)) : gb361 ≠ gb345)); have n10_ := Aside0.mk ((by rw [hg]; exact Nat.ne_of_lt (blk_lt (g := gb346) (o := .cells #[.string a2_0, .string a2_1] 24 (0, 0)) (by (with_reducible repeat (first | refine blk_drewN ?_ _ | refine blk_drew ?_ | refine blk_alloc ?_ _)); exact BK346.out)) : gb346 ≠ gb361)); have n11_ := Aside0.mk ((by rw [hg]; exact Nat.ne_of_gt (blk_lt (g := gb346) (o := .cells #[.string a2_0, .string a2_1] 24 (0, 0)) (by (with_reducible repeat (first | refine blk_drewN ?_ _ | refine blk_drew ?_ | refine blk_alloc ?_ _)); exact BK346.out)) : gb361 ≠ gb346)); clear HO_6; clear HO_48; clear BK345; clear BK346; clear HB; have HO_6 := n0_; have HO_48 := n1_; have BK345 := n2_; have BK346 := n3_; have HB := n4_; have BK361 := n5_; have GW361 := n6_; have GE361 := n7_; have NB345_361 := n8_; have NB361_345 := n9_; have NB346_361 := n10_; have NB361_346 := n11_; clear n0_ n1_ n2_ n3_ n4_ n5_ n6_ n7_ n8_ n9_ n10_ n11_; clear hb hbox hg; have hnb48 := NB361_345.out; have hnc48 := NB345_361.out; have hnb49 := NB361_346.out; have hnc49 := NB346_361.out; have hcz50_0 : w47.cell? ⟨gb361, 0, none⟩ = some (.string (⟨#[]⟩ : ByteArray)) := (blk_cell BK361.out 0).trans rfl; have hcz50_1 : w47.cell? ⟨gb361, 1, none⟩ = some (.string (⟨#[]⟩ : ByteArray)) := (blk_cell BK361.out 1).trans rfl; have hcz50_2 : w47.cell? ⟨gb361, 2, none⟩ = some (.string (⟨#[]⟩ : ByteArray)) := (blk_cell BK361.out 2).trans rfl; have hcz50_3 : w47.cell? ⟨gb361, 3, none⟩ = some (.int .i64 0) := (blk_cell BK361.out 3).trans rfl; have hfz50_0 := blk_frozen BK361.out 0; have hfz50_1 := blk_frozen BK361.out 1; have hfz50_2 := blk_frozen BK361.out 2; have hfz50_3 := blk_frozen BK361.out 3) | ((with_reducible refine gate_store (t := 26) (p := 11) rfl ?_); refine store_event (t := 26) (p := 11) (v := ?vo_w51) (w1 := ((((w47.setCell ⟨gb361, 0, none⟩ (.string ((rd_T26 t357 x50_2).f0.f0))).setCell ⟨gb361, 1, none⟩ (.string ((rd_T26 t357 x50_2).f0.f1))).setCell ⟨gb361, 2, none⟩ (.string ((rd_T26 t357 x50_2).f1))).setCell ⟨gb361, 3, none⟩ (.int .i64 ((rd_T26 t357 x50_2).f2)))) ?hg ?ho ?hn ?hr ?_; (case ho => rfl); (case hg => rfl); (case hn => rfl); (case hr => first | (exact store_box_run (cs := #[.string (⟨#[]⟩ : ByteArray), .string (⟨#[]⟩ : ByteArray), .string (⟨#[]⟩ : ByteArray), .int .i64 0]) (seg := [.string ((rd_T26 t357 x50_2).f0.f0), .string ((rd_T26 t357 x50_2).f0.f1), .string ((rd_T26 t357 x50_2).f1), .int .i64 ((rd_T26 t357 x50_2).f2)]) BK361.out rfl (by first | rfl | (go_simp; done)) (by first | rfl | (go_simp; done)) (by rfl) (by first | rfl | kernel_rfl) (by simp) (by first | rfl | simp [Value.oneCell'])) | (go_simp; done) | (go_simp; rfl)); intro w51 hw; have n0_ : Aside0 (Kd.R k26 26 w51 w.heap.size (fun k_ => some k_ ≠ (.slice (some ad360) t357.length co42 : Value).ownBlock ∧ k_ ≠ gb361) u6 x6_2) := ⟨(by rw [hw]; exact (by (with_reducible repeat (first | apply Kd.R_alloc | apply Kd.R_drewN | apply Kd.R_drew)); exact Kd.R_mono (Kd.R_far (p := ⟨gb361, 3, none⟩) (Kd.R_far (p := ⟨gb361, 2, none⟩) (Kd.R_far (p := ⟨gb361, 1, none⟩) (Kd.R_far (p := ⟨gb361, 0, none⟩) (Kd.R_mono HO_6.out (fun k_ hk => (⟨hk, hk.2⟩ : _ ∧ k_ ≠ gb361))) (fun _ hk => hk.2) (.string ((rd_T26 t357 x50_2).f0.f0))) (fun _ hk => hk.2) (.string ((rd_T26 t357 x50_2).f0.f1))) (fun _ hk => hk.2) (.string ((rd_T26 t357 x50_2).f1))) (fun _ hk => hk.2) (.int .i64 ((rd_T26 t357 x50_2).f2))) (fun _ hk => ⟨hk.1.1, hk.1.2⟩)))⟩; have n1_ : Aside0 (Kd.R k26 26 w51 w.heap.size (fun k_ => some k_ ≠ (u6 : Value).ownBlock ∧ k_ ≠ gb361) (.slice (some ad360) t357.length co42) t357) := ⟨(by rw [hw]; exact (by (with_reducible repeat (first | apply Kd.R_alloc | apply Kd.R_drewN | apply Kd.R_drew)); exact Kd.R_mono (Kd.R_far (p := ⟨gb361, 3, none⟩) (Kd.R_far (p := ⟨gb361, 2, none⟩) (Kd.R_far (p := ⟨gb361, 1, none⟩) (Kd.R_far (p := ⟨gb361, 0, none⟩) (Kd.R_mono HO_48.out (fun k_ hk => (⟨hk, hk.2⟩ : _ ∧ k_ ≠ gb361))) (fun _ hk => hk.2) (.string ((rd_T26 t357 x50_2).f0.f0))) (fun _ hk => hk.2) (.string ((rd_T26 t357 x50_2).f0.f1))) (fun _ hk => hk.2) (.string ((rd_T26 t357 x50_2).f1))) (fun _ hk => hk.2) (.int .i64 ((rd_T26 t357 x50_2).f2))) (fun _ hk => ⟨hk.1.1, hk.1.2⟩)))⟩; have n2_ : Aside0 (w51.heap[gb345]? = some (.cells #[.string a1_0, .string a1_1] 24 (0, 0))) := ⟨(by rw [hw]; exact (by (with_reducible repeat (first | refine blk_drewN ?_ _ | refine blk_drew ?_ | refine blk_alloc ?_ _)); refine blk_far ?_ NB345_361.out _; (with_reducible repeat (first | refine blk_drewN ?_ _ | refine blk_drew ?_ | refine blk_alloc ?_ _)); refine blk_far ?_ NB345_361.out _; (with_reducible repeat (first | refine blk_drewN ?_ _ | refine blk_drew ?_ | refine blk_alloc ?_ _)); refine blk_far ?_ NB345_361.out _; (with_reducible repeat (first | refine blk_drewN ?_ _ | refine blk_drew ?_ | refine blk_alloc ?_ _)); refine blk_far ?_ NB345_361.out _; (with_reducible repeat (first | refine blk_drewN ?_ _ | refine blk_drew ?_ | refine blk_alloc ?_ _)); exact BK345.out))⟩; have n3_ : Aside0 (w51.heap[gb346]? = some (.cells #[.string a2_0, .string a2_1] 24 (0, 0))) := ⟨(by rw [hw]; exact (by (with_reducible repeat (first | refine blk_drewN ?_ _ | refine blk_drew ?_ | refine blk_alloc ?_ _)); refine blk_far ?_ NB346_361.out _; (with_reducible repeat (first | refine blk_drewN ?_ _ | refine blk_drew ?_ | refine blk_alloc ?_ _)); refine blk_far ?_ NB346_361.out _; (with_reducible repeat (first | refine blk_drewN ?_ _ | refine blk_drew ?_ | refine blk_alloc ?_ _)); refine blk_far ?_ NB346_361.out _; (with_reducible repeat (first | refine blk_drewN ?_ _ | refine blk_drew ?_ | refine blk_alloc ?_ _)); refine blk_far ?_ NB346_361.out _; (with_reducible repeat (first | refine blk_drewN ?_ _ | refine blk_drew ?_ | refine blk_alloc ?_ _)); exact BK346.out))⟩; have n4_ : Aside0 (w51.heap[gb361]? = some (.cells #[.string ((rd_T26 t357 x50_2).f0.f0), .string ((rd_T26 t357 x50_2).f0.f1), .string ((rd_T26 t357 x50_2).f1), .int .i64 ((rd_T26 t357 x50_2).f2)] 26 (0, 0))) := ⟨(by rw [hw]; exact (by (with_reducible repeat (first | refine blk_drewN ?_ _ | refine blk_drew ?_ | refine blk_alloc ?_ _)); refine blk_put (cs := #[.string ((rd_T26 t357 x50_2).f0.f0), .string ((rd_T26 t357 x50_2).f0.f1), .string ((rd_T26 t357 x50_2).f1), .int .i64 0]) ?_ 3 _ rfl; (with_reducible repeat (first | refine blk_drewN ?_ _ | refine blk_drew ?_ | refine blk_alloc ?_ _)); refine blk_put (cs := #[.string ((rd_T26 t357 x50_2).f0.f0), .string ((rd_T26 t357 x50_2).f0.f1), .string (⟨#[]⟩ : ByteArray), .int .i64 0]) ?_ 2 _ rfl; (with_reducible repeat (first | refine blk_drewN ?_ _ | refine blk_drew ?_ | refine blk_alloc ?_ _)); refine blk_put (cs := #[.string ((rd_T26 t357 x50_2).f0.f0), .string (⟨#[]⟩ : ByteArray), .string (⟨#[]⟩ : ByteArray), .int .i64 0]) ?_ 1 _ rfl; (with_reducible repeat (first | refine blk_drewN ?_ _ | refine blk_drew ?_ | refine blk_alloc ?_ _)); refine blk_put (cs := #[.string (⟨#[]⟩ : ByteArray), .string (⟨#[]⟩ : ByteArray), .string (⟨#[]⟩ : ByteArray), .int .i64 0]) ?_ 0 _ rfl; (with_reducible repeat (first | refine blk_drewN ?_ _ | refine blk_drew ?_ | refine blk_alloc ?_ _)); exact BK361.out))⟩; have n5_ : Aside0 (Below w.heap.size w w51) := ⟨(by rw [hw]; exact (by repeat (first | (with_reducible first | exact HB.out | apply below_alloc | apply pw_below_drewN | apply below_drew1 | refine below_set ?_ GE345.out | refine below_set ?_ GE346.out | refine below_set ?_ GE361.out) | exact HB.out)))⟩; clear hw; clear HO_6; clear HO_48; clear BK345; clear BK346; clear BK361; clear HB; have HO_6 := n0_; have HO_48 := n1_; have BK345 := n2_; have BK346 := n3_; have BK361 := n4_; have HB := n5_; clear n0_ n1_ n2_ n3_ n4_ n5_; have hnb52 := NB346_345.out; have hnc52 := NB345_346.out; have hcz53_0 : w51.cell? ⟨gb346, 0, none⟩ = some (.string a2_0) := (blk_cell BK346.out 0).trans rfl; have hcz53_1 : w51.cell? ⟨gb346, 1, none⟩ = some (.string a2_1) := (blk_cell BK346.out 1).trans rfl; have hfz53_0 := blk_frozen BK346.out 0; have hfz53_1 := blk_frozen BK346.out 1; have hcz54_0 : w51.cell? ⟨gb361, 0, none⟩ = some (.string ((rd_T26 t357 x50_2).f0.f0)) := (blk_cell BK361.out 0).trans rfl; have hcz54_1 : w51.cell? ⟨gb361, 1, none⟩ = some (.string ((rd_T26 t357 x50_2).f0.f1)) := (blk_cell BK361.out 1).trans rfl; have hcz54_2 : w51.cell? ⟨gb361, 2, none⟩ = some (.string ((rd_T26 t357 x50_2).f1)) := (blk_cell BK361.out 2).trans rfl; have hcz54_3 : w51.cell? ⟨gb361, 3, none⟩ = some (.int .i64 ((rd_T26 t357 x50_2).f2)) := (blk_cell BK361.out 3).trans rfl; have hfz54_0 := blk_frozen BK361.out 0; have hfz54_1 := blk_frozen BK361.out 1; have hfz54_2 := blk_frozen BK361.out 2; have hfz54_3 := blk_frozen BK361.out 3) | ((with_reducible refine gate_store (t := 24) (p := 55) rfl ?_); refine store_event (t := 24) (p := 55) (v := ?vo_w55) (w1 := ((w51.setCell ⟨gb361, 0, none⟩ (.string a2_0)).setCell ⟨gb361, 1, none⟩ (.string a2_1))) ?hg ?ho ?hn ?hr ?_; (case ho => rfl); (case hg => rfl); (case hn => rfl); (case hr => first | (exact store_box_run (cs := #[.string ((rd_T26 t357 x50_2).f0.f0), .string ((rd_T26 t357 x50_2).f0.f1), .string ((rd_T26 t357 x50_2).f1), .int .i64 ((rd_T26 t357 x50_2).f2)]) (seg := [.string a2_0, .string a2_1]) BK361.out rfl (by first | rfl | (go_simp; done)) (by first | rfl | (go_simp; done)) (by rfl) (by first | rfl | kernel_rfl) (by simp) (by first | rfl | simp [Value.oneCell'])) | (go_simp; done) | (go_simp; rfl)); intro w55 hw; have n0_ : Aside0 (Kd.R k26 26 w55 w.heap.size (fun k_ => some k_ ≠ (.slice (some ad360) t357.length co42 : Value).ownBlock ∧ k_ ≠ gb361) u6 x6_2) := ⟨(by rw [hw]; exact (by (with_reducible repeat (first | apply Kd.R_alloc | apply Kd.R_drewN | apply Kd.R_drew)); exact Kd.R_mono (Kd.R_far (p := ⟨gb361, 1, none⟩) (Kd.R_far (p := ⟨gb361, 0, none⟩) (Kd.R_mono HO_6.out (fun k_ hk => (⟨hk, hk.2⟩ : _ ∧ k_ ≠ gb361))) (fun _ hk => hk.2) (.string a2_0)) (fun _ hk => hk.2) (.string a2_1)) (fun _ hk => ⟨hk.1.1, hk.1.2⟩)))⟩; have n1_ : Aside0 (Kd.R k26 26 w55 w.heap.size (fun k_ => some k_ ≠ (u6 : Value).ownBlock ∧ k_ ≠ gb361) (.slice (some ad360) t357.length co42) t357) := ⟨(by rw [hw]; exact (by (with_reducible repeat (first | apply Kd.R_alloc | apply Kd.R_drewN | apply Kd.R_drew)); exact Kd.R_mono (Kd.R_far (p := ⟨gb361, 1, none⟩) (Kd.R_far (p := ⟨gb361, 0, none⟩) (Kd.R_mono HO_48.out (fun k_ hk => (⟨hk, hk.2⟩ : _ ∧ k_ ≠ gb361))) (fun _ hk => hk.2) (.string a2_0)) (fun _ hk => hk.2) (.string a2_1)) (fun _ hk => ⟨hk.1.1, hk.1.2⟩)))⟩; have n2_ : Aside0 (w55.heap[gb345]? = some (.cells #[.string a1_0, .string a1_1] 24 (0, 0))) := ⟨(by rw [hw]; exact (by (with_reducible repeat (first | refine blk_drewN ?_ _ | refine blk_drew ?_ | refine blk_alloc ?_ _)); refine blk_far ?_ NB345_361.out _; (with_reducible repeat (first | refine blk_drewN ?_ _ | refine blk_drew ?_ | refine blk_alloc ?_ _)); refine blk_far ?_ NB345_361.out _; (with_reducible repeat (first | refine blk_drewN ?_ _ | refine blk_drew ?_ | refine blk_alloc ?_ _)); exact BK345.out))⟩; have n3_ : Aside0 (w55.heap[gb346]? = some (.cells #[.string a2_0, .string a2_1] 24 (0, 0))) := ⟨(by rw [hw]; exact (by (with_reducible repeat (first | refine blk_drewN ?_ _ | refine blk_drew ?_ | refine blk_alloc ?_ _)); refine blk_far ?_ NB346_361.out _; (with_reducible repeat (first | refine blk_drewN ?_ _ | refine blk_drew ?_ | refine blk_alloc ?_ _)); refine blk_far ?_ NB346_361.out _; (with_reducible repeat (first | refine blk_drewN ?_ _ | refine blk_drew ?_ | refine blk_alloc ?_ _)); exact BK346.out))⟩; have n4_ : Aside0 (w55.heap[gb361]? = some (.cells #[.string a2_0, .string a2_1, .string ((rd_T26 t357 x50_2).f1), .int .i64 ((rd_T26 t357 x50_2).f2)] 26 (0, 0))) := ⟨(by rw [hw]; exact (by (with_reducible repeat (first | refine blk_drewN ?_ _ | refine blk_drew ?_ | refine blk_alloc ?_ _)); refine blk_put (cs := #[.string a2_0, .string ((rd_T26 t357 x50_2).f0.f1), .string ((rd_T26 t357 x50_2).f1), .int .i64 ((rd_T26 t357 x50_2).f2)]) ?_ 1 _ rfl; (with_reducible repeat (first | refine blk_drewN ?_ _ | refine blk_drew ?_ | refine blk_alloc ?_ _)); refine blk_put (cs := #[.string ((rd_T26 t357 x50_2).f0.f0), .string ((rd_T26 t357 x50_2).f0.f1), .string ((rd_T26 t357 x50_2).f1), .int .i64 ((rd_T26 t357 x50_2).f2)]) ?_ 0 _ rfl; (with_reducible repeat (first | refine blk_drewN ?_ _ | refine blk_drew ?_ | refine blk_alloc ?_ _)); exact BK361.out))⟩; have n5_ : Aside0 (Below w.heap.size w w55) := ⟨(by rw [hw]; exact (by repeat (first | (with_reducible first | exact HB.out | apply below_alloc | apply pw_below_drewN | apply below_drew1 | refine below_set ?_ GE345.out | refine below_set ?_ GE346.out | refine below_set ?_ GE361.out) | exact HB.out)))⟩; clear hw; clear HO_6; clear HO_48; clear BK345; clear BK346; clear BK361; clear HB; have HO_6 := n0_; have HO_48 := n1_; have BK345 := n2_; have BK346 := n3_; have BK361 := n4_; have HB := n5_; clear n0_ n1_ n2_ n3_ n4_ n5_; have hcz56_0 : w55.cell? ⟨gb361, 0, none⟩ = some (.string a2_0) := (blk_cell BK361.out 0).trans rfl; have hcz56_1 : w55.cell? ⟨gb361, 1, none⟩ = some (.string a2_1) := (blk_cell BK361.out 1).trans rfl; have hcz56_2 : w55.cell? ⟨gb361, 2, none⟩ = some (.string ((rd_T26 t357 x50_2).f1)) := (blk_cell BK361.out 2).trans rfl; have hcz56_3 : w55.cell? ⟨gb361, 3, none⟩ = some (.int .i64 ((rd_T26 t357 x50_2).f2)) := (blk_cell BK361.out 3).trans rfl; have hfz56_0 := blk_frozen BK361.out 0; have hfz56_1 := blk_frozen BK361.out 1; have hfz56_2 := blk_frozen BK361.out 2; have hfz56_3 := blk_frozen BK361.out 3; obtain ⟨Ao57, co57, eo57⟩ := Kd.R_slice HO_6.out; subst eo57) | ((with_reducible refine gate_callee (f := 52) rfl ?_); refine goesL_ (some 59) rfl rfl Try.func52 (by kernel_rfl) rfl #[.slice Ao57 x6_2.length co57, .agg #[.string a2_0, .string a2_1, .string ((rd_T26 t357 x50_2).f1), .int .i64 ((rd_T26 t357 x50_2).f2)]] rfl (by (try simp only [List.map_toArray, List.map_cons, List.map_nil]); first | done | rfl | (simp only [List.length_drop, List.length_take]; rfl)) ?_; (with_reducible refine (pledge_with.calls k2 _ _ x6_2 a2_0 a2_1 ((rd_T26 t357 x50_2).f1) ((rd_T26 t357 x50_2).f2) t362 t365 _ ?side1 ?side2 A46.out).mono ?_); (case side1 => repeat (first | exact (Kd.R_reads' HO_6.out).2.2 | (with_reducible refine Kd.C_alloc ?_ _) | (with_reducible refine Kd.C_drewN ?_ _) | (with_reducible refine Kd.C_drew ?_))); (case side2 => exact (Kd.R_reads' HO_6.out).2.1); rintro e w58 ⟨v363, rfl, ho0, hb⟩; refine ⟨_, rfl, ?_⟩; have n0_ := Aside0.mk (Kd.R_elder' (by (with_reducible repeat (first | apply Kd.R_alloc | apply Kd.R_drewN | apply Kd.R_drew)); exact HO_6.out) (Kd.R_base ho0) hb); have n1_ := Aside0.mk (Kd.R_elder' (by (with_reducible repeat (first | apply Kd.R_alloc | apply Kd.R_drewN | apply Kd.R_drew)); exact HO_48.out) (Kd.R_base ho0) hb); have n2_ := Aside0.mk (Kd.R_lower (Kd.R_newB (Kd.R_new' (Kd.R_new' ho0 (Kd.R_lt (by (with_reducible repeat (first | apply Kd.R_alloc | apply Kd.R_drewN | apply Kd.R_drew)); exact HO_6.out))) (Kd.R_lt (by (with_reducible repeat (first | apply Kd.R_alloc | apply Kd.R_drewN | apply Kd.R_drew)); exact HO_48.out))) (g := gb361) (o := .cells #[.string a2_0, .string a2_1, .string ((rd_T26 t357 x50_2).f1), .int .i64 ((rd_T26 t357 x50_2).f2)] 26 (0, 0)) (by (with_reducible repeat (first | refine blk_drewN ?_ _ | refine blk_drew ?_ | refine blk_alloc ?_ _)); exact BK361.out)) (below_size (by repeat (first | (with_reducible first | exact HB.out | apply below_alloc | apply pw_below_drewN | apply below_drew1 | refine below_set ?_ GE345.out | refine below_set ?_ GE346.out | refine below_set ?_ GE361.out) | exact HB.out)))); have n3_ := Aside0.mk (blk_below (g := gb345) (o := .cells #[.string a1_0, .string a1_1] 24 (0, 0)) (by (with_reducible repeat (first | refine blk_drewN ?_ _ | refine blk_drew ?_ | refine blk_alloc ?_ _)); exact BK345.out) hb); have n4_ := Aside0.mk (blk_below (g := gb346) (o := .cells #[.string a2_0, .string a2_1] 24 (0, 0)) (by (with_reducible repeat (first | refine blk_drewN ?_ _ | refine blk_drew ?_ | refine blk_alloc ?_ _)); exact BK346.out) hb); have n5_ := Aside0.mk (blk_below (g := gb361) (o := .cells #[.string a2_0, .string a2_1, .string ((rd_T26 t357 x50_2).f1), .int .i64 ((rd_T26 t357 x50_2).f2)] 26 (0, 0)) (by (with_reducible repeat (first | refine blk_drewN ?_ _ | refine blk_drew ?_ | refine blk_alloc ?_ _)); exact BK361.out) hb); have n6_ := Aside0.mk (below_step (by repeat (first | (with_reducible first | exact HB.out | apply below_alloc | apply pw_below_drewN | apply below_drew1 | refine below_set ?_ GE345.out | refine below_set ?_ GE346.out | refine below_set ?_ GE361.out) | exact HB.out)) hb); clear HO_6; clear HO_48; clear BK345; clear BK346; clear BK361; clear HB; have HO_6 := n0_; have HO_48 := n1_; have HO364 := n2_; have BK345 := n3_; have BK346 := n4_; have BK361 := n5_; have HB := n6_; clear n0_ n1_ n2_ n3_ n4_ n5_ n6_; (try clear hb); (try clear hb2); (try clear hk); (try clear hi); (try clear ho0)))
            (try simp only [Act.put, List.setIfInBounds_toArray, List.set_cons_zero, List.set_cons_succ])
            by_cases c59 : t365 = 0
            ·rw [if_pos c59] at H
             have c59b0 : (t365 == 0) = true := beq_iff_eq.mpr c59
             have c59b1 : (t365 != 0) = false := bne_eq_false_iff_eq.mpr c59
             clear c59
             (try simp only [c59b0, c59b1])
             have H' := Aside0.mk H
             clear H
             go_wp2
             go_roundg k2
             case measure => have := HK1.out; have := HK2.out; omega
             case rel => exact ⟨(t362), (wrap64 (x50_2 + 1)), (by first | rfl | (simp; done) | (simp [*]; done)), H', ⟨by have := HK1.out; have := HK2.out; omega⟩, ⟨by (with_reducible repeat (first | apply Kd.R_alloc | apply Kd.R_drewN | apply Kd.R_drew)); exact Kd.R_mono HO364.out (fun _ hk => hk.1.2)⟩, ⟨by (with_reducible repeat (first | apply Kd.R_alloc | apply Kd.R_drewN | apply Kd.R_drew)); exact Kd.R_mono HO_48.out (fun _ hk => hk.2)⟩, ⟨by (with_reducible repeat (first | refine blk_drewN ?_ _ | refine blk_drew ?_ | refine blk_alloc ?_ _)); exact BK345.out⟩, ⟨by (with_reducible repeat (first | refine blk_drewN ?_ _ | refine blk_drew ?_ | refine blk_alloc ?_ _)); exact BK346.out⟩, ⟨by repeat (first | (with_reducible first | exact HB.out | apply below_alloc | apply pw_below_drewN | apply below_drew1 | refine below_set ?_ GE345.out | refine below_set ?_ GE346.out | refine below_set ?_ GE361.out) | exact HB.out)⟩⟩
            ·rw [if_neg c59] at H
             have c59b0 : (t365 == 0) = false := beq_eq_false_iff_ne.mpr c59
             have c59b1 : (t365 != 0) = true := bne_iff_ne.mpr c59
             (try simp only [c59b0, c59b1])
             simp only [Option.some.injEq, Prod.mk.injEq] at H
             obtain ⟨rfl, rfl⟩ := H
             go_wp2
             go_ret2
             exact ⟨_, by first | rfl | (simp [errW_none, errW_some] <;> rfl) | (simp [*, errW_none, errW_some] <;> rfl), by first | exact Kd.R_nil _ _ _ _ _ | exact Kd.N_nil _ _ _ _ _ | exact Kd.V_nil _ _ _ _ _ | exact Kd.Q_nil _ _ _ _ _ | exact Kd.S_nil _ _ _ _ _, by repeat (first | (with_reducible first | exact HB.out | apply below_alloc | apply pw_below_drewN | apply below_drew1 | refine below_set ?_ GE345.out | refine below_set ?_ GE346.out | refine below_set ?_ GE361.out) | exact HB.out)⟩
           ·rw [if_neg c45] at H
            exact absurd H (by simp)
          ·rw [if_neg c44] at H
           exact absurd H (by simp)
         ·rw [if_neg c43] at H
          have c43b0 : decide (x50_2 < (t357.length : Int)) = false := decide_eq_false c43
          clear c43
          (try simp only [c43b0])
          simp only [Option.some.injEq, Prod.mk.injEq] at H
          obtain ⟨rfl, rfl⟩ := H
          go_wp2
          go_ret2
          exact ⟨_, by first | rfl | (simp [errW_none, errW_some] <;> rfl) | (simp [*, errW_none, errW_some] <;> rfl), by (with_reducible repeat (first | apply Kd.R_alloc | apply Kd.R_drewN | apply Kd.R_drew)); exact Kd.R_mono HO_6.out (fun _ hk => trivial), by repeat (first | (with_reducible first | exact HB.out | apply below_alloc | apply pw_below_drewN | apply below_drew1 | refine below_set ?_ GE345.out | refine below_set ?_ GE346.out) | exact HB.out)⟩
  ·replace c16 := Bool.eq_false_iff.mpr c16
   subst c16
   have H1 : (some (([] : List (S26)), 10)) = some (r1, r2) := by rw [if_neg (show ¬ (false = true) by decide)] at H; exact H
   clear H
   have H := H1
   clear H1
   simp only [Option.some.injEq, Prod.mk.injEq] at H
   obtain ⟨rfl, rfl⟩ := H
   go_wp2
   go_ret2
   exact ⟨_, by first | rfl | (simp [errW_none, errW_some] <;> rfl) | (simp [*, errW_none, errW_some] <;> rfl), by first | exact Kd.R_nil _ _ _ _ _ | exact Kd.N_nil _ _ _ _ _ | exact Kd.V_nil _ _ _ _ _ | exact Kd.Q_nil _ _ _ _ _ | exact Kd.S_nil _ _ _ _ _, by repeat (first | (with_reducible first | exact HB.out | apply below_alloc | apply pw_below_drewN | apply below_drew1 | refine below_set ?_ GE345.out | refine below_set ?_ GE346.out) | exact HB.out)⟩
 ·rw [if_neg c8] at H
  have c8b0 : (t347 == 0) = false := beq_eq_false_iff_ne.mpr c8
  have c8b1 : (t347 != 0) = true := bne_iff_ne.mpr c8
  (try simp only [c8b0, c8b1])
  simp only [Option.some.injEq, Prod.mk.injEq] at H
  obtain ⟨rfl, rfl⟩ := H
  go_wp2
  go_ret2
  exact ⟨_, by first | rfl | (simp [errW_none, errW_some] <;> rfl) | (simp [*, errW_none, errW_some] <;> rfl), by first | exact Kd.R_nil _ _ _ _ _ | exact Kd.N_nil _ _ _ _ _ | exact Kd.V_nil _ _ _ _ _ | exact Kd.Q_nil _ _ _ _ _ | exact Kd.S_nil _ _ _ _ _, by repeat (first | (with_reducible first | exact HB.out | apply below_alloc | apply pw_below_drewN | apply below_drew1 | refine below_set ?_ GE345.out | refine below_set ?_ GE346.out) | exact HB.out)⟩
end Go.Proofs.Ytggbflplbblgbaa.Pr
