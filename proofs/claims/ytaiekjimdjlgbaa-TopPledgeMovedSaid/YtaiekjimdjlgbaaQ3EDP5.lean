/- Functions' values and contracts, as the print wrote them. -/
import Derived.Test.YtaiekjimdjlgbaaQ3EDP0
import Derived.Test.YtaiekjimdjlgbaaQ3EDP4
import Derived.Test.YtaiekjimdjlgbaaQ3EDP1
namespace Go.Proofs.Ytaiekjimdjlgbaa.Pr
open Go.RowKit Go.Proofs.YtaiekjimdjlgbaaW.PrintWords Go.Proofs.YtaiekjimdjlgbaaW.PrintLast Go.Proofs.YtaiekjimdjlgbaaW.PrintMore
attribute [local go_sem] max2_int min2_int max_two min_two max_three min_three max_four min_four   -- for this text's walks alone
set_option linter.unusedVariables false
set_option linter.unusedSimpArgs false
attribute [local go_sem high] eqA67
mutual
def pledge_Move.l0 : Nat → List (S85) → List (S85) → List (S85) → Int → Int → ByteArray → ByteArray → ByteArray → ByteArray → Option ((List (S85)) × Int)
  | 0, _, _, _, _, _, _, _, _, _ => none
  | k + 1, x0, x6, x31, x32, x33, x656000, x656001, x657000, x657001 => if x33 < x32 then (if 0 ≤ x33 then (if x33 < (x31.length : Int) then (if (!((((rd_T85 x31 x33).f0.f0).toList) == x656000.toList) || (!((((rd_T85 x31 x33).f0.f1).toList) == x656001.toList))) = true then (if x6.length < 2513169434916 then (pledge_Move.l0 k x0 (x6 ++ [(⟨(⟨(rd_T85 x31 x33).f0.f0, (rd_T85 x31 x33).f0.f1⟩ : S67), (rd_T85 x31 x33).f1, (rd_T85 x31 x33).f2⟩ : S85)]) x31 x32 (wrap64 (x33 + 1)) x656000 x656001 x657000 x657001) else (none)) else (pledge_Move.l0 k x0 x6 x31 x32 (wrap64 (x33 + 1)) x656000 x656001 x657000 x657001)) else (none)) else (none)) else ((pledge_Of.f k x0 x656000 x656001).bind fun t667 => (pledge_Move.l1 k x6 t667 (t667.length : Int) 0 x657000 x657001))
def pledge_Move.l1 : Nat → List (S85) → List (S85) → Int → Int → ByteArray → ByteArray → Option ((List (S85)) × Int)
  | 0, _, _, _, _, _, _ => none
  | k + 1, x6, x48, x49, x50, x657000, x657001 => if x50 < x49 then (if 0 ≤ x50 then (if x50 < (x48.length : Int) then ((pledge_with.f k x6 x657000 x657001 ((rd_T85 x48 x50).f1) ((rd_T85 x48 x50).f2)).bind fun bt672 => (if bt672.2 = 0 then (pledge_Move.l1 k bt672.1 x48 x49 (wrap64 (x50 + 1)) x657000 x657001) else (some (([] : List (S85)), bt672.2)))) else (none)) else (none)) else (some (x6, 0))
end
def pledge_Move.f (k : Nat) (l0 : List (S85)) (a1_0 : ByteArray) (a1_1 : ByteArray) (a2_0 : ByteArray) (a2_1 : ByteArray) : Option ((List (S85)) × Int) := (pledge_Check.f k l0).bind fun t657 => (if t657 = 0 then ((pledge_named.f k (([a1_0, a1_1, a2_0, a2_1] : List ByteArray))).bind fun t661 => (if t661 = true then (if (a1_0.toList == a2_0.toList && (a1_1.toList == a2_1.toList)) = true then (some (([] : List (S85)), 21)) else (pledge_Move.l0 k l0 ([] : List (S85)) l0 (l0.length : Int) 0 a1_0 a1_1 a2_0 a2_1)) else (some (([] : List (S85)), 10)))) else (some (([] : List (S85)), t657)))
theorem pledge_Move.mono_l : ∀ k, (∀ y0 y1 y2 y3 y4 y5 y6 y7 y8, LeO (pledge_Move.l0 k y0 y1 y2 y3 y4 y5 y6 y7 y8) (pledge_Move.l0 (k + 1) y0 y1 y2 y3 y4 y5 y6 y7 y8)) ∧ (∀ y0 y1 y2 y3 y4 y5, LeO (pledge_Move.l1 k y0 y1 y2 y3 y4 y5) (pledge_Move.l1 (k + 1) y0 y1 y2 y3 y4 y5))
  | 0 => ⟨fun _ _ _ _ _ _ _ _ _ r h => by simp [pledge_Move.l0] at h, fun _ _ _ _ _ _ r h => by simp [pledge_Move.l1] at h⟩
  | k + 1 => by
    obtain ⟨ih0, ih1⟩ := pledge_Move.mono_l k
    refine ⟨?_, ?_⟩
    · intro y0 y1 y2 y3 y4 y5 y6 y7 y8
      unfold pledge_Move.l0
      repeat' first
      | (with_reducible exact ih0 _ _ _ _ _ _ _ _ _)
      | (with_reducible exact ih1 _ _ _ _ _ _)
      | (with_reducible exact pledge_Check.mono _ _)
      | (with_reducible exact pledge_Of.mono _ _ _ _)
      | (with_reducible exact pledge_named.mono _ _)
      | (with_reducible exact pledge_with.mono _ _ _ _ _ _)
      | (with_reducible exact LeO.refl _)
      | (with_reducible exact LeO.none _)
      | (with_reducible refine LeO.ite ?_ ?_)
      | (with_reducible refine LeO.bind ?_ (fun _ => ?_))
      | exact ih0 _ _ _ _ _ _ _ _ _
      | exact ih1 _ _ _ _ _ _
      | exact pledge_Check.mono _ _
      | exact pledge_Of.mono _ _ _ _
      | exact pledge_named.mono _ _
      | exact pledge_with.mono _ _ _ _ _ _
      | exact LeO.none _
      | refine LeO.ite ?_ ?_
      | refine LeO.bind ?_ (fun _ => ?_)
    · intro y0 y1 y2 y3 y4 y5
      unfold pledge_Move.l1
      repeat' first
      | (with_reducible exact ih0 _ _ _ _ _ _ _ _ _)
      | (with_reducible exact ih1 _ _ _ _ _ _)
      | (with_reducible exact pledge_Check.mono _ _)
      | (with_reducible exact pledge_Of.mono _ _ _ _)
      | (with_reducible exact pledge_named.mono _ _)
      | (with_reducible exact pledge_with.mono _ _ _ _ _ _)
      | (with_reducible exact LeO.refl _)
      | (with_reducible exact LeO.none _)
      | (with_reducible refine LeO.ite ?_ ?_)
      | (with_reducible refine LeO.bind ?_ (fun _ => ?_))
      | exact ih0 _ _ _ _ _ _ _ _ _
      | exact ih1 _ _ _ _ _ _
      | exact pledge_Check.mono _ _
      | exact pledge_Of.mono _ _ _ _
      | exact pledge_named.mono _ _
      | exact pledge_with.mono _ _ _ _ _ _
      | exact LeO.none _
      | refine LeO.ite ?_ ?_
      | refine LeO.bind ?_ (fun _ => ?_)
theorem pledge_Move.mono : ∀ a0 a1 a2 a3 a4 k, LeO (pledge_Move.f k a0 a1 a2 a3 a4) (pledge_Move.f (k + 1) a0 a1 a2 a3 a4) := by
  intro a0 a1 a2 a3 a4 k
  obtain ⟨ih0, ih1⟩ := pledge_Move.mono_l k
  unfold pledge_Move.f
  repeat' first
      | (with_reducible exact ih0 _ _ _ _ _ _ _ _ _)
      | (with_reducible exact ih1 _ _ _ _ _ _)
      | (with_reducible exact pledge_Check.mono _ _)
      | (with_reducible exact pledge_Of.mono _ _ _ _)
      | (with_reducible exact pledge_named.mono _ _)
      | (with_reducible exact pledge_with.mono _ _ _ _ _ _)
      | (with_reducible exact LeO.refl _)
      | (with_reducible exact LeO.none _)
      | (with_reducible refine LeO.ite ?_ ?_)
      | (with_reducible refine LeO.bind ?_ (fun _ => ?_))
      | exact ih0 _ _ _ _ _ _ _ _ _
      | exact ih1 _ _ _ _ _ _
      | exact pledge_Check.mono _ _
      | exact pledge_Of.mono _ _ _ _
      | exact pledge_named.mono _ _
      | exact pledge_with.mono _ _ _ _ _ _
      | exact LeO.none _
      | refine LeO.ite ?_ ?_
      | refine LeO.bind ?_ (fun _ => ?_)
set_option maxHeartbeats 8000000 in
set_option maxRecDepth 100000 in
theorem pledge_Move.calls (k : Nat) (A0 : Option Addr) (c0 : Nat) (l0 : List (S85)) (a1_0 : ByteArray) (a1_1 : ByteArray) (a2_0 : ByteArray) (a2_1 : ByteArray) (r1 : List (S85)) (r2 : Int) (w : World) (hr0 : Kd.C k85 w A0 l0.length l0) (hc0 : l0.length ≤ c0) (h : pledge_Move.f k l0 a1_0 a1_1 a2_0 a2_1 = some (r1, r2)) :
    Calls Try.prog 46 #[.slice A0 l0.length c0, .agg #[.string a1_0, .string a1_1], .agg #[.string a2_0, .string a2_1]] w fun e w' => ∃ v0_ : Value, e = .returned (.tuple #[v0_, .int .i64 r2]) ∧ Kd.R k85 85 w' w.heap.size (fun _ => True) v0_ r1 ∧ Below w.heap.size w w' := by
  have hu67 := Try.underlying67
  have hu85 := Try.underlying85
  have HR0 := Aside0.mk hr0
  have HC0 := Aside0.mk hc0
  clear hr0 hc0
  have HB := Aside0.mk (Below.refl w.heap.size w)
  have H : ((pledge_Check.f k l0).bind fun t657 => (if t657 = 0 then ((pledge_named.f k (([a1_0, a1_1, a2_0, a2_1] : List ByteArray))).bind fun t661 => (if t661 = true then (if (a1_0.toList == a2_0.toList && (a1_1.toList == a2_1.toList)) = true then (some (([] : List (S85)), 21)) else (pledge_Move.l0 k l0 ([] : List (S85)) l0 (l0.length : Int) 0 a1_0 a1_1 a2_0 a2_1)) else (some (([] : List (S85)), 10)))) else (some (([] : List (S85)), t657)))) = some (r1, r2) := h
  clear h
  replace H := Option.bind_eq_some_iff.mp H
  obtain ⟨t657, A40, H⟩ := H
  replace H : (if t657 = 0 then ((pledge_named.f k (([a1_0, a1_1, a2_0, a2_1] : List ByteArray))).bind fun t661 => (if t661 = true then (if (a1_0.toList == a2_0.toList && (a1_1.toList == a2_1.toList)) = true then (some (([] : List (S85)), 21)) else (pledge_Move.l0 k l0 ([] : List (S85)) l0 (l0.length : Int) 0 a1_0 a1_1 a2_0 a2_1)) else (some (([] : List (S85)), 10)))) else (some (([] : List (S85)), t657))) = some (r1, r2) := H
  have A4 := Aside0.mk A40
  clear A40
  go_enter Try.func46, Try.ntmps46
  go_upto_if 15 with (first | ((with_reducible refine gate_dst (N := 4) rfl ?_); refine box_event ?hg (N := 4) ?hd (cs := #[.string a1_0, .string a1_1]) (t := 67) ?hr ?_; (case hd => rfl); (case hg => rfl); (case hr => first | (go_simp; done) | (go_simp; rfl)); intro gb655 hg w5 hbox hb; have n0_ := Aside0.mk (below_step (by repeat (first | (with_reducible first | exact HB.out | apply below_alloc | apply pw_below_drewN | apply below_drew1) | exact HB.out)) hb); have n1_ := Aside0.mk (hbox); have n2_ := Aside0.mk ((by rw [hg]; exact (below_size (by repeat (first | (with_reducible first | exact HB.out | apply below_alloc | apply pw_below_drewN | apply below_drew1) | exact HB.out))) : w.heap.size ≤ gb655)); have n3_ := Aside0.mk ((by rw [hg]; exact (below_size (by repeat (first | (with_reducible first | exact HB.out | apply below_alloc | apply pw_below_drewN | apply below_drew1) | exact HB.out))) : w.heap.size ≤ gb655)); clear HB; have HB := n0_; have BK655 := n1_; have GW655 := n2_; have GE655 := n3_; clear n0_ n1_ n2_ n3_; clear hb hbox hg) | ((with_reducible refine gate_dst (N := 5) rfl ?_); refine box_event ?hg (N := 5) ?hd (cs := #[.string a2_0, .string a2_1]) (t := 67) ?hr ?_; (case hd => rfl); (case hg => rfl); (case hr => first | (go_simp; done) | (go_simp; rfl)); intro gb656 hg w6 hbox hb; have n0_ := Aside0.mk (blk_below (g := gb655) (o := .cells #[.string a1_0, .string a1_1] 67 (0, 0)) (by (with_reducible repeat (first | refine blk_drewN ?_ _ | refine blk_drew ?_ | refine blk_alloc ?_ _)); exact BK655.out) hb); have n1_ := Aside0.mk (below_step (by repeat (first | (with_reducible first | exact HB.out | apply below_alloc | apply pw_below_drewN | apply below_drew1 | refine below_set ?_ GE655.out) | exact HB.out)) hb); have n2_ := Aside0.mk (hbox); have n3_ := Aside0.mk ((by rw [hg]; exact (below_size (by repeat (first | (with_reducible first | exact HB.out | apply below_alloc | apply pw_below_drewN | apply below_drew1 | refine below_set ?_ GE655.out) | exact HB.out))) : w.heap.size ≤ gb656)); have n4_ := Aside0.mk ((by rw [hg]; exact (below_size (by repeat (first | (with_reducible first | exact HB.out | apply below_alloc | apply pw_below_drewN | apply below_drew1 | refine below_set ?_ GE655.out) | exact HB.out))) : w.heap.size ≤ gb656)); have n5_ := Aside0.mk ((by rw [hg]; exact Nat.ne_of_lt (blk_lt (g := gb655) (o := .cells #[.string a1_0, .string a1_1] 67 (0, 0)) (by (with_reducible repeat (first | refine blk_drewN ?_ _ | refine blk_drew ?_ | refine blk_alloc ?_ _)); exact BK655.out)) : gb655 ≠ gb656)); have n6_ := Aside0.mk ((by rw [hg]; exact Nat.ne_of_gt (blk_lt (g := gb655) (o := .cells #[.string a1_0, .string a1_1] 67 (0, 0)) (by (with_reducible repeat (first | refine blk_drewN ?_ _ | refine blk_drew ?_ | refine blk_alloc ?_ _)); exact BK655.out)) : gb656 ≠ gb655)); clear BK655; clear HB; have BK655 := n0_; have HB := n1_; have BK656 := n2_; have GW656 := n3_; have GE656 := n4_; have NB655_656 := n5_; have NB656_655 := n6_; clear n0_ n1_ n2_ n3_ n4_ n5_ n6_; clear hb hbox hg) | ((with_reducible refine gate_callee (f := 48) rfl ?_); refine goesL_ (some 13) rfl rfl Try.func48 (by kernel_rfl) rfl #[.slice A0 l0.length c0] rfl (by (try simp only [List.map_toArray, List.map_cons, List.map_nil]); first | done | rfl | (simp only [List.length_drop, List.length_take]; rfl)) ?_; (with_reducible refine (pledge_Check.calls k _ _ l0 t657 _ ?side1 ?side2 A4.out).mono ?_); (case side1 => repeat (first | exact (Kd.C_below HR0.out HB.out) | (with_reducible refine Kd.C_alloc ?_ _) | (with_reducible refine Kd.C_drewN ?_ _) | (with_reducible refine Kd.C_drew ?_))); (case side2 => exact HC0.out); rintro e w7 ⟨rfl, hb⟩; refine ⟨_, rfl, ?_⟩; have n0_ := Aside0.mk (blk_below (g := gb655) (o := .cells #[.string a1_0, .string a1_1] 67 (0, 0)) (by (with_reducible repeat (first | refine blk_drewN ?_ _ | refine blk_drew ?_ | refine blk_alloc ?_ _)); exact BK655.out) hb); have n1_ := Aside0.mk (blk_below (g := gb656) (o := .cells #[.string a2_0, .string a2_1] 67 (0, 0)) (by (with_reducible repeat (first | refine blk_drewN ?_ _ | refine blk_drew ?_ | refine blk_alloc ?_ _)); exact BK656.out) hb); have n2_ := Aside0.mk (below_step (by repeat (first | (with_reducible first | exact HB.out | apply below_alloc | apply pw_below_drewN | apply below_drew1 | refine below_set ?_ GE655.out | refine below_set ?_ GE656.out) | exact HB.out)) hb); clear BK655; clear BK656; clear HB; have BK655 := n0_; have BK656 := n1_; have HB := n2_; clear n0_ n1_ n2_; (try clear hb); (try clear hb2); (try clear hk); (try clear hi)))
  (try simp only [Act.put, List.setIfInBounds_toArray, List.set_cons_zero, List.set_cons_succ])
  by_cases c8 : t657 = 0
  · rw [if_pos c8] at H
    have c8b0 : (t657 == 0) = true := beq_iff_eq.mpr c8
    have c8b1 : (t657 != 0) = false := bne_eq_false_iff_eq.mpr c8
    clear c8
    (try simp only [c8b0, c8b1])
    obtain ⟨y658, hy658⟩ : ∃ y_ : List ByteArray, y_ = (([a1_0, a1_1, a2_0, a2_1] : List ByteArray)) := ⟨_, rfl⟩
    replace H : ((pledge_named.f k y658).bind fun t661 => (if t661 = true then (if (a1_0.toList == a2_0.toList && (a1_1.toList == a2_1.toList)) = true then (some (([] : List (S85)), 21)) else (pledge_Move.l0 k l0 ([] : List (S85)) l0 (l0.length : Int) 0 a1_0 a1_1 a2_0 a2_1)) else (some (([] : List (S85)), 10)))) = some (r1, r2) := by first | (rw [hy658]; with_reducible exact H) | (have H2_ := (Option.bind_some _ _).symm.trans H; rw [hy658]; with_reducible exact H2_) | (have H2_ := (Option.bind_some _ _).symm.trans H; with_reducible exact H2_) | with_reducible exact H | (rw [hy658]; exact H) | exact H
    have Ny658 := Aside0.mk hy658
    clear hy658
    replace H := Option.bind_eq_some_iff.mp H
    obtain ⟨t661, A90, H⟩ := H
    replace H : (if t661 = true then (if (a1_0.toList == a2_0.toList && (a1_1.toList == a2_1.toList)) = true then (some (([] : List (S85)), 21)) else (pledge_Move.l0 k l0 ([] : List (S85)) l0 (l0.length : Int) 0 a1_0 a1_1 a2_0 a2_1)) else (some (([] : List (S85)), 10))) = some (r1, r2) := H
    have A9 := Aside0.mk A90
    clear A90
    have hnb10 := NB655_656.out
    have hnc10 := NB656_655.out
    have hcz11_0 : w7.cell? ⟨gb655, 0, none⟩ = some (.string a1_0) := (blk_cell BK655.out 0).trans rfl
    have hcz11_1 : w7.cell? ⟨gb655, 1, none⟩ = some (.string a1_1) := (blk_cell BK655.out 1).trans rfl
    have hfz11_0 := blk_frozen BK655.out 0
    have hfz11_1 := blk_frozen BK655.out 1
    have hcz12_0 : w7.cell? ⟨gb656, 0, none⟩ = some (.string a2_0) := (blk_cell BK656.out 0).trans rfl
    have hcz12_1 : w7.cell? ⟨gb656, 1, none⟩ = some (.string a2_1) := (blk_cell BK656.out 1).trans rfl
    have hfz12_0 := blk_frozen BK656.out 0
    have hfz12_1 := blk_frozen BK656.out 1
    go_upto_if 27 with (first | ((with_reducible refine gate_dst (N := 25) rfl ?_); refine Kd.R_lit Kd.string _ 9 ?hg (N := 25) ?hd (xs := ([a1_0, a1_1, a2_0, a2_1] : List ByteArray)) (inner := [.string a1_0, .string a1_1, .string a2_0, .string a2_1]) (ok := fun _ => True) (okp := fun _ => True) ?hr ?hp (fun _ hk => hk) trivial (Below.refl _ _) (Nat.le_refl _) (by simp) ?_; (case hd => rfl); (case hg => rfl); (case hr => first | (go_simp; done) | (go_simp; rfl)); (case hp => exact (Reps.one (show Kd.M Kd.string _ _ _ a1_0 [.string a1_0] from rfl) (Reps.one (show Kd.M Kd.string _ _ _ a1_1 [.string a1_1] from rfl) (Reps.one (show Kd.M Kd.string _ _ _ a2_0 [.string a2_0] from rfl) (Reps.one (show Kd.M Kd.string _ _ _ a2_1 [.string a2_1] from rfl) (Reps.none _ _)))))); intro v659 w13 ho14 hb hg_ hnew_; clear hg_ hnew_; (first | rw [← Ny658.out] at ho14 | (simp only [Int.reduceToNat] at ho14; rw [← Ny658.out] at ho14)); have n0_ := Aside0.mk (Kd.R_lower ho14 (below_size (by repeat (first | (with_reducible first | exact HB.out | apply below_alloc | apply pw_below_drewN | apply below_drew1 | refine below_set ?_ GE655.out | refine below_set ?_ GE656.out) | exact HB.out)))); have n1_ := Aside0.mk (blk_below (g := gb655) (o := .cells #[.string a1_0, .string a1_1] 67 (0, 0)) (by (with_reducible repeat (first | refine blk_drewN ?_ _ | refine blk_drew ?_ | refine blk_alloc ?_ _)); exact BK655.out) hb); have n2_ := Aside0.mk (blk_below (g := gb656) (o := .cells #[.string a2_0, .string a2_1] 67 (0, 0)) (by (with_reducible repeat (first | refine blk_drewN ?_ _ | refine blk_drew ?_ | refine blk_alloc ?_ _)); exact BK656.out) hb); have n3_ := Aside0.mk (below_step (by repeat (first | (with_reducible first | exact HB.out | apply below_alloc | apply pw_below_drewN | apply below_drew1 | refine below_set ?_ GE655.out | refine below_set ?_ GE656.out) | exact HB.out)) hb); clear BK655; clear BK656; clear HB; have HO660 := n0_; have BK655 := n1_; have BK656 := n2_; have HB := n3_; clear n0_ n1_ n2_ n3_; clear hb ho14; obtain ⟨Ao15, co15, eo15⟩ := Kd.R_slice HO660.out; subst eo15) | ((with_reducible refine gate_callee (f := 79) rfl ?_); refine goesL_ (some 26) rfl rfl Try.func79 (by kernel_rfl) rfl #[.slice Ao15 y658.length co15] rfl (by (try simp only [List.map_toArray, List.map_cons, List.map_nil]); first | done | rfl | (simp only [List.length_drop, List.length_take]; rfl)) ?_; (with_reducible refine (pledge_named.calls k _ _ y658 t661 _ ?side1 ?side2 A9.out).mono ?_); (case side1 => repeat (first | exact (Kd.R_reads' HO660.out).2.2 | (with_reducible refine Kd.C_alloc ?_ _) | (with_reducible refine Kd.C_drewN ?_ _) | (with_reducible refine Kd.C_drew ?_))); (case side2 => exact (Kd.R_reads' HO660.out).2.1); rintro e w' ⟨rfl, ⟨nd, rfl⟩⟩; refine ⟨_, rfl, ?_⟩))
    (try simp only [Act.put, List.setIfInBounds_toArray, List.set_cons_zero, List.set_cons_succ])
    by_cases c16 : t661 = true
    · subst c16
      have H1 : (if (a1_0.toList == a2_0.toList && (a1_1.toList == a2_1.toList)) = true then (some (([] : List (S85)), 21)) else (pledge_Move.l0 k l0 ([] : List (S85)) l0 (l0.length : Int) 0 a1_0 a1_1 a2_0 a2_1)) = some (r1, r2) := by rw [if_pos rfl] at H; exact H
      clear H
      have H := H1
      clear H1
      have hnb17 := NB655_656.out
      have hnc17 := NB656_655.out
      have hcz18_0 : w13.cell? ⟨gb655, 0, none⟩ = some (.string a1_0) := (blk_cell BK655.out 0).trans rfl
      have hcz18_1 : w13.cell? ⟨gb655, 1, none⟩ = some (.string a1_1) := (blk_cell BK655.out 1).trans rfl
      have hfz18_0 := blk_frozen BK655.out 0
      have hfz18_1 := blk_frozen BK655.out 1
      have hcz19_0 : w13.cell? ⟨gb656, 0, none⟩ = some (.string a2_0) := (blk_cell BK656.out 0).trans rfl
      have hcz19_1 : w13.cell? ⟨gb656, 1, none⟩ = some (.string a2_1) := (blk_cell BK656.out 1).trans rfl
      have hfz19_0 := blk_frozen BK656.out 0
      have hfz19_1 := blk_frozen BK656.out 1
      go_upto_if 30 with (fail)
      by_cases c20 : (a1_0.toList == a2_0.toList && (a1_1.toList == a2_1.toList)) = true
      · rw [if_pos c20] at H
        have c20b0 : (a1_0.toList == a2_0.toList && (a1_1.toList == a2_1.toList)) = true := c20
        (try (have c20b1 : decide (a1_0.toList = a2_0.toList && (a1_1.toList == a2_1.toList)) = true := by simpa using c20))
        (try (have c20b2 : (a1_0.toList == a2_0.toList && (a1_1.toList == a2_1.toList)) = true := by simpa using c20))
        clear c20
        (try simp only [c20b0])
        simp only [Option.some.injEq, Prod.mk.injEq] at H
        obtain ⟨rfl, rfl⟩ := H
        go_wp2
        go_ret2
        exact ⟨_, by first | rfl | (simp [errW_none, errW_some] <;> rfl) | (simp [*, errW_none, errW_some] <;> rfl), by first | exact Kd.R_nil _ _ _ _ _ | exact Kd.N_nil _ _ _ _ _ | exact Kd.V_nil _ _ _ _ _ | exact Kd.Q_nil _ _ _ _ _ | exact Kd.S_nil _ _ _ _ _, by repeat (first | (with_reducible first | exact HB.out | apply below_alloc | apply pw_below_drewN | apply below_drew1 | refine below_set ?_ GE655.out | refine below_set ?_ GE656.out) | exact HB.out)⟩
      · rw [if_neg c20] at H
        have c20b0 : (a1_0.toList == a2_0.toList && (a1_1.toList == a2_1.toList)) = false := by simpa using c20
        (try (have c20b1 : decide (a1_0.toList = a2_0.toList && (a1_1.toList == a2_1.toList)) = false := by simpa using c20))
        (try (have c20b2 : (a1_0.toList == a2_0.toList && (a1_1.toList == a2_1.toList)) = false := by simpa using c20))
        (try (have c20b3 : ¬ (a1_0.toList = a2_0.toList && (a1_1.toList == a2_1.toList)) := by simpa using c20))
        clear c20
        (try simp only [c20b0])
        have H' := Aside0.mk H
        clear H
        go_wp2
        go_loopg [6, 33] k (fun kq v6 v33 w' => ∃ (x6_1 : List (S85)) (x33_1 : Int), v33 = .int .i64 x33_1 ∧ Aside0 (pledge_Move.l0 kq l0 x6_1 l0 (l0.length : Int) x33_1 a1_0 a1_1 a2_0 a2_1 = some (r1, r2)) ∧ Aside0 (kq ≤ k) ∧ Aside0 (Kd.R k85 85 w' w.heap.size (fun _ => True) v6 x6_1) ∧ Aside0 (w'.heap[gb655]? = some (.cells #[.string a1_0, .string a1_1] 67 (0, 0))) ∧ Aside0 (w'.heap[gb656]? = some (.cells #[.string a2_0, .string a2_1] 67 (0, 0))) ∧ Aside0 (Below w.heap.size w w'))
        case atStart => exact ⟨(([] : List (S85))), (0), (by first | rfl | (simp; done) | (simp [*]; done)), H', ⟨Nat.le_refl _⟩, ⟨by first | exact Kd.R_nil _ _ _ _ _ | exact Kd.N_nil _ _ _ _ _ | exact Kd.V_nil _ _ _ _ _ | exact Kd.Q_nil _ _ _ _ _ | exact Kd.S_nil _ _ _ _ _⟩, ⟨by (with_reducible repeat (first | refine blk_drewN ?_ _ | refine blk_drew ?_ | refine blk_alloc ?_ _)); exact BK655.out⟩, ⟨by (with_reducible repeat (first | refine blk_drewN ?_ _ | refine blk_drew ?_ | refine blk_alloc ?_ _)); exact BK656.out⟩, ⟨by repeat (first | (with_reducible first | exact HB.out | apply below_alloc | apply pw_below_drewN | apply below_drew1 | refine below_set ?_ GE655.out | refine below_set ?_ GE656.out) | exact HB.out)⟩⟩
        case round =>
          clear H'
          try clear c1
          try clear c2
          try clear p2
          try clear c4
          try clear c7
          try clear c8
          try clear c8b0
          try clear c8b1
          try clear c10
          try clear c16
          try clear c17
          try clear c20
          try clear c20b0
          try clear c20b1
          try clear c20b2
          try clear hcz11_0
          try clear hcz11_1
          try clear hcz12_0
          try clear hcz12_1
          try clear hcz18_0
          try clear hcz18_1
          try clear hcz19_0
          try clear hcz19_1
          try clear hfz11_0
          try clear hfz11_1
          try clear hfz12_0
          try clear hfz12_1
          try clear hfz18_0
          try clear hfz18_1
          try clear hfz19_0
          try clear hfz19_1
          obtain ⟨x6_1, x33_1, rfl, HA, HK1, HO_6, BK655, BK656, HB⟩ := hrel
          cases gk with
          | zero => exact absurd HA.out (by simp [pledge_Move.l0])
          | succ k1 =>
            have H := HA.out
            clear HA
            simp only [pledge_Move.l0] at H
            by_cases c21 : x33_1 < (l0.length : Int)
            · rw [if_pos c21] at H
              have c21b0 : decide (x33_1 < (l0.length : Int)) = true := decide_eq_true c21
              clear c21
              (try simp only [c21b0])
              by_cases c22 : 0 ≤ x33_1
              · rw [if_pos c22] at H
                have c22b0 : decide (0 ≤ x33_1) = true := decide_eq_true c22
                clear c22
                by_cases c23 : x33_1 < (l0.length : Int)
                · rw [if_pos c23] at H
                  have c23b0 : decide (x33_1 < (l0.length : Int)) = true := decide_eq_true c23
                  clear c23
                  have p662 : 0 ≤ (x33_1 : Int) := of_decide_eq_true (by first | (with_reducible assumption) | assumption)
                  have q662 : x33_1 < (l0.length : Int) := of_decide_eq_true (by first | (with_reducible assumption) | assumption)
                  obtain ⟨ad662, e662, hx662_0, hx662_1, hx662_2, hx662_3⟩ := at_T85 HR0.out x33_1 p662 q662
                  cases e662
                  replace hx662_0 := (HB.out.cell (World.block_lt_of_cell? w _ hx662_0)).trans hx662_0
                  replace hx662_1 := (HB.out.cell (World.block_lt_of_cell? w _ hx662_1)).trans hx662_1
                  replace hx662_2 := (HB.out.cell (World.block_lt_of_cell? w _ hx662_2)).trans hx662_2
                  replace hx662_3 := (HB.out.cell (World.block_lt_of_cell? w _ hx662_3)).trans hx662_3
                  replace p662 := eq_true p662
                  replace q662 := eq_true q662
                  go_upto_if 40 with (first | ((with_reducible refine gate_dst (N := 9) rfl ?_); refine box_event ?hg (N := 9) ?hd (cs := #[.string (⟨#[]⟩ : ByteArray), .string (⟨#[]⟩ : ByteArray), .string (⟨#[]⟩ : ByteArray), .int .i64 0]) (t := 85) ?hr ?_; (case hd => rfl); (case hg => rfl); (case hr => first | (go_simp; done) | (go_simp; rfl)); intro gb663 hg w24 hbox hb; have n0_ := Aside0.mk (Kd.R_below (Kd.R_elderB (by (with_reducible repeat (first | apply Kd.R_alloc | apply Kd.R_drewN | apply Kd.R_drew)); exact HO_6.out) gb663 (Nat.le_of_eq hg.symm)) hb); have n1_ := Aside0.mk (blk_below (g := gb655) (o := .cells #[.string a1_0, .string a1_1] 67 (0, 0)) (by (with_reducible repeat (first | refine blk_drewN ?_ _ | refine blk_drew ?_ | refine blk_alloc ?_ _)); exact BK655.out) hb); have n2_ := Aside0.mk (blk_below (g := gb656) (o := .cells #[.string a2_0, .string a2_1] 67 (0, 0)) (by (with_reducible repeat (first | refine blk_drewN ?_ _ | refine blk_drew ?_ | refine blk_alloc ?_ _)); exact BK656.out) hb); have n3_ := Aside0.mk (below_step (by repeat (first | (with_reducible first | exact HB.out | apply below_alloc | apply pw_below_drewN | apply below_drew1 | refine below_set ?_ GE655.out | refine below_set ?_ GE656.out) | exact HB.out)) hb); have n4_ := Aside0.mk (hbox); have n5_ := Aside0.mk ((by rw [hg]; exact (below_size (by repeat (first | (with_reducible first | exact HB.out | apply below_alloc | apply pw_below_drewN | apply below_drew1 | refine below_set ?_ GE655.out | refine below_set ?_ GE656.out) | exact HB.out))) : w.heap.size ≤ gb663)); have n6_ := Aside0.mk ((by rw [hg]; exact (below_size (by repeat (first | (with_reducible first | exact HB.out | apply below_alloc | apply pw_below_drewN | apply below_drew1 | refine below_set ?_ GE655.out | refine below_set ?_ GE656.out) | exact HB.out))) : w.heap.size ≤ gb663)); have n7_ := Aside0.mk ((by rw [hg]; exact Nat.ne_of_lt (blk_lt (g := gb655) (o := .cells #[.string a1_0, .string a1_1] 67 (0, 0)) (by (with_reducible repeat (first | refine blk_drewN ?_ _ | refine blk_drew ?_ | refine blk_alloc ?_ _)); exact BK655.out)) : gb655 ≠ gb663)); have n8_ := Aside0.mk ((by rw [hg]; exact Nat.ne_of_gt (blk_lt (g := gb655) (o := .cells #[.string a1_0, .string a1_1] 67 (0, 0)) (by (with_reducible repeat (first | refine blk_drewN ?_ _ | refine blk_drew ?_ | refine blk_alloc ?_ _)); exact BK655.out)) : gb663 ≠ gb655)); have n9_ := Aside0.mk ((by rw [hg]; exact Nat.ne_of_lt (blk_lt (g := gb656) (o := .cells #[.string a2_0, .string a2_1] 67 (0, 0)) (by (with_reducible repeat (first | refine blk_drewN ?_ _ | refine blk_drew ?_ | refine blk_alloc ?_ _)); exact BK656.out)) : gb656 ≠ gb663)); have n10_ := Aside0.mk ((by rw [hg]; exact Nat.ne_of_gt (blk_lt (g := gb656) (o := .cells #[.string a2_0, .string a2_1] 67 (0, 0)) (by (with_reducible repeat (first | refine blk_drewN ?_ _ | refine blk_drew ?_ | refine blk_alloc ?_ _)); exact BK656.out)) : gb663 ≠ gb656)); clear HO_6; clear BK655; clear BK656; clear HB; have HO_6 := n0_; have BK655 := n1_; have BK656 := n2_; have HB := n3_; have BK663 := n4_; have GW663 := n5_; have GE663 := n6_; have NB655_663 := n7_; have NB663_655 := n8_; have NB656_663 := n9_; have NB663_656 := n10_; clear n0_ n1_ n2_ n3_ n4_ n5_ n6_ n7_ n8_ n9_ n10_; clear hb hbox hg; have hnb25 := NB663_655.out; have hnc25 := NB655_663.out; have hnb26 := NB663_656.out; have hnc26 := NB656_663.out; have hcz27_0 : w24.cell? ⟨gb663, 0, none⟩ = some (.string (⟨#[]⟩ : ByteArray)) := (blk_cell BK663.out 0).trans rfl; have hcz27_1 : w24.cell? ⟨gb663, 1, none⟩ = some (.string (⟨#[]⟩ : ByteArray)) := (blk_cell BK663.out 1).trans rfl; have hcz27_2 : w24.cell? ⟨gb663, 2, none⟩ = some (.string (⟨#[]⟩ : ByteArray)) := (blk_cell BK663.out 2).trans rfl; have hcz27_3 : w24.cell? ⟨gb663, 3, none⟩ = some (.int .i64 0) := (blk_cell BK663.out 3).trans rfl; have hfz27_0 := blk_frozen BK663.out 0; have hfz27_1 := blk_frozen BK663.out 1; have hfz27_2 := blk_frozen BK663.out 2; have hfz27_3 := blk_frozen BK663.out 3) | ((with_reducible refine gate_store (t := 85) (p := 9) rfl ?_); refine store_event (t := 85) (p := 9) (v := ?vo_w28) (w1 := ((((w24.setCell ⟨gb663, 0, none⟩ (.string ((rd_T85 l0 x33_1).f0.f0))).setCell ⟨gb663, 1, none⟩ (.string ((rd_T85 l0 x33_1).f0.f1))).setCell ⟨gb663, 2, none⟩ (.string ((rd_T85 l0 x33_1).f1))).setCell ⟨gb663, 3, none⟩ (.int .i64 ((rd_T85 l0 x33_1).f2)))) ?hg ?ho ?hn ?hr ?_; (case ho => rfl); (case hg => rfl); (case hn => rfl); (case hr => first | (exact store_box_run (cs := #[.string (⟨#[]⟩ : ByteArray), .string (⟨#[]⟩ : ByteArray), .string (⟨#[]⟩ : ByteArray), .int .i64 0]) (seg := [.string ((rd_T85 l0 x33_1).f0.f0), .string ((rd_T85 l0 x33_1).f0.f1), .string ((rd_T85 l0 x33_1).f1), .int .i64 ((rd_T85 l0 x33_1).f2)]) BK663.out rfl (by first | rfl | (go_simp; done)) (by first | rfl | (go_simp; done)) (by rfl) (by first | rfl | kernel_rfl) (by simp) (by first | rfl | simp [Value.oneCell'])) | (go_simp; done) | (go_simp; rfl)); intro w28 hw; have n0_ : Aside0 (Kd.R k85 85 w28 w.heap.size (fun k_ => k_ ≠ gb663) u6 x6_1) := ⟨(by rw [hw]; exact (by (with_reducible repeat (first | apply Kd.R_alloc | apply Kd.R_drewN | apply Kd.R_drew)); exact Kd.R_mono (Kd.R_far (p := ⟨gb663, 3, none⟩) (Kd.R_far (p := ⟨gb663, 2, none⟩) (Kd.R_far (p := ⟨gb663, 1, none⟩) (Kd.R_far (p := ⟨gb663, 0, none⟩) (Kd.R_mono HO_6.out (fun k_ hk => (⟨hk, hk.2⟩ : _ ∧ k_ ≠ gb663))) (fun _ hk => hk.2) (.string ((rd_T85 l0 x33_1).f0.f0))) (fun _ hk => hk.2) (.string ((rd_T85 l0 x33_1).f0.f1))) (fun _ hk => hk.2) (.string ((rd_T85 l0 x33_1).f1))) (fun _ hk => hk.2) (.int .i64 ((rd_T85 l0 x33_1).f2))) (fun _ hk => hk.1.2)))⟩; have n1_ : Aside0 (w28.heap[gb655]? = some (.cells #[.string a1_0, .string a1_1] 67 (0, 0))) := ⟨(by rw [hw]; exact (by (with_reducible repeat (first | refine blk_drewN ?_ _ | refine blk_drew ?_ | refine blk_alloc ?_ _)); refine blk_far ?_ NB655_663.out _; (with_reducible repeat (first | refine blk_drewN ?_ _ | refine blk_drew ?_ | refine blk_alloc ?_ _)); refine blk_far ?_ NB655_663.out _; (with_reducible repeat (first | refine blk_drewN ?_ _ | refine blk_drew ?_ | refine blk_alloc ?_ _)); refine blk_far ?_ NB655_663.out _; (with_reducible repeat (first | refine blk_drewN ?_ _ | refine blk_drew ?_ | refine blk_alloc ?_ _)); refine blk_far ?_ NB655_663.out _; (with_reducible repeat (first | refine blk_drewN ?_ _ | refine blk_drew ?_ | refine blk_alloc ?_ _)); exact BK655.out))⟩; have n2_ : Aside0 (w28.heap[gb656]? = some (.cells #[.string a2_0, .string a2_1] 67 (0, 0))) := ⟨(by rw [hw]; exact (by (with_reducible repeat (first | refine blk_drewN ?_ _ | refine blk_drew ?_ | refine blk_alloc ?_ _)); refine blk_far ?_ NB656_663.out _; (with_reducible repeat (first | refine blk_drewN ?_ _ | refine blk_drew ?_ | refine blk_alloc ?_ _)); refine blk_far ?_ NB656_663.out _; (with_reducible repeat (first | refine blk_drewN ?_ _ | refine blk_drew ?_ | refine blk_alloc ?_ _)); refine blk_far ?_ NB656_663.out _; (with_reducible repeat (first | refine blk_drewN ?_ _ | refine blk_drew ?_ | refine blk_alloc ?_ _)); refine blk_far ?_ NB656_663.out _; (with_reducible repeat (first | refine blk_drewN ?_ _ | refine blk_drew ?_ | refine blk_alloc ?_ _)); exact BK656.out))⟩; have n3_ : Aside0 (w28.heap[gb663]? = some (.cells #[.string ((rd_T85 l0 x33_1).f0.f0), .string ((rd_T85 l0 x33_1).f0.f1), .string ((rd_T85 l0 x33_1).f1), .int .i64 ((rd_T85 l0 x33_1).f2)] 85 (0, 0))) := ⟨(by rw [hw]; exact (by (with_reducible repeat (first | refine blk_drewN ?_ _ | refine blk_drew ?_ | refine blk_alloc ?_ _)); refine blk_put (cs := #[.string ((rd_T85 l0 x33_1).f0.f0), .string ((rd_T85 l0 x33_1).f0.f1), .string ((rd_T85 l0 x33_1).f1), .int .i64 0]) ?_ 3 _ rfl; (with_reducible repeat (first | refine blk_drewN ?_ _ | refine blk_drew ?_ | refine blk_alloc ?_ _)); refine blk_put (cs := #[.string ((rd_T85 l0 x33_1).f0.f0), .string ((rd_T85 l0 x33_1).f0.f1), .string (⟨#[]⟩ : ByteArray), .int .i64 0]) ?_ 2 _ rfl; (with_reducible repeat (first | refine blk_drewN ?_ _ | refine blk_drew ?_ | refine blk_alloc ?_ _)); refine blk_put (cs := #[.string ((rd_T85 l0 x33_1).f0.f0), .string (⟨#[]⟩ : ByteArray), .string (⟨#[]⟩ : ByteArray), .int .i64 0]) ?_ 1 _ rfl; (with_reducible repeat (first | refine blk_drewN ?_ _ | refine blk_drew ?_ | refine blk_alloc ?_ _)); refine blk_put (cs := #[.string (⟨#[]⟩ : ByteArray), .string (⟨#[]⟩ : ByteArray), .string (⟨#[]⟩ : ByteArray), .int .i64 0]) ?_ 0 _ rfl; (with_reducible repeat (first | refine blk_drewN ?_ _ | refine blk_drew ?_ | refine blk_alloc ?_ _)); exact BK663.out))⟩; have n4_ : Aside0 (Below w.heap.size w w28) := ⟨(by rw [hw]; exact (by repeat (first | (with_reducible first | exact HB.out | apply below_alloc | apply pw_below_drewN | apply below_drew1 | refine below_set ?_ GE655.out | refine below_set ?_ GE656.out | refine below_set ?_ GE663.out) | exact HB.out)))⟩; clear hw; clear HO_6; clear BK655; clear BK656; clear BK663; clear HB; have HO_6 := n0_; have BK655 := n1_; have BK656 := n2_; have BK663 := n3_; have HB := n4_; clear n0_ n1_ n2_ n3_ n4_; have hcz29_0 : w28.cell? ⟨gb663, 0, none⟩ = some (.string ((rd_T85 l0 x33_1).f0.f0)) := (blk_cell BK663.out 0).trans rfl; have hcz29_1 : w28.cell? ⟨gb663, 1, none⟩ = some (.string ((rd_T85 l0 x33_1).f0.f1)) := (blk_cell BK663.out 1).trans rfl; have hcz29_2 : w28.cell? ⟨gb663, 2, none⟩ = some (.string ((rd_T85 l0 x33_1).f1)) := (blk_cell BK663.out 2).trans rfl; have hcz29_3 : w28.cell? ⟨gb663, 3, none⟩ = some (.int .i64 ((rd_T85 l0 x33_1).f2)) := (blk_cell BK663.out 3).trans rfl; have hfz29_0 := blk_frozen BK663.out 0; have hfz29_1 := blk_frozen BK663.out 1; have hfz29_2 := blk_frozen BK663.out 2; have hfz29_3 := blk_frozen BK663.out 3; have hnb30 := NB655_656.out; have hnc30 := NB656_655.out; have hcz31_0 : w28.cell? ⟨gb655, 0, none⟩ = some (.string a1_0) := (blk_cell BK655.out 0).trans rfl; have hcz31_1 : w28.cell? ⟨gb655, 1, none⟩ = some (.string a1_1) := (blk_cell BK655.out 1).trans rfl; have hfz31_0 := blk_frozen BK655.out 0; have hfz31_1 := blk_frozen BK655.out 1))
                  (try simp only [Act.put, List.setIfInBounds_toArray, List.set_cons_zero, List.set_cons_succ])
                  by_cases c32 : (!((((rd_T85 l0 x33_1).f0.f0).toList) == a1_0.toList) || (!((((rd_T85 l0 x33_1).f0.f1).toList) == a1_1.toList))) = true
                  · rw [if_pos c32] at H
                    have c32b0 : (!((((rd_T85 l0 x33_1).f0.f0).toList) == a1_0.toList) || (!((((rd_T85 l0 x33_1).f0.f1).toList) == a1_1.toList))) = true := c32
                    clear c32
                    (try simp only [c32b0])
                    by_cases c33 : x6_1.length < 2513169434916
                    · rw [if_pos c33] at H
                      have LMc33 := Aside0.mk c33
                      clear c33
                      obtain ⟨y664, hy664⟩ : ∃ y_ : List (S85), y_ = (x6_1 ++ [(⟨(⟨(rd_T85 l0 x33_1).f0.f0, (rd_T85 l0 x33_1).f0.f1⟩ : S67), (rd_T85 l0 x33_1).f1, (rd_T85 l0 x33_1).f2⟩ : S85)]) := ⟨_, rfl⟩
                      replace H : (pledge_Move.l0 k1 l0 y664 l0 (l0.length : Int) (wrap64 (x33_1 + 1)) a1_0 a1_1 a2_0 a2_1) = some (r1, r2) := by first | (rw [hy664]; with_reducible exact H) | (have H2_ := (Option.bind_some _ _).symm.trans H; rw [hy664]; with_reducible exact H2_) | (have H2_ := (Option.bind_some _ _).symm.trans H; with_reducible exact H2_) | with_reducible exact H | (rw [hy664]; exact H) | exact H
                      have Ny664 := Aside0.mk hy664
                      clear hy664
                      have H' := Aside0.mk H
                      clear H
                      have hnb34 := NB663_655.out
                      have hnc34 := NB655_663.out
                      have hnb35 := NB663_656.out
                      have hnc35 := NB656_663.out
                      have hcz36_0 : w28.cell? ⟨gb663, 0, none⟩ = some (.string ((rd_T85 l0 x33_1).f0.f0)) := (blk_cell BK663.out 0).trans rfl
                      have hcz36_1 : w28.cell? ⟨gb663, 1, none⟩ = some (.string ((rd_T85 l0 x33_1).f0.f1)) := (blk_cell BK663.out 1).trans rfl
                      have hcz36_2 : w28.cell? ⟨gb663, 2, none⟩ = some (.string ((rd_T85 l0 x33_1).f1)) := (blk_cell BK663.out 2).trans rfl
                      have hcz36_3 : w28.cell? ⟨gb663, 3, none⟩ = some (.int .i64 ((rd_T85 l0 x33_1).f2)) := (blk_cell BK663.out 3).trans rfl
                      have hfz36_0 := blk_frozen BK663.out 0
                      have hfz36_1 := blk_frozen BK663.out 1
                      have hfz36_2 := blk_frozen BK663.out 2
                      have hfz36_3 := blk_frozen BK663.out 3
                      go_wp2_with (first | ((with_reducible refine gate_builtin (b := .append) (xs := #[.tmp 41, .tmp 43]) rfl ?_); at_builtin; refine Kd.R_append k85 (w0 := w) w.heap.size rfl (.tmp 41) (.tmp 43) 65 85 (.agg #[(.string ⟨#[]⟩), (.string ⟨#[]⟩), (.string ⟨#[]⟩), (.int .i64 0)]) 56 rfl Try.underlying65 info85 rfl (by decide) (by omega) u6 x6_1 (⟨(⟨(rd_T85 l0 x33_1).f0.f0, (rd_T85 l0 x33_1).f0.f1⟩ : S67), (rd_T85 l0 x33_1).f1, (rd_T85 l0 x33_1).f2⟩ : S85) [.string ((rd_T85 l0 x33_1).f0.f0), .string ((rd_T85 l0 x33_1).f0.f1), .string ((rd_T85 l0 x33_1).f1), .int .i64 ((rd_T85 l0 x33_1).f2)] (fun k_ => k_ ≠ gb663) (fun _ => False) rfl rfl ?aP (fun _ hk => hk.elim) ?aF ?aO ?aB ?aS ?aL ?_; (case aP => exact k85_mkM _ _ _ (⟨(⟨(rd_T85 l0 x33_1).f0.f0, (rd_T85 l0 x33_1).f0.f1⟩ : S67), (rd_T85 l0 x33_1).f1, (rd_T85 l0 x33_1).f2⟩ : S85)); (case aB => exact (by repeat (first | (with_reducible first | exact HB.out | apply below_alloc | apply pw_below_drewN | apply below_drew1 | refine below_set ?_ GE655.out | refine below_set ?_ GE656.out | refine below_set ?_ GE663.out) | exact HB.out))); (case aF => exact (fun k_ hk => Kd.freshB (g := gb663) (o := .cells #[.string ((rd_T85 l0 x33_1).f0.f0), .string ((rd_T85 l0 x33_1).f0.f1), .string ((rd_T85 l0 x33_1).f1), .int .i64 ((rd_T85 l0 x33_1).f2)] 85 (0, 0)) (by (with_reducible repeat (first | refine blk_drewN ?_ _ | refine blk_drew ?_ | refine blk_alloc ?_ _)); exact BK663.out) k_ hk)); (case aO => exact (by (with_reducible repeat (first | apply Kd.R_alloc | apply Kd.R_drewN | apply Kd.R_drew)); exact HO_6.out)); (case aS => exact (below_size (by repeat (first | (with_reducible first | exact HB.out | apply below_alloc | apply pw_below_drewN | apply below_drew1 | refine below_set ?_ GE655.out | refine below_set ?_ GE656.out | refine below_set ?_ GE663.out) | exact HB.out)))); (case aL => have := LMc33.out; omega); intro v665 w37 ho hb hg hat; rw [← Ny664.out] at ho; have n0_ := Aside0.mk (blk_grown (g := gb655) (o := .cells #[.string a1_0, .string a1_1] 67 (0, 0)) (by (with_reducible repeat (first | refine blk_drewN ?_ _ | refine blk_drew ?_ | refine blk_alloc ?_ _)); exact BK655.out) hg (Kd.R_ne HO_6.out BK655.out (by decide))); have n1_ := Aside0.mk (blk_grown (g := gb656) (o := .cells #[.string a2_0, .string a2_1] 67 (0, 0)) (by (with_reducible repeat (first | refine blk_drewN ?_ _ | refine blk_drew ?_ | refine blk_alloc ?_ _)); exact BK656.out) hg (Kd.R_ne HO_6.out BK656.out (by decide))); have n2_ := Aside0.mk (blk_grown (g := gb663) (o := .cells #[.string ((rd_T85 l0 x33_1).f0.f0), .string ((rd_T85 l0 x33_1).f0.f1), .string ((rd_T85 l0 x33_1).f1), .int .i64 ((rd_T85 l0 x33_1).f2)] 85 (0, 0)) (by (with_reducible repeat (first | refine blk_drewN ?_ _ | refine blk_drew ?_ | refine blk_alloc ?_ _)); exact BK663.out) hg (Kd.R_away HO_6.out (fun _ hk => hk))); have n3_ := Aside0.mk (hb); have n4_ := Aside0.mk (ho); clear BK655; clear BK656; clear BK663; clear HB; clear HO_6; have BK655 := n0_; have BK656 := n1_; have BK663 := n2_; have HB := n3_; have HO666 := n4_; clear n0_ n1_ n2_ n3_ n4_; clear ho hb hg hat))
                      go_roundg k1
                      case measure => have := HK1.out; omega
                      case rel => exact ⟨(y664), (wrap64 (x33_1 + 1)), (by first | rfl | (simp; done) | (simp [*]; done)), H', ⟨by have := HK1.out; omega⟩, ⟨by (with_reducible repeat (first | apply Kd.R_alloc | apply Kd.R_drewN | apply Kd.R_drew)); exact Kd.R_mono HO666.out (fun _ hk => trivial)⟩, ⟨by (with_reducible repeat (first | refine blk_drewN ?_ _ | refine blk_drew ?_ | refine blk_alloc ?_ _)); exact BK655.out⟩, ⟨by (with_reducible repeat (first | refine blk_drewN ?_ _ | refine blk_drew ?_ | refine blk_alloc ?_ _)); exact BK656.out⟩, ⟨by repeat (first | (with_reducible first | exact HB.out | apply below_alloc | apply pw_below_drewN | apply below_drew1 | refine below_set ?_ GE655.out | refine below_set ?_ GE656.out | refine below_set ?_ GE663.out) | exact HB.out)⟩⟩
                    · rw [if_neg c33] at H
                      exact absurd H (by simp)
                  · rw [if_neg c32] at H
                    have c32b0 : (!((((rd_T85 l0 x33_1).f0.f0).toList) == a1_0.toList) || (!((((rd_T85 l0 x33_1).f0.f1).toList) == a1_1.toList))) = false := by simpa using c32
                    clear c32
                    (try simp only [c32b0])
                    have H' := Aside0.mk H
                    clear H
                    go_wp2
                    go_roundg k1
                    case measure => have := HK1.out; omega
                    case rel => exact ⟨(x6_1), (wrap64 (x33_1 + 1)), (by first | rfl | (simp; done) | (simp [*]; done)), H', ⟨by have := HK1.out; omega⟩, ⟨by (with_reducible repeat (first | apply Kd.R_alloc | apply Kd.R_drewN | apply Kd.R_drew)); exact Kd.R_mono HO_6.out (fun _ hk => trivial)⟩, ⟨by (with_reducible repeat (first | refine blk_drewN ?_ _ | refine blk_drew ?_ | refine blk_alloc ?_ _)); exact BK655.out⟩, ⟨by (with_reducible repeat (first | refine blk_drewN ?_ _ | refine blk_drew ?_ | refine blk_alloc ?_ _)); exact BK656.out⟩, ⟨by repeat (first | (with_reducible first | exact HB.out | apply below_alloc | apply pw_below_drewN | apply below_drew1 | refine below_set ?_ GE655.out | refine below_set ?_ GE656.out | refine below_set ?_ GE663.out) | exact HB.out)⟩⟩
                · rw [if_neg c23] at H
                  exact absurd H (by simp)
              · rw [if_neg c22] at H
                exact absurd H (by simp)
            · rw [if_neg c21] at H
              have c21b0 : decide (x33_1 < (l0.length : Int)) = false := decide_eq_false c21
              clear c21
              (try simp only [c21b0])
              replace H := Option.bind_eq_some_iff.mp H
              obtain ⟨t667, A380, H⟩ := H
              replace H : (pledge_Move.l1 k1 x6_1 t667 (t667.length : Int) 0 a2_0 a2_1) = some (r1, r2) := H
              have A38 := Aside0.mk A380
              clear A380
              have H' := Aside0.mk H
              clear H
              have hnb39 := NB655_656.out
              have hnc39 := NB656_655.out
              have hcz40_0 : wr.cell? ⟨gb655, 0, none⟩ = some (.string a1_0) := (blk_cell BK655.out 0).trans rfl
              have hcz40_1 : wr.cell? ⟨gb655, 1, none⟩ = some (.string a1_1) := (blk_cell BK655.out 1).trans rfl
              have hfz40_0 := blk_frozen BK655.out 0
              have hfz40_1 := blk_frozen BK655.out 1
              go_wp2_with (first | ((with_reducible refine gate_callee (f := 47) rfl ?_); refine goesL_ (some 48) rfl rfl Try.func47 (by kernel_rfl) rfl #[.slice A0 l0.length c0, .agg #[.string a1_0, .string a1_1]] rfl (by (try simp only [List.map_toArray, List.map_cons, List.map_nil]); first | done | rfl | (simp only [List.length_drop, List.length_take]; rfl)) ?_; (with_reducible refine (pledge_Of.calls k1 _ _ l0 a1_0 a1_1 t667 _ ?side1 ?side2 A38.out).mono ?_); (case side1 => repeat (first | exact (Kd.C_below HR0.out HB.out) | (with_reducible refine Kd.C_alloc ?_ _) | (with_reducible refine Kd.C_drewN ?_ _) | (with_reducible refine Kd.C_drew ?_))); (case side2 => exact HC0.out); rintro e w41 ⟨v668, rfl, ho0, hb⟩; refine ⟨_, rfl, ?_⟩; have n0_ := Aside0.mk (Kd.R_elder' (by (with_reducible repeat (first | apply Kd.R_alloc | apply Kd.R_drewN | apply Kd.R_drew)); exact HO_6.out) (Kd.R_base ho0) hb); have n1_ := Aside0.mk (Kd.R_lower (Kd.R_new' ho0 (Kd.R_lt (by (with_reducible repeat (first | apply Kd.R_alloc | apply Kd.R_drewN | apply Kd.R_drew)); exact HO_6.out))) (below_size (by repeat (first | (with_reducible first | exact HB.out | apply below_alloc | apply pw_below_drewN | apply below_drew1 | refine below_set ?_ GE655.out | refine below_set ?_ GE656.out) | exact HB.out)))); have n2_ := Aside0.mk (blk_below (g := gb655) (o := .cells #[.string a1_0, .string a1_1] 67 (0, 0)) (by (with_reducible repeat (first | refine blk_drewN ?_ _ | refine blk_drew ?_ | refine blk_alloc ?_ _)); exact BK655.out) hb); have n3_ := Aside0.mk (blk_below (g := gb656) (o := .cells #[.string a2_0, .string a2_1] 67 (0, 0)) (by (with_reducible repeat (first | refine blk_drewN ?_ _ | refine blk_drew ?_ | refine blk_alloc ?_ _)); exact BK656.out) hb); have n4_ := Aside0.mk (below_step (by repeat (first | (with_reducible first | exact HB.out | apply below_alloc | apply pw_below_drewN | apply below_drew1 | refine below_set ?_ GE655.out | refine below_set ?_ GE656.out) | exact HB.out)) hb); clear HO_6; clear BK655; clear BK656; clear HB; have HO_6 := n0_; have HO669 := n1_; have BK655 := n2_; have BK656 := n3_; have HB := n4_; clear n0_ n1_ n2_ n3_ n4_; (try clear hb); (try clear hb2); (try clear hk); (try clear hi); (try clear ho0); obtain ⟨Ao42, co42, eo42⟩ := Kd.R_slice HO669.out; subst eo42))
              go_loopg [6, 50] k1 (fun kq v6 v50 w' => ∃ (x6_2 : List (S85)) (x50_2 : Int), v50 = .int .i64 x50_2 ∧ Aside0 (pledge_Move.l1 kq x6_2 t667 (t667.length : Int) x50_2 a2_0 a2_1 = some (r1, r2)) ∧ Aside0 (kq ≤ k1) ∧ Aside0 (Kd.R k85 85 w' w.heap.size (fun k_ => some k_ ≠ ((.slice Ao42 t667.length co42) : Value).ownBlock) v6 x6_2) ∧ Aside0 (Kd.R k85 85 w' w.heap.size (fun k_ => some k_ ≠ (v6 : Value).ownBlock) (.slice Ao42 t667.length co42) t667) ∧ Aside0 (w'.heap[gb655]? = some (.cells #[.string a1_0, .string a1_1] 67 (0, 0))) ∧ Aside0 (w'.heap[gb656]? = some (.cells #[.string a2_0, .string a2_1] 67 (0, 0))) ∧ Aside0 (Below w.heap.size w w'))
              case atStart => exact ⟨(x6_1), (0), (by first | rfl | (simp; done) | (simp [*]; done)), H', ⟨Nat.le_refl _⟩, ⟨by (with_reducible repeat (first | apply Kd.R_alloc | apply Kd.R_drewN | apply Kd.R_drew)); exact Kd.R_mono HO_6.out (fun _ hk => hk.2)⟩, ⟨by (with_reducible repeat (first | apply Kd.R_alloc | apply Kd.R_drewN | apply Kd.R_drew)); exact Kd.R_mono HO669.out (fun _ hk => hk.2)⟩, ⟨by (with_reducible repeat (first | refine blk_drewN ?_ _ | refine blk_drew ?_ | refine blk_alloc ?_ _)); exact BK655.out⟩, ⟨by (with_reducible repeat (first | refine blk_drewN ?_ _ | refine blk_drew ?_ | refine blk_alloc ?_ _)); exact BK656.out⟩, ⟨by repeat (first | (with_reducible first | exact HB.out | apply below_alloc | apply pw_below_drewN | apply below_drew1 | refine below_set ?_ GE655.out | refine below_set ?_ GE656.out) | exact HB.out)⟩⟩
              case round =>
                clear H'
                try clear c1
                try clear c2
                try clear p2
                try clear c3
                try clear c4
                try clear p6
                try clear q6
                try clear hx6
                try clear c7
                try clear c8
                try clear c8b0
                try clear c8b1
                try clear c10
                try clear c16
                try clear c17
                try clear c20
                try clear c20b0
                try clear c20b1
                try clear c20b2
                try clear c21
                try clear c21b0
                try clear c22
                try clear c22b0
                try clear c23
                try clear c23b0
                try clear c25
                try clear c26
                try clear c30
                try clear c32
                try clear c32b0
                try clear c33
                try clear c34
                try clear c35
                try clear c39
                try clear hcz11_0
                try clear hcz11_1
                try clear hcz12_0
                try clear hcz12_1
                try clear hcz18_0
                try clear hcz18_1
                try clear hcz19_0
                try clear hcz19_1
                try clear hcz27_0
                try clear hcz27_1
                try clear hcz27_2
                try clear hcz27_3
                try clear hcz29_0
                try clear hcz29_1
                try clear hcz29_2
                try clear hcz29_3
                try clear hcz31_0
                try clear hcz31_1
                try clear hcz36_0
                try clear hcz36_1
                try clear hcz36_2
                try clear hcz36_3
                try clear hcz40_0
                try clear hcz40_1
                try clear hfz11_0
                try clear hfz11_1
                try clear hfz12_0
                try clear hfz12_1
                try clear hfz18_0
                try clear hfz18_1
                try clear hfz19_0
                try clear hfz19_1
                try clear hfz27_0
                try clear hfz27_1
                try clear hfz27_2
                try clear hfz27_3
                try clear hfz29_0
                try clear hfz29_1
                try clear hfz29_2
                try clear hfz29_3
                try clear hfz31_0
                try clear hfz31_1
                try clear hfz36_0
                try clear hfz36_1
                try clear hfz36_2
                try clear hfz36_3
                try clear hfz40_0
                try clear hfz40_1
                try clear hx662_0
                try clear hx662_1
                try clear hx662_2
                try clear hx662_3
                try clear p2
                try clear p662
                try clear q662
                obtain ⟨x6_2, x50_2, rfl, HA, HK2, HO_6, HO_48, BK655, BK656, HB⟩ := hrel
                cases gk with
                | zero => exact absurd HA.out (by simp [pledge_Move.l1])
                | succ k2 =>
                  have H := HA.out
                  clear HA
                  simp only [pledge_Move.l1] at H
                  by_cases c43 : x50_2 < (t667.length : Int)
                  · rw [if_pos c43] at H
                    have c43b0 : decide (x50_2 < (t667.length : Int)) = true := decide_eq_true c43
                    clear c43
                    (try simp only [c43b0])
                    by_cases c44 : 0 ≤ x50_2
                    · rw [if_pos c44] at H
                      have c44b0 : decide (0 ≤ x50_2) = true := decide_eq_true c44
                      clear c44
                      by_cases c45 : x50_2 < (t667.length : Int)
                      · rw [if_pos c45] at H
                        have c45b0 : decide (x50_2 < (t667.length : Int)) = true := decide_eq_true c45
                        clear c45
                        replace H := Option.bind_eq_some_iff.mp H
                        obtain ⟨⟨t672, t675⟩, A460, H⟩ := H
                        replace H : (if t675 = 0 then (pledge_Move.l1 k2 t672 t667 (t667.length : Int) (wrap64 (x50_2 + 1)) a2_0 a2_1) else (some (([] : List (S85)), t675))) = some (r1, r2) := H
                        have A46 := Aside0.mk A460
                        clear A460
                        have p670 : 0 ≤ (x50_2 : Int) := of_decide_eq_true (by first | (with_reducible assumption) | assumption)
                        have q670 : x50_2 < (t667.length : Int) := of_decide_eq_true (by first | (with_reducible assumption) | assumption)
                        obtain ⟨ad670, e670, hx670_0, hx670_1, hx670_2, hx670_3⟩ := at_T85 (Kd.R_reads' HO_48.out).2.2 x50_2 p670 q670
                        cases e670
                        replace p670 := eq_true p670
                        replace q670 := eq_true q670
                        go_upto_if 63 with (first | ((with_reducible refine gate_dst (N := 11) rfl ?_); refine box_event ?hg (N := 11) ?hd (cs := #[.string (⟨#[]⟩ : ByteArray), .string (⟨#[]⟩ : ByteArray), .string (⟨#[]⟩ : ByteArray), .int .i64 0]) (t := 85) ?hr ?_; (case hd => rfl); (case hg => rfl); (case hr => first | (go_simp; done) | (go_simp; rfl)); intro gb671 hg w47 hbox hb; have n0_ := Aside0.mk (Kd.R_below (Kd.R_elderB (by (with_reducible repeat (first | apply Kd.R_alloc | apply Kd.R_drewN | apply Kd.R_drew)); exact HO_6.out) gb671 (Nat.le_of_eq hg.symm)) hb); have n1_ := Aside0.mk (Kd.R_below (Kd.R_elderB (by (with_reducible repeat (first | apply Kd.R_alloc | apply Kd.R_drewN | apply Kd.R_drew)); exact HO_48.out) gb671 (Nat.le_of_eq hg.symm)) hb); have n2_ := Aside0.mk (blk_below (g := gb655) (o := .cells #[.string a1_0, .string a1_1] 67 (0, 0)) (by (with_reducible repeat (first | refine blk_drewN ?_ _ | refine blk_drew ?_ | refine blk_alloc ?_ _)); exact BK655.out) hb); have n3_ := Aside0.mk (blk_below (g := gb656) (o := .cells #[.string a2_0, .string a2_1] 67 (0, 0)) (by (with_reducible repeat (first | refine blk_drewN ?_ _ | refine blk_drew ?_ | refine blk_alloc ?_ _)); exact BK656.out) hb); have n4_ := Aside0.mk (below_step (by repeat (first | (with_reducible first | exact HB.out | apply below_alloc | apply pw_below_drewN | apply below_drew1 | refine below_set ?_ GE655.out | refine below_set ?_ GE656.out) | exact HB.out)) hb); have n5_ := Aside0.mk (hbox); have n6_ := Aside0.mk ((by rw [hg]; exact (below_size (by repeat (first | (with_reducible first | exact HB.out | apply below_alloc | apply pw_below_drewN | apply below_drew1 | refine below_set ?_ GE655.out | refine below_set ?_ GE656.out) | exact HB.out))) : w.heap.size ≤ gb671)); have n7_ := Aside0.mk ((by rw [hg]; exact (below_size (by repeat (first | (with_reducible first | exact HB.out | apply below_alloc | apply pw_below_drewN | apply below_drew1 | refine below_set ?_ GE655.out | refine below_set ?_ GE656.out) | exact HB.out))) : w.heap.size ≤ gb671)); have n8_ := Aside0.mk ((by rw [hg]; exact Nat.ne_of_lt (blk_lt (g := gb655) (o := .cells #[.string a1_0, .string a1_1] 67 (0, 0)) (by (with_reducible repeat (first | refine blk_drewN ?_ _ | refine blk_drew ?_ | refine blk_alloc ?_ _)); exact BK655.out)) : gb655 ≠ gb671)); have n9_ := Aside0.mk ((by rw [hg]; exact Nat.ne_of_gt (blk_lt (g := gb655) (o := .cells #[.string a1_0, .string a1_1] 67 (0, 0)) (by (with_reducible repeat (first | refine blk_drewN ?_ _ | refine blk_drew ?_ | refine blk_alloc ?_ _)); exact BK655.out)) : gb671 ≠ gb655)); have n10_ := Aside0.mk ((by rw [hg]; exact Nat.ne_of_lt (blk_lt (g := gb656) (o := .cells #[.string a2_0, .string a2_1] 67 (0, 0)) (by (with_reducible repeat (first | refine blk_drewN ?_ _ | refine blk_drew ?_ | refine blk_alloc ?_ _)); exact BK656.out)) : gb656 ≠ gb671)); have n11_ := Aside0.mk ((by rw [hg]; exact Nat.ne_of_gt (blk_lt (g := gb656) (o := .cells #[.string a2_0, .string a2_1] 67 (0, 0)) (by (with_reducible repeat (first | refine blk_drewN ?_ _ | refine blk_drew ?_ | refine blk_alloc ?_ _)); exact BK656.out)) : gb671 ≠ gb656)); clear HO_6; clear HO_48; clear BK655; clear BK656; clear HB; have HO_6 := n0_; have HO_48 := n1_; have BK655 := n2_; have BK656 := n3_; have HB := n4_; have BK671 := n5_; have GW671 := n6_; have GE671 := n7_; have NB655_671 := n8_; have NB671_655 := n9_; have NB656_671 := n10_; have NB671_656 := n11_; clear n0_ n1_ n2_ n3_ n4_ n5_ n6_ n7_ n8_ n9_ n10_ n11_; clear hb hbox hg; have hnb48 := NB671_655.out; have hnc48 := NB655_671.out; have hnb49 := NB671_656.out; have hnc49 := NB656_671.out; have hcz50_0 : w47.cell? ⟨gb671, 0, none⟩ = some (.string (⟨#[]⟩ : ByteArray)) := (blk_cell BK671.out 0).trans rfl; have hcz50_1 : w47.cell? ⟨gb671, 1, none⟩ = some (.string (⟨#[]⟩ : ByteArray)) := (blk_cell BK671.out 1).trans rfl; have hcz50_2 : w47.cell? ⟨gb671, 2, none⟩ = some (.string (⟨#[]⟩ : ByteArray)) := (blk_cell BK671.out 2).trans rfl; have hcz50_3 : w47.cell? ⟨gb671, 3, none⟩ = some (.int .i64 0) := (blk_cell BK671.out 3).trans rfl; have hfz50_0 := blk_frozen BK671.out 0; have hfz50_1 := blk_frozen BK671.out 1; have hfz50_2 := blk_frozen BK671.out 2; have hfz50_3 := blk_frozen BK671.out 3) | ((with_reducible refine gate_store (t := 85) (p := 11) rfl ?_); refine store_event (t := 85) (p := 11) (v := ?vo_w51) (w1 := ((((w47.setCell ⟨gb671, 0, none⟩ (.string ((rd_T85 t667 x50_2).f0.f0))).setCell ⟨gb671, 1, none⟩ (.string ((rd_T85 t667 x50_2).f0.f1))).setCell ⟨gb671, 2, none⟩ (.string ((rd_T85 t667 x50_2).f1))).setCell ⟨gb671, 3, none⟩ (.int .i64 ((rd_T85 t667 x50_2).f2)))) ?hg ?ho ?hn ?hr ?_; (case ho => rfl); (case hg => rfl); (case hn => rfl); (case hr => first | (exact store_box_run (cs := #[.string (⟨#[]⟩ : ByteArray), .string (⟨#[]⟩ : ByteArray), .string (⟨#[]⟩ : ByteArray), .int .i64 0]) (seg := [.string ((rd_T85 t667 x50_2).f0.f0), .string ((rd_T85 t667 x50_2).f0.f1), .string ((rd_T85 t667 x50_2).f1), .int .i64 ((rd_T85 t667 x50_2).f2)]) BK671.out rfl (by first | rfl | (go_simp; done)) (by first | rfl | (go_simp; done)) (by rfl) (by first | rfl | kernel_rfl) (by simp) (by first | rfl | simp [Value.oneCell'])) | (go_simp; done) | (go_simp; rfl)); intro w51 hw; have n0_ : Aside0 (Kd.R k85 85 w51 w.heap.size (fun k_ => some k_ ≠ (.slice (some ad670) t667.length co42 : Value).ownBlock ∧ k_ ≠ gb671) u6 x6_2) := ⟨(by rw [hw]; exact (by (with_reducible repeat (first | apply Kd.R_alloc | apply Kd.R_drewN | apply Kd.R_drew)); exact Kd.R_mono (Kd.R_far (p := ⟨gb671, 3, none⟩) (Kd.R_far (p := ⟨gb671, 2, none⟩) (Kd.R_far (p := ⟨gb671, 1, none⟩) (Kd.R_far (p := ⟨gb671, 0, none⟩) (Kd.R_mono HO_6.out (fun k_ hk => (⟨hk, hk.2⟩ : _ ∧ k_ ≠ gb671))) (fun _ hk => hk.2) (.string ((rd_T85 t667 x50_2).f0.f0))) (fun _ hk => hk.2) (.string ((rd_T85 t667 x50_2).f0.f1))) (fun _ hk => hk.2) (.string ((rd_T85 t667 x50_2).f1))) (fun _ hk => hk.2) (.int .i64 ((rd_T85 t667 x50_2).f2))) (fun _ hk => ⟨hk.1.1, hk.1.2⟩)))⟩; have n1_ : Aside0 (Kd.R k85 85 w51 w.heap.size (fun k_ => some k_ ≠ (u6 : Value).ownBlock ∧ k_ ≠ gb671) (.slice (some ad670) t667.length co42) t667) := ⟨(by rw [hw]; exact (by (with_reducible repeat (first | apply Kd.R_alloc | apply Kd.R_drewN | apply Kd.R_drew)); exact Kd.R_mono (Kd.R_far (p := ⟨gb671, 3, none⟩) (Kd.R_far (p := ⟨gb671, 2, none⟩) (Kd.R_far (p := ⟨gb671, 1, none⟩) (Kd.R_far (p := ⟨gb671, 0, none⟩) (Kd.R_mono HO_48.out (fun k_ hk => (⟨hk, hk.2⟩ : _ ∧ k_ ≠ gb671))) (fun _ hk => hk.2) (.string ((rd_T85 t667 x50_2).f0.f0))) (fun _ hk => hk.2) (.string ((rd_T85 t667 x50_2).f0.f1))) (fun _ hk => hk.2) (.string ((rd_T85 t667 x50_2).f1))) (fun _ hk => hk.2) (.int .i64 ((rd_T85 t667 x50_2).f2))) (fun _ hk => ⟨hk.1.1, hk.1.2⟩)))⟩; have n2_ : Aside0 (w51.heap[gb655]? = some (.cells #[.string a1_0, .string a1_1] 67 (0, 0))) := ⟨(by rw [hw]; exact (by (with_reducible repeat (first | refine blk_drewN ?_ _ | refine blk_drew ?_ | refine blk_alloc ?_ _)); refine blk_far ?_ NB655_671.out _; (with_reducible repeat (first | refine blk_drewN ?_ _ | refine blk_drew ?_ | refine blk_alloc ?_ _)); refine blk_far ?_ NB655_671.out _; (with_reducible repeat (first | refine blk_drewN ?_ _ | refine blk_drew ?_ | refine blk_alloc ?_ _)); refine blk_far ?_ NB655_671.out _; (with_reducible repeat (first | refine blk_drewN ?_ _ | refine blk_drew ?_ | refine blk_alloc ?_ _)); refine blk_far ?_ NB655_671.out _; (with_reducible repeat (first | refine blk_drewN ?_ _ | refine blk_drew ?_ | refine blk_alloc ?_ _)); exact BK655.out))⟩; have n3_ : Aside0 (w51.heap[gb656]? = some (.cells #[.string a2_0, .string a2_1] 67 (0, 0))) := ⟨(by rw [hw]; exact (by (with_reducible repeat (first | refine blk_drewN ?_ _ | refine blk_drew ?_ | refine blk_alloc ?_ _)); refine blk_far ?_ NB656_671.out _; (with_reducible repeat (first | refine blk_drewN ?_ _ | refine blk_drew ?_ | refine blk_alloc ?_ _)); refine blk_far ?_ NB656_671.out _; (with_reducible repeat (first | refine blk_drewN ?_ _ | refine blk_drew ?_ | refine blk_alloc ?_ _)); refine blk_far ?_ NB656_671.out _; (with_reducible repeat (first | refine blk_drewN ?_ _ | refine blk_drew ?_ | refine blk_alloc ?_ _)); refine blk_far ?_ NB656_671.out _; (with_reducible repeat (first | refine blk_drewN ?_ _ | refine blk_drew ?_ | refine blk_alloc ?_ _)); exact BK656.out))⟩; have n4_ : Aside0 (w51.heap[gb671]? = some (.cells #[.string ((rd_T85 t667 x50_2).f0.f0), .string ((rd_T85 t667 x50_2).f0.f1), .string ((rd_T85 t667 x50_2).f1), .int .i64 ((rd_T85 t667 x50_2).f2)] 85 (0, 0))) := ⟨(by rw [hw]; exact (by (with_reducible repeat (first | refine blk_drewN ?_ _ | refine blk_drew ?_ | refine blk_alloc ?_ _)); refine blk_put (cs := #[.string ((rd_T85 t667 x50_2).f0.f0), .string ((rd_T85 t667 x50_2).f0.f1), .string ((rd_T85 t667 x50_2).f1), .int .i64 0]) ?_ 3 _ rfl; (with_reducible repeat (first | refine blk_drewN ?_ _ | refine blk_drew ?_ | refine blk_alloc ?_ _)); refine blk_put (cs := #[.string ((rd_T85 t667 x50_2).f0.f0), .string ((rd_T85 t667 x50_2).f0.f1), .string (⟨#[]⟩ : ByteArray), .int .i64 0]) ?_ 2 _ rfl; (with_reducible repeat (first | refine blk_drewN ?_ _ | refine blk_drew ?_ | refine blk_alloc ?_ _)); refine blk_put (cs := #[.string ((rd_T85 t667 x50_2).f0.f0), .string (⟨#[]⟩ : ByteArray), .string (⟨#[]⟩ : ByteArray), .int .i64 0]) ?_ 1 _ rfl; (with_reducible repeat (first | refine blk_drewN ?_ _ | refine blk_drew ?_ | refine blk_alloc ?_ _)); refine blk_put (cs := #[.string (⟨#[]⟩ : ByteArray), .string (⟨#[]⟩ : ByteArray), .string (⟨#[]⟩ : ByteArray), .int .i64 0]) ?_ 0 _ rfl; (with_reducible repeat (first | refine blk_drewN ?_ _ | refine blk_drew ?_ | refine blk_alloc ?_ _)); exact BK671.out))⟩; have n5_ : Aside0 (Below w.heap.size w w51) := ⟨(by rw [hw]; exact (by repeat (first | (with_reducible first | exact HB.out | apply below_alloc | apply pw_below_drewN | apply below_drew1 | refine below_set ?_ GE655.out | refine below_set ?_ GE656.out | refine below_set ?_ GE671.out) | exact HB.out)))⟩; clear hw; clear HO_6; clear HO_48; clear BK655; clear BK656; clear BK671; clear HB; have HO_6 := n0_; have HO_48 := n1_; have BK655 := n2_; have BK656 := n3_; have BK671 := n4_; have HB := n5_; clear n0_ n1_ n2_ n3_ n4_ n5_; have hnb52 := NB656_655.out; have hnc52 := NB655_656.out; have hcz53_0 : w51.cell? ⟨gb656, 0, none⟩ = some (.string a2_0) := (blk_cell BK656.out 0).trans rfl; have hcz53_1 : w51.cell? ⟨gb656, 1, none⟩ = some (.string a2_1) := (blk_cell BK656.out 1).trans rfl; have hfz53_0 := blk_frozen BK656.out 0; have hfz53_1 := blk_frozen BK656.out 1; have hcz54_0 : w51.cell? ⟨gb671, 0, none⟩ = some (.string ((rd_T85 t667 x50_2).f0.f0)) := (blk_cell BK671.out 0).trans rfl; have hcz54_1 : w51.cell? ⟨gb671, 1, none⟩ = some (.string ((rd_T85 t667 x50_2).f0.f1)) := (blk_cell BK671.out 1).trans rfl; have hcz54_2 : w51.cell? ⟨gb671, 2, none⟩ = some (.string ((rd_T85 t667 x50_2).f1)) := (blk_cell BK671.out 2).trans rfl; have hcz54_3 : w51.cell? ⟨gb671, 3, none⟩ = some (.int .i64 ((rd_T85 t667 x50_2).f2)) := (blk_cell BK671.out 3).trans rfl; have hfz54_0 := blk_frozen BK671.out 0; have hfz54_1 := blk_frozen BK671.out 1; have hfz54_2 := blk_frozen BK671.out 2; have hfz54_3 := blk_frozen BK671.out 3) | ((with_reducible refine gate_store (t := 67) (p := 55) rfl ?_); refine store_event (t := 67) (p := 55) (v := ?vo_w55) (w1 := ((w51.setCell ⟨gb671, 0, none⟩ (.string a2_0)).setCell ⟨gb671, 1, none⟩ (.string a2_1))) ?hg ?ho ?hn ?hr ?_; (case ho => rfl); (case hg => rfl); (case hn => rfl); (case hr => first | (exact store_box_run (cs := #[.string ((rd_T85 t667 x50_2).f0.f0), .string ((rd_T85 t667 x50_2).f0.f1), .string ((rd_T85 t667 x50_2).f1), .int .i64 ((rd_T85 t667 x50_2).f2)]) (seg := [.string a2_0, .string a2_1]) BK671.out rfl (by first | rfl | (go_simp; done)) (by first | rfl | (go_simp; done)) (by rfl) (by first | rfl | kernel_rfl) (by simp) (by first | rfl | simp [Value.oneCell'])) | (go_simp; done) | (go_simp; rfl)); intro w55 hw; have n0_ : Aside0 (Kd.R k85 85 w55 w.heap.size (fun k_ => some k_ ≠ (.slice (some ad670) t667.length co42 : Value).ownBlock ∧ k_ ≠ gb671) u6 x6_2) := ⟨(by rw [hw]; exact (by (with_reducible repeat (first | apply Kd.R_alloc | apply Kd.R_drewN | apply Kd.R_drew)); exact Kd.R_mono (Kd.R_far (p := ⟨gb671, 1, none⟩) (Kd.R_far (p := ⟨gb671, 0, none⟩) (Kd.R_mono HO_6.out (fun k_ hk => (⟨hk, hk.2⟩ : _ ∧ k_ ≠ gb671))) (fun _ hk => hk.2) (.string a2_0)) (fun _ hk => hk.2) (.string a2_1)) (fun _ hk => ⟨hk.1.1, hk.1.2⟩)))⟩; have n1_ : Aside0 (Kd.R k85 85 w55 w.heap.size (fun k_ => some k_ ≠ (u6 : Value).ownBlock ∧ k_ ≠ gb671) (.slice (some ad670) t667.length co42) t667) := ⟨(by rw [hw]; exact (by (with_reducible repeat (first | apply Kd.R_alloc | apply Kd.R_drewN | apply Kd.R_drew)); exact Kd.R_mono (Kd.R_far (p := ⟨gb671, 1, none⟩) (Kd.R_far (p := ⟨gb671, 0, none⟩) (Kd.R_mono HO_48.out (fun k_ hk => (⟨hk, hk.2⟩ : _ ∧ k_ ≠ gb671))) (fun _ hk => hk.2) (.string a2_0)) (fun _ hk => hk.2) (.string a2_1)) (fun _ hk => ⟨hk.1.1, hk.1.2⟩)))⟩; have n2_ : Aside0 (w55.heap[gb655]? = some (.cells #[.string a1_0, .string a1_1] 67 (0, 0))) := ⟨(by rw [hw]; exact (by (with_reducible repeat (first | refine blk_drewN ?_ _ | refine blk_drew ?_ | refine blk_alloc ?_ _)); refine blk_far ?_ NB655_671.out _; (with_reducible repeat (first | refine blk_drewN ?_ _ | refine blk_drew ?_ | refine blk_alloc ?_ _)); refine blk_far ?_ NB655_671.out _; (with_reducible repeat (first | refine blk_drewN ?_ _ | refine blk_drew ?_ | refine blk_alloc ?_ _)); exact BK655.out))⟩; have n3_ : Aside0 (w55.heap[gb656]? = some (.cells #[.string a2_0, .string a2_1] 67 (0, 0))) := ⟨(by rw [hw]; exact (by (with_reducible repeat (first | refine blk_drewN ?_ _ | refine blk_drew ?_ | refine blk_alloc ?_ _)); refine blk_far ?_ NB656_671.out _; (with_reducible repeat (first | refine blk_drewN ?_ _ | refine blk_drew ?_ | refine blk_alloc ?_ _)); refine blk_far ?_ NB656_671.out _; (with_reducible repeat (first | refine blk_drewN ?_ _ | refine blk_drew ?_ | refine blk_alloc ?_ _)); exact BK656.out))⟩; have n4_ : Aside0 (w55.heap[gb671]? = some (.cells #[.string a2_0, .string a2_1, .string ((rd_T85 t667 x50_2).f1), .int .i64 ((rd_T85 t667 x50_2).f2)] 85 (0, 0))) := ⟨(by rw [hw]; exact (by (with_reducible repeat (first | refine blk_drewN ?_ _ | refine blk_drew ?_ | refine blk_alloc ?_ _)); refine blk_put (cs := #[.string a2_0, .string ((rd_T85 t667 x50_2).f0.f1), .string ((rd_T85 t667 x50_2).f1), .int .i64 ((rd_T85 t667 x50_2).f2)]) ?_ 1 _ rfl; (with_reducible repeat (first | refine blk_drewN ?_ _ | refine blk_drew ?_ | refine blk_alloc ?_ _)); refine blk_put (cs := #[.string ((rd_T85 t667 x50_2).f0.f0), .string ((rd_T85 t667 x50_2).f0.f1), .string ((rd_T85 t667 x50_2).f1), .int .i64 ((rd_T85 t667 x50_2).f2)]) ?_ 0 _ rfl; (with_reducible repeat (first | refine blk_drewN ?_ _ | refine blk_drew ?_ | refine blk_alloc ?_ _)); exact BK671.out))⟩; have n5_ : Aside0 (Below w.heap.size w w55) := ⟨(by rw [hw]; exact (by repeat (first | (with_reducible first | exact HB.out | apply below_alloc | apply pw_below_drewN | apply below_drew1 | refine below_set ?_ GE655.out | refine below_set ?_ GE656.out | refine below_set ?_ GE671.out) | exact HB.out)))⟩; clear hw; clear HO_6; clear HO_48; clear BK655; clear BK656; clear BK671; clear HB; have HO_6 := n0_; have HO_48 := n1_; have BK655 := n2_; have BK656 := n3_; have BK671 := n4_; have HB := n5_; clear n0_ n1_ n2_ n3_ n4_ n5_; have hcz56_0 : w55.cell? ⟨gb671, 0, none⟩ = some (.string a2_0) := (blk_cell BK671.out 0).trans rfl; have hcz56_1 : w55.cell? ⟨gb671, 1, none⟩ = some (.string a2_1) := (blk_cell BK671.out 1).trans rfl; have hcz56_2 : w55.cell? ⟨gb671, 2, none⟩ = some (.string ((rd_T85 t667 x50_2).f1)) := (blk_cell BK671.out 2).trans rfl; have hcz56_3 : w55.cell? ⟨gb671, 3, none⟩ = some (.int .i64 ((rd_T85 t667 x50_2).f2)) := (blk_cell BK671.out 3).trans rfl; have hfz56_0 := blk_frozen BK671.out 0; have hfz56_1 := blk_frozen BK671.out 1; have hfz56_2 := blk_frozen BK671.out 2; have hfz56_3 := blk_frozen BK671.out 3; obtain ⟨Ao57, co57, eo57⟩ := Kd.R_slice HO_6.out; subst eo57) | ((with_reducible refine gate_callee (f := 81) rfl ?_); refine goesL_ (some 59) rfl rfl Try.func81 (by kernel_rfl) rfl #[.slice Ao57 x6_2.length co57, .agg #[.string a2_0, .string a2_1, .string ((rd_T85 t667 x50_2).f1), .int .i64 ((rd_T85 t667 x50_2).f2)]] rfl (by (try simp only [List.map_toArray, List.map_cons, List.map_nil]); first | done | rfl | (simp only [List.length_drop, List.length_take]; rfl)) ?_; (with_reducible refine (pledge_with.calls k2 _ _ x6_2 a2_0 a2_1 ((rd_T85 t667 x50_2).f1) ((rd_T85 t667 x50_2).f2) t672 t675 _ ?side1 ?side2 A46.out).mono ?_); (case side1 => repeat (first | exact (Kd.R_reads' HO_6.out).2.2 | (with_reducible refine Kd.C_alloc ?_ _) | (with_reducible refine Kd.C_drewN ?_ _) | (with_reducible refine Kd.C_drew ?_))); (case side2 => exact (Kd.R_reads' HO_6.out).2.1); rintro e w58 ⟨v673, rfl, ho0, hb⟩; refine ⟨_, rfl, ?_⟩; have n0_ := Aside0.mk (Kd.R_elder' (by (with_reducible repeat (first | apply Kd.R_alloc | apply Kd.R_drewN | apply Kd.R_drew)); exact HO_6.out) (Kd.R_base ho0) hb); have n1_ := Aside0.mk (Kd.R_elder' (by (with_reducible repeat (first | apply Kd.R_alloc | apply Kd.R_drewN | apply Kd.R_drew)); exact HO_48.out) (Kd.R_base ho0) hb); have n2_ := Aside0.mk (Kd.R_lower (Kd.R_newB (Kd.R_new' (Kd.R_new' ho0 (Kd.R_lt (by (with_reducible repeat (first | apply Kd.R_alloc | apply Kd.R_drewN | apply Kd.R_drew)); exact HO_6.out))) (Kd.R_lt (by (with_reducible repeat (first | apply Kd.R_alloc | apply Kd.R_drewN | apply Kd.R_drew)); exact HO_48.out))) (g := gb671) (o := .cells #[.string a2_0, .string a2_1, .string ((rd_T85 t667 x50_2).f1), .int .i64 ((rd_T85 t667 x50_2).f2)] 85 (0, 0)) (by (with_reducible repeat (first | refine blk_drewN ?_ _ | refine blk_drew ?_ | refine blk_alloc ?_ _)); exact BK671.out)) (below_size (by repeat (first | (with_reducible first | exact HB.out | apply below_alloc | apply pw_below_drewN | apply below_drew1 | refine below_set ?_ GE655.out | refine below_set ?_ GE656.out | refine below_set ?_ GE671.out) | exact HB.out)))); have n3_ := Aside0.mk (blk_below (g := gb655) (o := .cells #[.string a1_0, .string a1_1] 67 (0, 0)) (by (with_reducible repeat (first | refine blk_drewN ?_ _ | refine blk_drew ?_ | refine blk_alloc ?_ _)); exact BK655.out) hb); have n4_ := Aside0.mk (blk_below (g := gb656) (o := .cells #[.string a2_0, .string a2_1] 67 (0, 0)) (by (with_reducible repeat (first | refine blk_drewN ?_ _ | refine blk_drew ?_ | refine blk_alloc ?_ _)); exact BK656.out) hb); have n5_ := Aside0.mk (blk_below (g := gb671) (o := .cells #[.string a2_0, .string a2_1, .string ((rd_T85 t667 x50_2).f1), .int .i64 ((rd_T85 t667 x50_2).f2)] 85 (0, 0)) (by (with_reducible repeat (first | refine blk_drewN ?_ _ | refine blk_drew ?_ | refine blk_alloc ?_ _)); exact BK671.out) hb); have n6_ := Aside0.mk (below_step (by repeat (first | (with_reducible first | exact HB.out | apply below_alloc | apply pw_below_drewN | apply below_drew1 | refine below_set ?_ GE655.out | refine below_set ?_ GE656.out | refine below_set ?_ GE671.out) | exact HB.out)) hb); clear HO_6; clear HO_48; clear BK655; clear BK656; clear BK671; clear HB; have HO_6 := n0_; have HO_48 := n1_; have HO674 := n2_; have BK655 := n3_; have BK656 := n4_; have BK671 := n5_; have HB := n6_; clear n0_ n1_ n2_ n3_ n4_ n5_ n6_; (try clear hb); (try clear hb2); (try clear hk); (try clear hi); (try clear ho0)))
                        (try simp only [Act.put, List.setIfInBounds_toArray, List.set_cons_zero, List.set_cons_succ])
                        by_cases c59 : t675 = 0
                        · rw [if_pos c59] at H
                          have c59b0 : (t675 == 0) = true := beq_iff_eq.mpr c59
                          have c59b1 : (t675 != 0) = false := bne_eq_false_iff_eq.mpr c59
                          clear c59
                          (try simp only [c59b0, c59b1])
                          have H' := Aside0.mk H
                          clear H
                          go_wp2
                          go_roundg k2
                          case measure => have := HK1.out; have := HK2.out; omega
                          case rel => exact ⟨(t672), (wrap64 (x50_2 + 1)), (by first | rfl | (simp; done) | (simp [*]; done)), H', ⟨by have := HK1.out; have := HK2.out; omega⟩, ⟨by (with_reducible repeat (first | apply Kd.R_alloc | apply Kd.R_drewN | apply Kd.R_drew)); exact Kd.R_mono HO674.out (fun _ hk => hk.1.2)⟩, ⟨by (with_reducible repeat (first | apply Kd.R_alloc | apply Kd.R_drewN | apply Kd.R_drew)); exact Kd.R_mono HO_48.out (fun _ hk => hk.2)⟩, ⟨by (with_reducible repeat (first | refine blk_drewN ?_ _ | refine blk_drew ?_ | refine blk_alloc ?_ _)); exact BK655.out⟩, ⟨by (with_reducible repeat (first | refine blk_drewN ?_ _ | refine blk_drew ?_ | refine blk_alloc ?_ _)); exact BK656.out⟩, ⟨by repeat (first | (with_reducible first | exact HB.out | apply below_alloc | apply pw_below_drewN | apply below_drew1 | refine below_set ?_ GE655.out | refine below_set ?_ GE656.out | refine below_set ?_ GE671.out) | exact HB.out)⟩⟩
                        · rw [if_neg c59] at H
                          have c59b0 : (t675 == 0) = false := beq_eq_false_iff_ne.mpr c59
                          have c59b1 : (t675 != 0) = true := bne_iff_ne.mpr c59
                          (try simp only [c59b0, c59b1])
                          simp only [Option.some.injEq, Prod.mk.injEq] at H
                          obtain ⟨rfl, rfl⟩ := H
                          go_wp2
                          go_ret2
                          exact ⟨_, by first | rfl | (simp [errW_none, errW_some] <;> rfl) | (simp [*, errW_none, errW_some] <;> rfl), by first | exact Kd.R_nil _ _ _ _ _ | exact Kd.N_nil _ _ _ _ _ | exact Kd.V_nil _ _ _ _ _ | exact Kd.Q_nil _ _ _ _ _ | exact Kd.S_nil _ _ _ _ _, by repeat (first | (with_reducible first | exact HB.out | apply below_alloc | apply pw_below_drewN | apply below_drew1 | refine below_set ?_ GE655.out | refine below_set ?_ GE656.out | refine below_set ?_ GE671.out) | exact HB.out)⟩
                      · rw [if_neg c45] at H
                        exact absurd H (by simp)
                    · rw [if_neg c44] at H
                      exact absurd H (by simp)
                  · rw [if_neg c43] at H
                    have c43b0 : decide (x50_2 < (t667.length : Int)) = false := decide_eq_false c43
                    clear c43
                    (try simp only [c43b0])
                    simp only [Option.some.injEq, Prod.mk.injEq] at H
                    obtain ⟨rfl, rfl⟩ := H
                    go_wp2
                    go_ret2
                    exact ⟨_, by first | rfl | (simp [errW_none, errW_some] <;> rfl) | (simp [*, errW_none, errW_some] <;> rfl), by (with_reducible repeat (first | apply Kd.R_alloc | apply Kd.R_drewN | apply Kd.R_drew)); exact Kd.R_mono HO_6.out (fun _ hk => trivial), by repeat (first | (with_reducible first | exact HB.out | apply below_alloc | apply pw_below_drewN | apply below_drew1 | refine below_set ?_ GE655.out | refine below_set ?_ GE656.out) | exact HB.out)⟩
    · replace c16 := Bool.eq_false_iff.mpr c16
      subst c16
      have H1 : (some (([] : List (S85)), 10)) = some (r1, r2) := by rw [if_neg (show ¬ (false = true) by decide)] at H; exact H
      clear H
      have H := H1
      clear H1
      simp only [Option.some.injEq, Prod.mk.injEq] at H
      obtain ⟨rfl, rfl⟩ := H
      go_wp2
      go_ret2
      exact ⟨_, by first | rfl | (simp [errW_none, errW_some] <;> rfl) | (simp [*, errW_none, errW_some] <;> rfl), by first | exact Kd.R_nil _ _ _ _ _ | exact Kd.N_nil _ _ _ _ _ | exact Kd.V_nil _ _ _ _ _ | exact Kd.Q_nil _ _ _ _ _ | exact Kd.S_nil _ _ _ _ _, by repeat (first | (with_reducible first | exact HB.out | apply below_alloc | apply pw_below_drewN | apply below_drew1 | refine below_set ?_ GE655.out | refine below_set ?_ GE656.out) | exact HB.out)⟩
  · rw [if_neg c8] at H
    have c8b0 : (t657 == 0) = false := beq_eq_false_iff_ne.mpr c8
    have c8b1 : (t657 != 0) = true := bne_iff_ne.mpr c8
    (try simp only [c8b0, c8b1])
    simp only [Option.some.injEq, Prod.mk.injEq] at H
    obtain ⟨rfl, rfl⟩ := H
    go_wp2
    go_ret2
    exact ⟨_, by first | rfl | (simp [errW_none, errW_some] <;> rfl) | (simp [*, errW_none, errW_some] <;> rfl), by first | exact Kd.R_nil _ _ _ _ _ | exact Kd.N_nil _ _ _ _ _ | exact Kd.V_nil _ _ _ _ _ | exact Kd.Q_nil _ _ _ _ _ | exact Kd.S_nil _ _ _ _ _, by repeat (first | (with_reducible first | exact HB.out | apply below_alloc | apply pw_below_drewN | apply below_drew1 | refine below_set ?_ GE655.out | refine below_set ?_ GE656.out) | exact HB.out)⟩
end Go.Proofs.Ytaiekjimdjlgbaa.Pr
