/- Functions' values and contracts, as the print wrote them. -/
import Derived.Test.YtaiekjimdjlgbaaQ3EDP0
import Derived.Test.YtaiekjimdjlgbaaQ3EDP1
import Derived.Test.YtaiekjimdjlgbaaQ3EDP3
import Derived.Test.YtaiekjimdjlgbaaQ3EDP4
import Derived.Test.YtaiekjimdjlgbaaQ3EDP5
namespace Go.Proofs.Ytaiekjimdjlgbaa.Pr
open Go.RowKit Go.Proofs.YtaiekjimdjlgbaaW.PrintWords Go.Proofs.YtaiekjimdjlgbaaW.PrintLast Go.Proofs.YtaiekjimdjlgbaaW.PrintMore
attribute [local go_sem] max2_int min2_int max_two min_two max_three min_three max_four min_four   -- for this text's walks alone
set_option linter.unusedVariables false
set_option linter.unusedSimpArgs false
mutual
def contangotop_TopPledgeMoved.j0 : Nat → Bool → List (S85) → ByteArray → ByteArray → ByteArray → ByteArray → List (S23) → List (S94) → Option (Bool)
  | 0, _, _, _, _, _, _, _, _ => none
  | k + 1, x24, x677000, x677001, x677002, x677003, x677004, x677005, x677006 => if x24 = true then ((contangotop_goes16.f k).bind fun t677 => (some t677)) else ((pledge_Move.f k x677000 x677001 x677002 x677003 x677004).bind fun bt678 => (if bt678.2 = 0 then ((pledge_Of.f k bt678.1 x677001 x677002).bind fun t683 => (if (t683.length : Int) = 0 then ((pledge_Check.f k bt678.1).bind fun t686 => (contangotop_TopPledgeMoved.j1 k bt678.1 (t686 != 0) x677000 x677001 x677002 x677003 x677004 x677005 x677006)) else (contangotop_TopPledgeMoved.j1 k bt678.1 true x677000 x677001 x677002 x677003 x677004 x677005 x677006))) else (if (bt678.1.length : Int) = 0 then ((contangotop_goes16.f k).bind fun t682 => (some t682)) else (some false))))
def contangotop_TopPledgeMoved.j1 : Nat → List (S85) → Bool → List (S85) → ByteArray → ByteArray → ByteArray → ByteArray → List (S23) → List (S94) → Option (Bool)
  | 0, _, _, _, _, _, _, _, _, _ => none
  | k + 1, x3, x54, x677000, x677001, x677002, x677003, x677004, x677005, x677006 => if x54 = true then (some false) else (contangotop_TopPledgeMoved.l0 k x3 0 x677000 x677001 x677002 x677003 x677004 x677005 x677006)
def contangotop_TopPledgeMoved.l0 : Nat → List (S85) → Int → List (S85) → ByteArray → ByteArray → ByteArray → ByteArray → List (S23) → List (S94) → Option (Bool)
  | 0, _, _, _, _, _, _, _, _, _ => none
  | k + 1, x3, x5, x677000, x677001, x677002, x677003, x677004, x677005, x677006 => if x5 < (x677000.length : Int) then (if 0 ≤ x5 then ((pledge_Qty.f k x3 x677003 x677004 ((rd_T85 x677000 x5).f1)).bind fun t688 => ((pledge_Qty.f k x677000 x677001 x677002 ((rd_T85 x677000 x5).f1)).bind fun t689 => ((pledge_Qty.f k x677000 x677003 x677004 ((rd_T85 x677000 x5).f1)).bind fun t690 => (if t688 = (wrap64 (t689 + t690)) then (contangotop_TopPledgeMoved.l0 k x3 (wrap64 (x5 + 1)) x677000 x677001 x677002 x677003 x677004 x677005 x677006) else (some false))))) else (none)) else ((pledge_Worth.f k x677000 x677001 x677002 x677005 x677006).bind fun bt691 => ((pledge_Worth.f k x677000 x677003 x677004 x677005 x677006).bind fun bt693 => ((pledge_Worth.f k x3 x677003 x677004 x677005 x677006).bind fun bt695 => ((cents_Add.f bt691.1 bt693.1).bind fun bt697 => (if bt691.2 = 0 then (if bt693.2 = 0 then (if bt695.2 = 0 then (if bt697.2 = 0 then (if bt695.1 ≥ bt697.1 then ((contangotop_goes16.f k).bind fun t699 => (some t699)) else (some false)) else ((contangotop_goes16.f k).bind fun t700 => (some t700))) else ((contangotop_goes16.f k).bind fun t701 => (some t701))) else ((contangotop_goes16.f k).bind fun t702 => (some t702))) else ((contangotop_goes16.f k).bind fun t703 => (some t703)))))))
end
def contangotop_TopPledgeMoved.f (k : Nat) (l0_0 : List (S85)) (a0_1 : ByteArray) (a0_2 : ByteArray) (a0_3 : ByteArray) (a0_4 : ByteArray) (l0_5 : List (S23)) (l0_6 : List (S94)) : Option (Bool) := if (l0_0.length : Int) > 200 then (contangotop_TopPledgeMoved.j0 k true l0_0 a0_1 a0_2 a0_3 a0_4 l0_5 l0_6) else (contangotop_TopPledgeMoved.j0 k (decide ((l0_5.length : Int) > 100)) l0_0 a0_1 a0_2 a0_3 a0_4 l0_5 l0_6)
theorem contangotop_TopPledgeMoved.mono_l : ∀ k, (∀ y0 y1 y2 y3 y4 y5 y6 y7, LeO (contangotop_TopPledgeMoved.j0 k y0 y1 y2 y3 y4 y5 y6 y7) (contangotop_TopPledgeMoved.j0 (k + 1) y0 y1 y2 y3 y4 y5 y6 y7)) ∧ (∀ y0 y1 y2 y3 y4 y5 y6 y7 y8, LeO (contangotop_TopPledgeMoved.j1 k y0 y1 y2 y3 y4 y5 y6 y7 y8) (contangotop_TopPledgeMoved.j1 (k + 1) y0 y1 y2 y3 y4 y5 y6 y7 y8)) ∧ (∀ y0 y1 y2 y3 y4 y5 y6 y7 y8, LeO (contangotop_TopPledgeMoved.l0 k y0 y1 y2 y3 y4 y5 y6 y7 y8) (contangotop_TopPledgeMoved.l0 (k + 1) y0 y1 y2 y3 y4 y5 y6 y7 y8))
  | 0 => ⟨fun _ _ _ _ _ _ _ _ r h => by simp [contangotop_TopPledgeMoved.j0] at h, fun _ _ _ _ _ _ _ _ _ r h => by simp [contangotop_TopPledgeMoved.j1] at h, fun _ _ _ _ _ _ _ _ _ r h => by simp [contangotop_TopPledgeMoved.l0] at h⟩
  | k + 1 => by
    obtain ⟨ih0, ih1, ih2⟩ := contangotop_TopPledgeMoved.mono_l k
    refine ⟨?_, ?_, ?_⟩
    · intro y0 y1 y2 y3 y4 y5 y6 y7
      unfold contangotop_TopPledgeMoved.j0
      repeat' first
      | (with_reducible exact ih0 _ _ _ _ _ _ _ _)
      | (with_reducible exact ih1 _ _ _ _ _ _ _ _ _)
      | (with_reducible exact ih2 _ _ _ _ _ _ _ _ _)
      | (with_reducible exact contangotop_goes16.mono _)
      | (with_reducible exact pledge_Check.mono _ _)
      | (with_reducible exact pledge_Move.mono _ _ _ _ _ _)
      | (with_reducible exact pledge_Of.mono _ _ _ _)
      | (with_reducible exact pledge_Qty.mono _ _ _ _ _)
      | (with_reducible exact pledge_Worth.mono _ _ _ _ _ _)
      | (with_reducible exact LeO.refl _)
      | (with_reducible exact LeO.none _)
      | (with_reducible refine LeO.ite ?_ ?_)
      | (with_reducible refine LeO.bind ?_ (fun _ => ?_))
      | exact ih0 _ _ _ _ _ _ _ _
      | exact ih1 _ _ _ _ _ _ _ _ _
      | exact ih2 _ _ _ _ _ _ _ _ _
      | exact contangotop_goes16.mono _
      | exact pledge_Check.mono _ _
      | exact pledge_Move.mono _ _ _ _ _ _
      | exact pledge_Of.mono _ _ _ _
      | exact pledge_Qty.mono _ _ _ _ _
      | exact pledge_Worth.mono _ _ _ _ _ _
      | exact LeO.none _
      | refine LeO.ite ?_ ?_
      | refine LeO.bind ?_ (fun _ => ?_)
    · intro y0 y1 y2 y3 y4 y5 y6 y7 y8
      unfold contangotop_TopPledgeMoved.j1
      repeat' first
      | (with_reducible exact ih0 _ _ _ _ _ _ _ _)
      | (with_reducible exact ih1 _ _ _ _ _ _ _ _ _)
      | (with_reducible exact ih2 _ _ _ _ _ _ _ _ _)
      | (with_reducible exact contangotop_goes16.mono _)
      | (with_reducible exact pledge_Check.mono _ _)
      | (with_reducible exact pledge_Move.mono _ _ _ _ _ _)
      | (with_reducible exact pledge_Of.mono _ _ _ _)
      | (with_reducible exact pledge_Qty.mono _ _ _ _ _)
      | (with_reducible exact pledge_Worth.mono _ _ _ _ _ _)
      | (with_reducible exact LeO.refl _)
      | (with_reducible exact LeO.none _)
      | (with_reducible refine LeO.ite ?_ ?_)
      | (with_reducible refine LeO.bind ?_ (fun _ => ?_))
      | exact ih0 _ _ _ _ _ _ _ _
      | exact ih1 _ _ _ _ _ _ _ _ _
      | exact ih2 _ _ _ _ _ _ _ _ _
      | exact contangotop_goes16.mono _
      | exact pledge_Check.mono _ _
      | exact pledge_Move.mono _ _ _ _ _ _
      | exact pledge_Of.mono _ _ _ _
      | exact pledge_Qty.mono _ _ _ _ _
      | exact pledge_Worth.mono _ _ _ _ _ _
      | exact LeO.none _
      | refine LeO.ite ?_ ?_
      | refine LeO.bind ?_ (fun _ => ?_)
    · intro y0 y1 y2 y3 y4 y5 y6 y7 y8
      unfold contangotop_TopPledgeMoved.l0
      repeat' first
      | (with_reducible exact ih0 _ _ _ _ _ _ _ _)
      | (with_reducible exact ih1 _ _ _ _ _ _ _ _ _)
      | (with_reducible exact ih2 _ _ _ _ _ _ _ _ _)
      | (with_reducible exact contangotop_goes16.mono _)
      | (with_reducible exact pledge_Check.mono _ _)
      | (with_reducible exact pledge_Move.mono _ _ _ _ _ _)
      | (with_reducible exact pledge_Of.mono _ _ _ _)
      | (with_reducible exact pledge_Qty.mono _ _ _ _ _)
      | (with_reducible exact pledge_Worth.mono _ _ _ _ _ _)
      | (with_reducible exact LeO.refl _)
      | (with_reducible exact LeO.none _)
      | (with_reducible refine LeO.ite ?_ ?_)
      | (with_reducible refine LeO.bind ?_ (fun _ => ?_))
      | exact ih0 _ _ _ _ _ _ _ _
      | exact ih1 _ _ _ _ _ _ _ _ _
      | exact ih2 _ _ _ _ _ _ _ _ _
      | exact contangotop_goes16.mono _
      | exact pledge_Check.mono _ _
      | exact pledge_Move.mono _ _ _ _ _ _
      | exact pledge_Of.mono _ _ _ _
      | exact pledge_Qty.mono _ _ _ _ _
      | exact pledge_Worth.mono _ _ _ _ _ _
      | exact LeO.none _
      | refine LeO.ite ?_ ?_
      | refine LeO.bind ?_ (fun _ => ?_)
theorem contangotop_TopPledgeMoved.mono : ∀ a0 a1 a2 a3 a4 a5 a6 k, LeO (contangotop_TopPledgeMoved.f k a0 a1 a2 a3 a4 a5 a6) (contangotop_TopPledgeMoved.f (k + 1) a0 a1 a2 a3 a4 a5 a6) := by
  intro a0 a1 a2 a3 a4 a5 a6 k
  obtain ⟨ih0, ih1, ih2⟩ := contangotop_TopPledgeMoved.mono_l k
  unfold contangotop_TopPledgeMoved.f
  repeat' first
      | (with_reducible exact ih0 _ _ _ _ _ _ _ _)
      | (with_reducible exact ih1 _ _ _ _ _ _ _ _ _)
      | (with_reducible exact ih2 _ _ _ _ _ _ _ _ _)
      | (with_reducible exact contangotop_goes16.mono _)
      | (with_reducible exact pledge_Check.mono _ _)
      | (with_reducible exact pledge_Move.mono _ _ _ _ _ _)
      | (with_reducible exact pledge_Of.mono _ _ _ _)
      | (with_reducible exact pledge_Qty.mono _ _ _ _ _)
      | (with_reducible exact pledge_Worth.mono _ _ _ _ _ _)
      | (with_reducible exact LeO.refl _)
      | (with_reducible exact LeO.none _)
      | (with_reducible refine LeO.ite ?_ ?_)
      | (with_reducible refine LeO.bind ?_ (fun _ => ?_))
      | exact ih0 _ _ _ _ _ _ _ _
      | exact ih1 _ _ _ _ _ _ _ _ _
      | exact ih2 _ _ _ _ _ _ _ _ _
      | exact contangotop_goes16.mono _
      | exact pledge_Check.mono _ _
      | exact pledge_Move.mono _ _ _ _ _ _
      | exact pledge_Of.mono _ _ _ _
      | exact pledge_Qty.mono _ _ _ _ _
      | exact pledge_Worth.mono _ _ _ _ _ _
      | exact LeO.none _
      | refine LeO.ite ?_ ?_
      | refine LeO.bind ?_ (fun _ => ?_)
def contangotop_TopPledgeMoved.T12 : Bool × List (List Nat × List Nat) := (true, [([], []), ([], []), ([1], [1]), ([], []), ([0, 2, 3], [0, 2, 3]), ([], []), ([5], [5]), ([], []), ([7], [7]), ([], []), ([6, 8, 9, 4], [6, 8, 9]), ([], []), ([11], [11]), ([], []), ([13], [13]), ([], []), ([12, 14, 15, 10], [12, 14, 15]), ([10, 16], [10, 16]), ([4, 17], [4, 17])])
def contangotop_TopPledgeMoved.B12 : List Nat := [0, 0, 2, 0, 15, 0, 32, 0, 128, 0, 1023, 0, 2048, 0, 8192, 0, 65535, 131071, 262143]
theorem contangotop_TopPledgeMoved.tab12 : rtab .any (opsOf Try.f14 12) = contangotop_TopPledgeMoved.T12 := by kernel_rfl
theorem contangotop_TopPledgeMoved.bits12 : waitsOk contangotop_TopPledgeMoved.T12.2 contangotop_TopPledgeMoved.B12 = true := by kernel_rfl
set_option maxHeartbeats 8000000 in
set_option maxRecDepth 100000 in
theorem contangotop_TopPledgeMoved.calls (k : Nat) (A0_0 : Option Addr) (c0_0 : Nat) (l0_0 : List (S85)) (a0_1 : ByteArray) (a0_2 : ByteArray) (a0_3 : ByteArray) (a0_4 : ByteArray) (A0_5 : Option Addr) (c0_5 : Nat) (l0_5 : List (S23)) (A0_6 : Option Addr) (c0_6 : Nat) (l0_6 : List (S94)) (r : Bool) (w : World) (hr0_0 : Kd.C k85 w A0_0 l0_0.length l0_0) (hc0_0 : l0_0.length ≤ c0_0) (hr0_5 : Kd.C k23 w A0_5 l0_5.length l0_5) (hc0_5 : l0_5.length ≤ c0_5) (hr0_6 : Kd.C k94 w A0_6 l0_6.length l0_6) (hc0_6 : l0_6.length ≤ c0_6) (h : contangotop_TopPledgeMoved.f k l0_0 a0_1 a0_2 a0_3 a0_4 l0_5 l0_6 = some r) :
    Calls Try.prog 14 #[.agg #[.slice A0_0 l0_0.length c0_0, .string a0_1, .string a0_2, .string a0_3, .string a0_4, .slice A0_5 l0_5.length c0_5, .slice A0_6 l0_6.length c0_6]] w fun e w' => e = .returned (.bool r) ∧ Below w.heap.size w w' := by
  have hu80 := Try.underlying80
  have hu67 := Try.underlying67
  have HR0_0 := Aside0.mk hr0_0
  have HC0_0 := Aside0.mk hc0_0
  clear hr0_0 hc0_0
  have HR0_5 := Aside0.mk hr0_5
  have HC0_5 := Aside0.mk hc0_5
  clear hr0_5 hc0_5
  have HR0_6 := Aside0.mk hr0_6
  have HC0_6 := Aside0.mk hc0_6
  clear hr0_6 hc0_6
  have HB := Aside0.mk (Below.refl w.heap.size w)
  have H : (if (l0_0.length : Int) > 200 then (contangotop_TopPledgeMoved.j0 k true l0_0 a0_1 a0_2 a0_3 a0_4 l0_5 l0_6) else (contangotop_TopPledgeMoved.j0 k (decide ((l0_5.length : Int) > 100)) l0_0 a0_1 a0_2 a0_3 a0_4 l0_5 l0_6)) = some r := h
  clear h
  have HC2 := Aside0.mk H
  clear H
  go_enter Try.func14, Try.ntmps14
  go_upto_region 1 with (first | ((with_reducible refine gate_dst (N := 1) rfl ?_); (try (refine gate_guard (by rfl) ?_; dsimp only)); refine box_event ?hg (N := 1) ?hd (cs := #[.slice A0_0 l0_0.length c0_0, .string a0_1, .string a0_2, .string a0_3, .string a0_4, .slice A0_5 l0_5.length c0_5, .slice A0_6 l0_6.length c0_6]) (t := 80) ?hr ?_; (case hd => rfl); (case hg => rfl); (case hr => first | (go_simp; done) | (go_simp; rfl)); intro gb676 hg w3 hbox hb; have n0_ := Aside0.mk (below_step (by repeat (first | (with_reducible first | exact HB.out | apply below_alloc | apply pw_below_drewN | apply below_drew1) | exact HB.out)) hb); have n1_ := Aside0.mk (hbox); have n2_ := Aside0.mk ((by rw [hg]; exact (below_size (by repeat (first | (with_reducible first | exact HB.out | apply below_alloc | apply pw_below_drewN | apply below_drew1) | exact HB.out))) : w.heap.size ≤ gb676)); have n3_ := Aside0.mk ((by rw [hg]; exact (below_size (by repeat (first | (with_reducible first | exact HB.out | apply below_alloc | apply pw_below_drewN | apply below_drew1) | exact HB.out))) : w.heap.size ≤ gb676)); clear HB; have HB := n0_; have BK676 := n1_; have GW676 := n2_; have GE676 := n3_; clear n0_ n1_ n2_ n3_; clear hb hbox hg))
  (try simp only [Act.put, List.setIfInBounds_toArray, List.set_cons_zero, List.set_cons_succ])
  go_cut [24] (fun v24 wc => ∃ (kq : Nat) (x24_1 : Bool), v24 = .bool x24_1 ∧ Aside0 (contangotop_TopPledgeMoved.j0 kq x24_1 l0_0 a0_1 a0_2 a0_3 a0_4 l0_5 l0_6 = some r) ∧ Aside0 (kq ≤ k) ∧ Aside0 (wc.heap[gb676]? = some (.cells #[(.slice A0_0 l0_0.length c0_0), .string a0_1, .string a0_2, .string a0_3, .string a0_4, (.slice A0_5 l0_5.length c0_5), (.slice A0_6 l0_6.length c0_6)] 80 (0, 0))) ∧ Aside0 (Below w.heap.size w wc))
  case first =>
    have H := HC2.out
    clear HC2
    by_cases c4 : (l0_0.length : Int) > 200
    · rw [if_pos c4] at H
      have c4b0 : decide (200 < (l0_0.length : Int)) = true := decide_eq_true c4
      have c4b1 : decide (200 < l0_0.length) = true := decide_eq_true (by omega)
      clear c4
      have H' := Aside0.mk H
      clear H
      have hcz5_0 : w3.cell? ⟨gb676, 0, none⟩ = some (.slice A0_0 l0_0.length c0_0) := (blk_cell BK676.out 0).trans rfl
      have hcz5_1 : w3.cell? ⟨gb676, 1, none⟩ = some (.string a0_1) := (blk_cell BK676.out 1).trans rfl
      have hcz5_2 : w3.cell? ⟨gb676, 2, none⟩ = some (.string a0_2) := (blk_cell BK676.out 2).trans rfl
      have hcz5_3 : w3.cell? ⟨gb676, 3, none⟩ = some (.string a0_3) := (blk_cell BK676.out 3).trans rfl
      have hcz5_4 : w3.cell? ⟨gb676, 4, none⟩ = some (.string a0_4) := (blk_cell BK676.out 4).trans rfl
      have hcz5_5 : w3.cell? ⟨gb676, 5, none⟩ = some (.slice A0_5 l0_5.length c0_5) := (blk_cell BK676.out 5).trans rfl
      have hcz5_6 : w3.cell? ⟨gb676, 6, none⟩ = some (.slice A0_6 l0_6.length c0_6) := (blk_cell BK676.out 6).trans rfl
      have hfz5_0 := blk_frozen BK676.out 0
      have hfz5_1 := blk_frozen BK676.out 1
      have hfz5_2 := blk_frozen BK676.out 2
      have hfz5_3 := blk_frozen BK676.out 3
      have hfz5_4 := blk_frozen BK676.out 4
      have hfz5_5 := blk_frozen BK676.out 5
      have hfz5_6 := blk_frozen BK676.out 6
      go_wp2
      go_meet
      case rel => exact ⟨_, (true), (by first | rfl | (simp; done) | (simp [*]; done)), H', ⟨by first | omega | exact Nat.le_refl _⟩, ⟨by (with_reducible repeat (first | refine blk_drewN ?_ _ | refine blk_drew ?_ | refine blk_alloc ?_ _)); exact BK676.out⟩, ⟨by repeat (first | (with_reducible first | exact HB.out | apply below_alloc | apply pw_below_drewN | apply below_drew1 | refine below_set ?_ GE676.out) | exact HB.out)⟩⟩
    · rw [if_neg c4] at H
      have c4b0 : decide (200 < (l0_0.length : Int)) = false := decide_eq_false c4
      have c4b1 : decide (200 < l0_0.length) = false := decide_eq_false (by omega)
      clear c4
      have H' := Aside0.mk H
      clear H
      have hcz6_0 : w3.cell? ⟨gb676, 0, none⟩ = some (.slice A0_0 l0_0.length c0_0) := (blk_cell BK676.out 0).trans rfl
      have hcz6_1 : w3.cell? ⟨gb676, 1, none⟩ = some (.string a0_1) := (blk_cell BK676.out 1).trans rfl
      have hcz6_2 : w3.cell? ⟨gb676, 2, none⟩ = some (.string a0_2) := (blk_cell BK676.out 2).trans rfl
      have hcz6_3 : w3.cell? ⟨gb676, 3, none⟩ = some (.string a0_3) := (blk_cell BK676.out 3).trans rfl
      have hcz6_4 : w3.cell? ⟨gb676, 4, none⟩ = some (.string a0_4) := (blk_cell BK676.out 4).trans rfl
      have hcz6_5 : w3.cell? ⟨gb676, 5, none⟩ = some (.slice A0_5 l0_5.length c0_5) := (blk_cell BK676.out 5).trans rfl
      have hcz6_6 : w3.cell? ⟨gb676, 6, none⟩ = some (.slice A0_6 l0_6.length c0_6) := (blk_cell BK676.out 6).trans rfl
      have hfz6_0 := blk_frozen BK676.out 0
      have hfz6_1 := blk_frozen BK676.out 1
      have hfz6_2 := blk_frozen BK676.out 2
      have hfz6_3 := blk_frozen BK676.out 3
      have hfz6_4 := blk_frozen BK676.out 4
      have hfz6_5 := blk_frozen BK676.out 5
      have hfz6_6 := blk_frozen BK676.out 6
      go_wp2
      go_meet
      case rel => exact ⟨_, (decide ((l0_5.length : Int) > 100)), (by first | rfl | (simp; done) | (simp [*]; done)), H', ⟨by first | omega | exact Nat.le_refl _⟩, ⟨by (with_reducible repeat (first | refine blk_drewN ?_ _ | refine blk_drew ?_ | refine blk_alloc ?_ _)); exact BK676.out⟩, ⟨by repeat (first | (with_reducible first | exact HB.out | apply below_alloc | apply pw_below_drewN | apply below_drew1 | refine below_set ?_ GE676.out) | exact HB.out)⟩⟩
  case rest =>
    clear HC2
    try clear c1
    try clear p2
    try clear c4
    try clear c4b0
    try clear c4b1
    try clear hcz5_0
    try clear hcz5_1
    try clear hcz5_2
    try clear hcz5_3
    try clear hcz5_4
    try clear hcz5_5
    try clear hcz5_6
    try clear hcz6_0
    try clear hcz6_1
    try clear hcz6_2
    try clear hcz6_3
    try clear hcz6_4
    try clear hcz6_5
    try clear hcz6_6
    try clear hfz5_0
    try clear hfz5_1
    try clear hfz5_2
    try clear hfz5_3
    try clear hfz5_4
    try clear hfz5_5
    try clear hfz5_6
    try clear hfz6_0
    try clear hfz6_1
    try clear hfz6_2
    try clear hfz6_3
    try clear hfz6_4
    try clear hfz6_5
    try clear hfz6_6
    obtain ⟨kq, x24_1, rfl, HA, HJ1, BK676, HB⟩ := hcut
    cases kq with
    | zero => exact absurd HA.out (by simp [contangotop_TopPledgeMoved.j0])
    | succ kj1 =>
      have H := HA.out
      clear HA
      simp only [contangotop_TopPledgeMoved.j0] at H
      by_cases c7 : x24_1 = true
      · subst c7
        have H1 : ((contangotop_goes16.f kj1).bind fun t677 => (some t677)) = some r := by rw [if_pos rfl] at H; exact H
        clear H
        have H := H1
        clear H1
        replace H := Option.bind_eq_some_iff.mp H
        obtain ⟨t677, A80, H⟩ := H
        replace H : (some t677) = some r := H
        have A8 := Aside0.mk A80
        clear A80
        obtain rfl := Option.some.inj H
        go_wp2_with (first | ((with_reducible refine gate_callee (f := 42) rfl ?_); refine goesL_ (some 25) rfl rfl Try.func42 (by kernel_rfl) rfl #[] rfl (by (try simp only [List.map_toArray, List.map_cons, List.map_nil]); first | done | rfl | (simp only [List.length_drop, List.length_take]; rfl)) ?_; (with_reducible refine (contangotop_goes16.calls kj1  t677 _ A8.out).mono ?_); rintro e w9 ⟨rfl, hb⟩; refine ⟨_, rfl, ?_⟩; have n0_ := Aside0.mk (blk_below (g := gb676) (o := .cells #[.slice A0_0 l0_0.length c0_0, .string a0_1, .string a0_2, .string a0_3, .string a0_4, .slice A0_5 l0_5.length c0_5, .slice A0_6 l0_6.length c0_6] 80 (0, 0)) (by (with_reducible repeat (first | refine blk_drewN ?_ _ | refine blk_drew ?_ | refine blk_alloc ?_ _)); exact BK676.out) hb); have n1_ := Aside0.mk (below_step (by repeat (first | (with_reducible first | exact HB.out | apply below_alloc | apply pw_below_drewN | apply below_drew1 | refine below_set ?_ GE676.out) | exact HB.out)) hb); clear BK676; clear HB; have BK676 := n0_; have HB := n1_; clear n0_ n1_; (try clear hb); (try clear hb2); (try clear hk); (try clear hi)))
        go_ret
        exact ⟨by first | rfl | (simp [errW_none, errW_some] <;> rfl) | (simp [*, errW_none, errW_some] <;> rfl), by repeat (first | (with_reducible first | exact HB.out | apply below_alloc | apply pw_below_drewN | apply below_drew1 | refine below_set ?_ GE676.out) | exact HB.out)⟩
      · replace c7 := Bool.eq_false_iff.mpr c7
        subst c7
        have H1 : ((pledge_Move.f kj1 l0_0 a0_1 a0_2 a0_3 a0_4).bind fun bt678 => (if bt678.2 = 0 then ((pledge_Of.f kj1 bt678.1 a0_1 a0_2).bind fun t683 => (if (t683.length : Int) = 0 then ((pledge_Check.f kj1 bt678.1).bind fun t686 => (contangotop_TopPledgeMoved.j1 kj1 bt678.1 (t686 != 0) l0_0 a0_1 a0_2 a0_3 a0_4 l0_5 l0_6)) else (contangotop_TopPledgeMoved.j1 kj1 bt678.1 true l0_0 a0_1 a0_2 a0_3 a0_4 l0_5 l0_6))) else (if (bt678.1.length : Int) = 0 then ((contangotop_goes16.f kj1).bind fun t682 => (some t682)) else (some false)))) = some r := by rw [if_neg (show ¬ (false = true) by decide)] at H; exact H
        clear H
        have H := H1
        clear H1
        replace H := Option.bind_eq_some_iff.mp H
        obtain ⟨⟨t678, t681⟩, A100, H⟩ := H
        replace H : (if t681 = 0 then ((pledge_Of.f kj1 t678 a0_1 a0_2).bind fun t683 => (if (t683.length : Int) = 0 then ((pledge_Check.f kj1 t678).bind fun t686 => (contangotop_TopPledgeMoved.j1 kj1 t678 (t686 != 0) l0_0 a0_1 a0_2 a0_3 a0_4 l0_5 l0_6)) else (contangotop_TopPledgeMoved.j1 kj1 t678 true l0_0 a0_1 a0_2 a0_3 a0_4 l0_5 l0_6))) else (if (t678.length : Int) = 0 then ((contangotop_goes16.f kj1).bind fun t682 => (some t682)) else (some false))) = some r := H
        have A10 := Aside0.mk A100
        clear A100
        have hcz11_0 : wc.cell? ⟨gb676, 0, none⟩ = some (.slice A0_0 l0_0.length c0_0) := (blk_cell BK676.out 0).trans rfl
        have hcz11_1 : wc.cell? ⟨gb676, 1, none⟩ = some (.string a0_1) := (blk_cell BK676.out 1).trans rfl
        have hcz11_2 : wc.cell? ⟨gb676, 2, none⟩ = some (.string a0_2) := (blk_cell BK676.out 2).trans rfl
        have hcz11_3 : wc.cell? ⟨gb676, 3, none⟩ = some (.string a0_3) := (blk_cell BK676.out 3).trans rfl
        have hcz11_4 : wc.cell? ⟨gb676, 4, none⟩ = some (.string a0_4) := (blk_cell BK676.out 4).trans rfl
        have hcz11_5 : wc.cell? ⟨gb676, 5, none⟩ = some (.slice A0_5 l0_5.length c0_5) := (blk_cell BK676.out 5).trans rfl
        have hcz11_6 : wc.cell? ⟨gb676, 6, none⟩ = some (.slice A0_6 l0_6.length c0_6) := (blk_cell BK676.out 6).trans rfl
        have hfz11_0 := blk_frozen BK676.out 0
        have hfz11_1 := blk_frozen BK676.out 1
        have hfz11_2 := blk_frozen BK676.out 2
        have hfz11_3 := blk_frozen BK676.out 3
        have hfz11_4 := blk_frozen BK676.out 4
        have hfz11_5 := blk_frozen BK676.out 5
        have hfz11_6 := blk_frozen BK676.out 6
        go_upto_if 37 with (first | ((with_reducible refine gate_callee (f := 46) rfl ?_); refine goesL_ (some 33) rfl rfl Try.func46 (by kernel_rfl) rfl #[.slice A0_0 l0_0.length c0_0, .agg #[.string a0_1, .string a0_2], .agg #[.string a0_3, .string a0_4]] rfl (by (try simp only [List.map_toArray, List.map_cons, List.map_nil]); first | done | rfl | (simp only [List.length_drop, List.length_take]; rfl)) ?_; (with_reducible refine (pledge_Move.calls kj1 _ _ l0_0 a0_1 a0_2 a0_3 a0_4 t678 t681 _ ?side1 ?side2 A10.out).mono ?_); (case side1 => repeat (first | exact (Kd.C_below HR0_0.out HB.out) | (with_reducible refine Kd.C_alloc ?_ _) | (with_reducible refine Kd.C_drewN ?_ _) | (with_reducible refine Kd.C_drew ?_))); (case side2 => exact HC0_0.out); rintro e w12 ⟨v679, rfl, ho0, hb⟩; refine ⟨_, rfl, ?_⟩; have n0_ := Aside0.mk (Kd.R_lower ho0 (below_size (by repeat (first | (with_reducible first | exact HB.out | apply below_alloc | apply pw_below_drewN | apply below_drew1 | refine below_set ?_ GE676.out) | exact HB.out)))); have n1_ := Aside0.mk (blk_below (g := gb676) (o := .cells #[.slice A0_0 l0_0.length c0_0, .string a0_1, .string a0_2, .string a0_3, .string a0_4, .slice A0_5 l0_5.length c0_5, .slice A0_6 l0_6.length c0_6] 80 (0, 0)) (by (with_reducible repeat (first | refine blk_drewN ?_ _ | refine blk_drew ?_ | refine blk_alloc ?_ _)); exact BK676.out) hb); have n2_ := Aside0.mk (below_step (by repeat (first | (with_reducible first | exact HB.out | apply below_alloc | apply pw_below_drewN | apply below_drew1 | refine below_set ?_ GE676.out) | exact HB.out)) hb); clear BK676; clear HB; have HO680 := n0_; have BK676 := n1_; have HB := n2_; clear n0_ n1_ n2_; (try clear hb); (try clear hb2); (try clear hk); (try clear hi); (try clear ho0)))
        (try simp only [Act.put, List.setIfInBounds_toArray, List.set_cons_zero, List.set_cons_succ])
        by_cases c13 : t681 = 0
        · rw [if_pos c13] at H
          have c13b0 : (t681 == 0) = true := beq_iff_eq.mpr c13
          have c13b1 : (t681 != 0) = false := bne_eq_false_iff_eq.mpr c13
          clear c13
          (try simp only [c13b0, c13b1])
          have HC14 := Aside0.mk H
          clear H
          go_upto_region 6 with (fail)
          go_cut [54] (fun v54 wc => ∃ (kq : Nat) (x54_13 : Bool), v54 = .bool x54_13 ∧ Aside0 (contangotop_TopPledgeMoved.j1 kq t678 x54_13 l0_0 a0_1 a0_2 a0_3 a0_4 l0_5 l0_6 = some r) ∧ Aside0 (kq ≤ kj1) ∧ Aside0 (Kd.R k85 85 wc w.heap.size (fun _ => True) v679 t678) ∧ Aside0 (wc.heap[gb676]? = some (.cells #[(.slice A0_0 l0_0.length c0_0), .string a0_1, .string a0_2, .string a0_3, .string a0_4, (.slice A0_5 l0_5.length c0_5), (.slice A0_6 l0_6.length c0_6)] 80 (0, 0))) ∧ Aside0 (Below w.heap.size w wc))
          case first =>
            have H := HC14.out
            clear HC14
            replace H := Option.bind_eq_some_iff.mp H
            obtain ⟨t683, A150, H⟩ := H
            replace H : (if (t683.length : Int) = 0 then ((pledge_Check.f kj1 t678).bind fun t686 => (contangotop_TopPledgeMoved.j1 kj1 t678 (t686 != 0) l0_0 a0_1 a0_2 a0_3 a0_4 l0_5 l0_6)) else (contangotop_TopPledgeMoved.j1 kj1 t678 true l0_0 a0_1 a0_2 a0_3 a0_4 l0_5 l0_6)) = some r := H
            have A15 := Aside0.mk A150
            clear A150
            by_cases c16 : (t683.length : Int) = 0
            · rw [if_pos c16] at H
              have c16b0 : ((t683.length : Int) == 0) = true := beq_iff_eq.mpr c16
              have c16b1 : ((t683.length : Int) != 0) = false := bne_eq_false_iff_eq.mpr c16
              clear c16
              replace H := Option.bind_eq_some_iff.mp H
              obtain ⟨t686, A170, H⟩ := H
              replace H : (contangotop_TopPledgeMoved.j1 kj1 t678 (t686 != 0) l0_0 a0_1 a0_2 a0_3 a0_4 l0_5 l0_6) = some r := H
              have A17 := Aside0.mk A170
              clear A170
              have H' := Aside0.mk H
              clear H
              have hcz18_0 : w12.cell? ⟨gb676, 0, none⟩ = some (.slice A0_0 l0_0.length c0_0) := (blk_cell BK676.out 0).trans rfl
              have hcz18_1 : w12.cell? ⟨gb676, 1, none⟩ = some (.string a0_1) := (blk_cell BK676.out 1).trans rfl
              have hcz18_2 : w12.cell? ⟨gb676, 2, none⟩ = some (.string a0_2) := (blk_cell BK676.out 2).trans rfl
              have hcz18_3 : w12.cell? ⟨gb676, 3, none⟩ = some (.string a0_3) := (blk_cell BK676.out 3).trans rfl
              have hcz18_4 : w12.cell? ⟨gb676, 4, none⟩ = some (.string a0_4) := (blk_cell BK676.out 4).trans rfl
              have hcz18_5 : w12.cell? ⟨gb676, 5, none⟩ = some (.slice A0_5 l0_5.length c0_5) := (blk_cell BK676.out 5).trans rfl
              have hcz18_6 : w12.cell? ⟨gb676, 6, none⟩ = some (.slice A0_6 l0_6.length c0_6) := (blk_cell BK676.out 6).trans rfl
              have hfz18_0 := blk_frozen BK676.out 0
              have hfz18_1 := blk_frozen BK676.out 1
              have hfz18_2 := blk_frozen BK676.out 2
              have hfz18_3 := blk_frozen BK676.out 3
              have hfz18_4 := blk_frozen BK676.out 4
              have hfz18_5 := blk_frozen BK676.out 5
              have hfz18_6 := blk_frozen BK676.out 6
              obtain ⟨Ao19, co19, eo19⟩ := Kd.R_slice HO680.out
              subst eo19
              go_wp2_with (first | ((with_reducible refine gate_callee (f := 47) rfl ?_); refine goesL_ (some 47) rfl rfl Try.func47 (by kernel_rfl) rfl #[.slice Ao19 t678.length co19, .agg #[.string a0_1, .string a0_2]] rfl (by (try simp only [List.map_toArray, List.map_cons, List.map_nil]); first | done | rfl | (simp only [List.length_drop, List.length_take]; rfl)) ?_; (with_reducible refine (pledge_Of.calls kj1 _ _ t678 a0_1 a0_2 t683 _ ?side1 ?side2 A15.out).mono ?_); (case side1 => repeat (first | exact (Kd.R_reads' HO680.out).2.2 | (with_reducible refine Kd.C_alloc ?_ _) | (with_reducible refine Kd.C_drewN ?_ _) | (with_reducible refine Kd.C_drew ?_))); (case side2 => exact (Kd.R_reads' HO680.out).2.1); rintro e w20 ⟨v684, rfl, ho0, hb⟩; refine ⟨_, rfl, ?_⟩; have n0_ := Aside0.mk (Kd.R_elder' (by (with_reducible repeat (first | apply Kd.R_alloc | apply Kd.R_drewN | apply Kd.R_drew)); exact HO680.out) (Kd.R_base ho0) hb); have n1_ := Aside0.mk (Kd.R_lower (Kd.R_new' ho0 (Kd.R_lt (by (with_reducible repeat (first | apply Kd.R_alloc | apply Kd.R_drewN | apply Kd.R_drew)); exact HO680.out))) (below_size (by repeat (first | (with_reducible first | exact HB.out | apply below_alloc | apply pw_below_drewN | apply below_drew1 | refine below_set ?_ GE676.out) | exact HB.out)))); have n2_ := Aside0.mk (blk_below (g := gb676) (o := .cells #[.slice A0_0 l0_0.length c0_0, .string a0_1, .string a0_2, .string a0_3, .string a0_4, .slice A0_5 l0_5.length c0_5, .slice A0_6 l0_6.length c0_6] 80 (0, 0)) (by (with_reducible repeat (first | refine blk_drewN ?_ _ | refine blk_drew ?_ | refine blk_alloc ?_ _)); exact BK676.out) hb); have n3_ := Aside0.mk (below_step (by repeat (first | (with_reducible first | exact HB.out | apply below_alloc | apply pw_below_drewN | apply below_drew1 | refine below_set ?_ GE676.out) | exact HB.out)) hb); clear HO680; clear BK676; clear HB; have HO680 := n0_; have HO685 := n1_; have BK676 := n2_; have HB := n3_; clear n0_ n1_ n2_ n3_; (try clear hb); (try clear hb2); (try clear hk); (try clear hi); (try clear ho0); obtain ⟨Ao21, co21, eo21⟩ := Kd.R_slice HO685.out; subst eo21) | (go_at_call 48; (with_reducible refine (pledge_Check.calls kj1 _ _ t678 t686 _ ?side1 ?side2 A17.out).mono ?_); (case side1 => repeat (first | exact (Kd.R_reads' HO680.out).2.2 | (with_reducible refine Kd.C_alloc ?_ _) | (with_reducible refine Kd.C_drewN ?_ _) | (with_reducible refine Kd.C_drew ?_))); (case side2 => exact (Kd.R_reads' HO680.out).2.1); rintro e w22 ⟨rfl, hb⟩; have n0_ := Aside0.mk (Kd.R_below (by (with_reducible repeat (first | apply Kd.R_alloc | apply Kd.R_drewN | apply Kd.R_drew)); exact HO680.out) hb); have n1_ := Aside0.mk (Kd.R_below (by (with_reducible repeat (first | apply Kd.R_alloc | apply Kd.R_drewN | apply Kd.R_drew)); exact HO685.out) hb); have n2_ := Aside0.mk (blk_below (g := gb676) (o := .cells #[.slice A0_0 l0_0.length c0_0, .string a0_1, .string a0_2, .string a0_3, .string a0_4, .slice A0_5 l0_5.length c0_5, .slice A0_6 l0_6.length c0_6] 80 (0, 0)) (by (with_reducible repeat (first | refine blk_drewN ?_ _ | refine blk_drew ?_ | refine blk_alloc ?_ _)); exact BK676.out) hb); have n3_ := Aside0.mk (below_step (by repeat (first | (with_reducible first | exact HB.out | apply below_alloc | apply pw_below_drewN | apply below_drew1 | refine below_set ?_ GE676.out) | exact HB.out)) hb); clear HO680; clear HO685; clear BK676; clear HB; have HO680 := n0_; have HO685 := n1_; have BK676 := n2_; have HB := n3_; clear n0_ n1_ n2_ n3_; (try clear hb); (try clear hb2); (try clear hk); (try clear hi)))
              go_meet
              case rel => exact ⟨_, ((t686 != 0)), (by first | rfl | (simp; done) | (simp [*]; done)), H', ⟨by have := HJ1.out; first | omega | exact Nat.le_refl _⟩, ⟨by (with_reducible repeat (first | apply Kd.R_alloc | apply Kd.R_drewN | apply Kd.R_drew)); exact Kd.R_mono HO680.out (fun _ hk => trivial)⟩, ⟨by (with_reducible repeat (first | refine blk_drewN ?_ _ | refine blk_drew ?_ | refine blk_alloc ?_ _)); exact BK676.out⟩, ⟨by repeat (first | (with_reducible first | exact HB.out | apply below_alloc | apply pw_below_drewN | apply below_drew1 | refine below_set ?_ GE676.out) | exact HB.out)⟩⟩
            · rw [if_neg c16] at H
              have c16b0 : ((t683.length : Int) == 0) = false := beq_eq_false_iff_ne.mpr c16
              have c16b1 : ((t683.length : Int) != 0) = true := bne_iff_ne.mpr c16
              have c16b2 : ¬ (t683 = []) := fun h_ => c16 (by rw [h_]; rfl)
              have H' := Aside0.mk H
              clear H
              have hcz23_0 : w12.cell? ⟨gb676, 0, none⟩ = some (.slice A0_0 l0_0.length c0_0) := (blk_cell BK676.out 0).trans rfl
              have hcz23_1 : w12.cell? ⟨gb676, 1, none⟩ = some (.string a0_1) := (blk_cell BK676.out 1).trans rfl
              have hcz23_2 : w12.cell? ⟨gb676, 2, none⟩ = some (.string a0_2) := (blk_cell BK676.out 2).trans rfl
              have hcz23_3 : w12.cell? ⟨gb676, 3, none⟩ = some (.string a0_3) := (blk_cell BK676.out 3).trans rfl
              have hcz23_4 : w12.cell? ⟨gb676, 4, none⟩ = some (.string a0_4) := (blk_cell BK676.out 4).trans rfl
              have hcz23_5 : w12.cell? ⟨gb676, 5, none⟩ = some (.slice A0_5 l0_5.length c0_5) := (blk_cell BK676.out 5).trans rfl
              have hcz23_6 : w12.cell? ⟨gb676, 6, none⟩ = some (.slice A0_6 l0_6.length c0_6) := (blk_cell BK676.out 6).trans rfl
              have hfz23_0 := blk_frozen BK676.out 0
              have hfz23_1 := blk_frozen BK676.out 1
              have hfz23_2 := blk_frozen BK676.out 2
              have hfz23_3 := blk_frozen BK676.out 3
              have hfz23_4 := blk_frozen BK676.out 4
              have hfz23_5 := blk_frozen BK676.out 5
              have hfz23_6 := blk_frozen BK676.out 6
              obtain ⟨Ao24, co24, eo24⟩ := Kd.R_slice HO680.out
              subst eo24
              go_wp2_with (first | ((with_reducible refine gate_callee (f := 47) rfl ?_); refine goesL_ (some 47) rfl rfl Try.func47 (by kernel_rfl) rfl #[.slice Ao24 t678.length co24, .agg #[.string a0_1, .string a0_2]] rfl (by (try simp only [List.map_toArray, List.map_cons, List.map_nil]); first | done | rfl | (simp only [List.length_drop, List.length_take]; rfl)) ?_; (with_reducible refine (pledge_Of.calls kj1 _ _ t678 a0_1 a0_2 t683 _ ?side1 ?side2 A15.out).mono ?_); (case side1 => repeat (first | exact (Kd.R_reads' HO680.out).2.2 | (with_reducible refine Kd.C_alloc ?_ _) | (with_reducible refine Kd.C_drewN ?_ _) | (with_reducible refine Kd.C_drew ?_))); (case side2 => exact (Kd.R_reads' HO680.out).2.1); rintro e w25 ⟨v684, rfl, ho0, hb⟩; refine ⟨_, rfl, ?_⟩; have n0_ := Aside0.mk (Kd.R_elder' (by (with_reducible repeat (first | apply Kd.R_alloc | apply Kd.R_drewN | apply Kd.R_drew)); exact HO680.out) (Kd.R_base ho0) hb); have n1_ := Aside0.mk (Kd.R_lower (Kd.R_new' ho0 (Kd.R_lt (by (with_reducible repeat (first | apply Kd.R_alloc | apply Kd.R_drewN | apply Kd.R_drew)); exact HO680.out))) (below_size (by repeat (first | (with_reducible first | exact HB.out | apply below_alloc | apply pw_below_drewN | apply below_drew1 | refine below_set ?_ GE676.out) | exact HB.out)))); have n2_ := Aside0.mk (blk_below (g := gb676) (o := .cells #[.slice A0_0 l0_0.length c0_0, .string a0_1, .string a0_2, .string a0_3, .string a0_4, .slice A0_5 l0_5.length c0_5, .slice A0_6 l0_6.length c0_6] 80 (0, 0)) (by (with_reducible repeat (first | refine blk_drewN ?_ _ | refine blk_drew ?_ | refine blk_alloc ?_ _)); exact BK676.out) hb); have n3_ := Aside0.mk (below_step (by repeat (first | (with_reducible first | exact HB.out | apply below_alloc | apply pw_below_drewN | apply below_drew1 | refine below_set ?_ GE676.out) | exact HB.out)) hb); clear HO680; clear BK676; clear HB; have HO680 := n0_; have HO685 := n1_; have BK676 := n2_; have HB := n3_; clear n0_ n1_ n2_ n3_; (try clear hb); (try clear hb2); (try clear hk); (try clear hi); (try clear ho0); obtain ⟨Ao26, co26, eo26⟩ := Kd.R_slice HO685.out; subst eo26))
              go_meet
              case rel => exact ⟨_, (true), (by first | rfl | (simp; done) | (simp [*]; done)), H', ⟨by have := HJ1.out; first | omega | exact Nat.le_refl _⟩, ⟨by (with_reducible repeat (first | apply Kd.R_alloc | apply Kd.R_drewN | apply Kd.R_drew)); exact Kd.R_mono HO680.out (fun _ hk => trivial)⟩, ⟨by (with_reducible repeat (first | refine blk_drewN ?_ _ | refine blk_drew ?_ | refine blk_alloc ?_ _)); exact BK676.out⟩, ⟨by repeat (first | (with_reducible first | exact HB.out | apply below_alloc | apply pw_below_drewN | apply below_drew1 | refine below_set ?_ GE676.out) | exact HB.out)⟩⟩
          case rest =>
            clear HC14
            try clear c1
            try clear p2
            try clear c4
            try clear c4b0
            try clear c4b1
            try clear c7
            try clear c13
            try clear c13b0
            try clear c13b1
            try clear c14
            try clear c16
            try clear c16b0
            try clear c16b1
            try clear c16b2
            try clear hcz11_0
            try clear hcz11_1
            try clear hcz11_2
            try clear hcz11_3
            try clear hcz11_4
            try clear hcz11_5
            try clear hcz11_6
            try clear hcz18_0
            try clear hcz18_1
            try clear hcz18_2
            try clear hcz18_3
            try clear hcz18_4
            try clear hcz18_5
            try clear hcz18_6
            try clear hcz23_0
            try clear hcz23_1
            try clear hcz23_2
            try clear hcz23_3
            try clear hcz23_4
            try clear hcz23_5
            try clear hcz23_6
            try clear hcz5_0
            try clear hcz5_1
            try clear hcz5_2
            try clear hcz5_3
            try clear hcz5_4
            try clear hcz5_5
            try clear hcz5_6
            try clear hcz6_0
            try clear hcz6_1
            try clear hcz6_2
            try clear hcz6_3
            try clear hcz6_4
            try clear hcz6_5
            try clear hcz6_6
            try clear hfz11_0
            try clear hfz11_1
            try clear hfz11_2
            try clear hfz11_3
            try clear hfz11_4
            try clear hfz11_5
            try clear hfz11_6
            try clear hfz18_0
            try clear hfz18_1
            try clear hfz18_2
            try clear hfz18_3
            try clear hfz18_4
            try clear hfz18_5
            try clear hfz18_6
            try clear hfz23_0
            try clear hfz23_1
            try clear hfz23_2
            try clear hfz23_3
            try clear hfz23_4
            try clear hfz23_5
            try clear hfz23_6
            try clear hfz5_0
            try clear hfz5_1
            try clear hfz5_2
            try clear hfz5_3
            try clear hfz5_4
            try clear hfz5_5
            try clear hfz5_6
            try clear hfz6_0
            try clear hfz6_1
            try clear hfz6_2
            try clear hfz6_3
            try clear hfz6_4
            try clear hfz6_5
            try clear hfz6_6
            try clear p2
            obtain ⟨kq, x54_13, rfl, HA, HJ13, HO_3, BK676, HB⟩ := hcut
            cases kq with
            | zero => exact absurd HA.out (by simp [contangotop_TopPledgeMoved.j1])
            | succ kj13 =>
              have H := HA.out
              clear HA
              simp only [contangotop_TopPledgeMoved.j1] at H
              by_cases c27 : x54_13 = true
              · subst c27
                have H1 : (some false) = some r := by rw [if_pos rfl] at H; exact H
                clear H
                have H := H1
                clear H1
                obtain rfl := Option.some.inj H
                go_wp2
                go_ret
                exact ⟨by first | rfl | (simp [errW_none, errW_some] <;> rfl) | (simp [*, errW_none, errW_some] <;> rfl), by repeat (first | (with_reducible first | exact HB.out | apply below_alloc | apply pw_below_drewN | apply below_drew1 | refine below_set ?_ GE676.out) | exact HB.out)⟩
              · replace c27 := Bool.eq_false_iff.mpr c27
                subst c27
                have H1 : (contangotop_TopPledgeMoved.l0 kj13 t678 0 l0_0 a0_1 a0_2 a0_3 a0_4 l0_5 l0_6) = some r := by rw [if_neg (show ¬ (false = true) by decide)] at H; exact H
                clear H
                have H := H1
                clear H1
                have H' := Aside0.mk H
                clear H
                go_wp2
                go_loopg [5] kj13 (fun kq v5 w' => ∃ (x5_3 : Int), v5 = .int .i64 x5_3 ∧ Aside0 (contangotop_TopPledgeMoved.l0 kq t678 x5_3 l0_0 a0_1 a0_2 a0_3 a0_4 l0_5 l0_6 = some r) ∧ Aside0 (kq ≤ kj13) ∧ Aside0 (Kd.R k85 85 w' w.heap.size (fun _ => True) v679 t678) ∧ Aside0 (w'.heap[gb676]? = some (.cells #[(.slice A0_0 l0_0.length c0_0), .string a0_1, .string a0_2, .string a0_3, .string a0_4, (.slice A0_5 l0_5.length c0_5), (.slice A0_6 l0_6.length c0_6)] 80 (0, 0))) ∧ Aside0 (Below w.heap.size w w'))
                case atStart => exact ⟨(0), (by first | rfl | (simp; done) | (simp [*]; done)), H', ⟨Nat.le_refl _⟩, ⟨by (with_reducible repeat (first | apply Kd.R_alloc | apply Kd.R_drewN | apply Kd.R_drew)); exact HO_3.out⟩, ⟨by (with_reducible repeat (first | refine blk_drewN ?_ _ | refine blk_drew ?_ | refine blk_alloc ?_ _)); exact BK676.out⟩, ⟨by repeat (first | (with_reducible first | exact HB.out | apply below_alloc | apply pw_below_drewN | apply below_drew1 | refine below_set ?_ GE676.out) | exact HB.out)⟩⟩
                case round =>
                  clear H'
                  try clear c1
                  try clear c2
                  try clear p2
                  try clear c4
                  try clear c4b0
                  try clear c4b1
                  try clear c7
                  try clear c13
                  try clear c13b0
                  try clear c13b1
                  try clear c14
                  try clear c16
                  try clear c16b0
                  try clear c16b1
                  try clear c16b2
                  try clear c27
                  try clear hcz11_0
                  try clear hcz11_1
                  try clear hcz11_2
                  try clear hcz11_3
                  try clear hcz11_4
                  try clear hcz11_5
                  try clear hcz11_6
                  try clear hcz18_0
                  try clear hcz18_1
                  try clear hcz18_2
                  try clear hcz18_3
                  try clear hcz18_4
                  try clear hcz18_5
                  try clear hcz18_6
                  try clear hcz23_0
                  try clear hcz23_1
                  try clear hcz23_2
                  try clear hcz23_3
                  try clear hcz23_4
                  try clear hcz23_5
                  try clear hcz23_6
                  try clear hcz5_0
                  try clear hcz5_1
                  try clear hcz5_2
                  try clear hcz5_3
                  try clear hcz5_4
                  try clear hcz5_5
                  try clear hcz5_6
                  try clear hcz6_0
                  try clear hcz6_1
                  try clear hcz6_2
                  try clear hcz6_3
                  try clear hcz6_4
                  try clear hcz6_5
                  try clear hcz6_6
                  try clear hfz11_0
                  try clear hfz11_1
                  try clear hfz11_2
                  try clear hfz11_3
                  try clear hfz11_4
                  try clear hfz11_5
                  try clear hfz11_6
                  try clear hfz18_0
                  try clear hfz18_1
                  try clear hfz18_2
                  try clear hfz18_3
                  try clear hfz18_4
                  try clear hfz18_5
                  try clear hfz18_6
                  try clear hfz23_0
                  try clear hfz23_1
                  try clear hfz23_2
                  try clear hfz23_3
                  try clear hfz23_4
                  try clear hfz23_5
                  try clear hfz23_6
                  try clear hfz5_0
                  try clear hfz5_1
                  try clear hfz5_2
                  try clear hfz5_3
                  try clear hfz5_4
                  try clear hfz5_5
                  try clear hfz5_6
                  try clear hfz6_0
                  try clear hfz6_1
                  try clear hfz6_2
                  try clear hfz6_3
                  try clear hfz6_4
                  try clear hfz6_5
                  try clear hfz6_6
                  try clear p2
                  obtain ⟨x5_3, rfl, HA, HK3, HO_3, BK676, HB⟩ := hrel
                  cases gk with
                  | zero => exact absurd HA.out (by simp [contangotop_TopPledgeMoved.l0])
                  | succ k3 =>
                    have H := HA.out
                    clear HA
                    simp only [contangotop_TopPledgeMoved.l0] at H
                    have hcz28_0 : wr.cell? ⟨gb676, 0, none⟩ = some (.slice A0_0 l0_0.length c0_0) := (blk_cell BK676.out 0).trans rfl
                    have hcz28_1 : wr.cell? ⟨gb676, 1, none⟩ = some (.string a0_1) := (blk_cell BK676.out 1).trans rfl
                    have hcz28_2 : wr.cell? ⟨gb676, 2, none⟩ = some (.string a0_2) := (blk_cell BK676.out 2).trans rfl
                    have hcz28_3 : wr.cell? ⟨gb676, 3, none⟩ = some (.string a0_3) := (blk_cell BK676.out 3).trans rfl
                    have hcz28_4 : wr.cell? ⟨gb676, 4, none⟩ = some (.string a0_4) := (blk_cell BK676.out 4).trans rfl
                    have hcz28_5 : wr.cell? ⟨gb676, 5, none⟩ = some (.slice A0_5 l0_5.length c0_5) := (blk_cell BK676.out 5).trans rfl
                    have hcz28_6 : wr.cell? ⟨gb676, 6, none⟩ = some (.slice A0_6 l0_6.length c0_6) := (blk_cell BK676.out 6).trans rfl
                    have hfz28_0 := blk_frozen BK676.out 0
                    have hfz28_1 := blk_frozen BK676.out 1
                    have hfz28_2 := blk_frozen BK676.out 2
                    have hfz28_3 := blk_frozen BK676.out 3
                    have hfz28_4 := blk_frozen BK676.out 4
                    have hfz28_5 := blk_frozen BK676.out 5
                    have hfz28_6 := blk_frozen BK676.out 6
                    go_upto_if 59 with (fail)
                    by_cases c29 : x5_3 < (l0_0.length : Int)
                    · rw [if_pos c29] at H
                      have c29b0 : decide (x5_3 < (l0_0.length : Int)) = true := decide_eq_true c29
                      clear c29
                      (try simp only [c29b0])
                      by_cases c30 : 0 ≤ x5_3
                      · rw [if_pos c30] at H
                        have c30b0 : decide (0 ≤ x5_3) = true := decide_eq_true c30
                        clear c30
                        replace H := Option.bind_eq_some_iff.mp H
                        obtain ⟨t688, A310, H⟩ := H
                        replace H : ((pledge_Qty.f k3 l0_0 a0_1 a0_2 ((rd_T85 l0_0 x5_3).f1)).bind fun t689 => ((pledge_Qty.f k3 l0_0 a0_3 a0_4 ((rd_T85 l0_0 x5_3).f1)).bind fun t690 => (if t688 = (wrap64 (t689 + t690)) then (contangotop_TopPledgeMoved.l0 k3 t678 (wrap64 (x5_3 + 1)) l0_0 a0_1 a0_2 a0_3 a0_4 l0_5 l0_6) else (some false)))) = some r := H
                        have A31 := Aside0.mk A310
                        clear A310
                        replace H := Option.bind_eq_some_iff.mp H
                        obtain ⟨t689, A320, H⟩ := H
                        replace H : ((pledge_Qty.f k3 l0_0 a0_3 a0_4 ((rd_T85 l0_0 x5_3).f1)).bind fun t690 => (if t688 = (wrap64 (t689 + t690)) then (contangotop_TopPledgeMoved.l0 k3 t678 (wrap64 (x5_3 + 1)) l0_0 a0_1 a0_2 a0_3 a0_4 l0_5 l0_6) else (some false))) = some r := H
                        have A32 := Aside0.mk A320
                        clear A320
                        replace H := Option.bind_eq_some_iff.mp H
                        obtain ⟨t690, A330, H⟩ := H
                        replace H : (if t688 = (wrap64 (t689 + t690)) then (contangotop_TopPledgeMoved.l0 k3 t678 (wrap64 (x5_3 + 1)) l0_0 a0_1 a0_2 a0_3 a0_4 l0_5 l0_6) else (some false)) = some r := H
                        have A33 := Aside0.mk A330
                        clear A330
                        have hcz34_0 : wr.cell? ⟨gb676, 0, none⟩ = some (.slice A0_0 l0_0.length c0_0) := (blk_cell BK676.out 0).trans rfl
                        have hcz34_1 : wr.cell? ⟨gb676, 1, none⟩ = some (.string a0_1) := (blk_cell BK676.out 1).trans rfl
                        have hcz34_2 : wr.cell? ⟨gb676, 2, none⟩ = some (.string a0_2) := (blk_cell BK676.out 2).trans rfl
                        have hcz34_3 : wr.cell? ⟨gb676, 3, none⟩ = some (.string a0_3) := (blk_cell BK676.out 3).trans rfl
                        have hcz34_4 : wr.cell? ⟨gb676, 4, none⟩ = some (.string a0_4) := (blk_cell BK676.out 4).trans rfl
                        have hcz34_5 : wr.cell? ⟨gb676, 5, none⟩ = some (.slice A0_5 l0_5.length c0_5) := (blk_cell BK676.out 5).trans rfl
                        have hcz34_6 : wr.cell? ⟨gb676, 6, none⟩ = some (.slice A0_6 l0_6.length c0_6) := (blk_cell BK676.out 6).trans rfl
                        have hfz34_0 := blk_frozen BK676.out 0
                        have hfz34_1 := blk_frozen BK676.out 1
                        have hfz34_2 := blk_frozen BK676.out 2
                        have hfz34_3 := blk_frozen BK676.out 3
                        have hfz34_4 := blk_frozen BK676.out 4
                        have hfz34_5 := blk_frozen BK676.out 5
                        have hfz34_6 := blk_frozen BK676.out 6
                        have p687 : 0 ≤ (x5_3 : Int) := of_decide_eq_true (by first | (with_reducible assumption) | assumption)
                        have q687 : x5_3 < (l0_0.length : Int) := of_decide_eq_true (by first | (with_reducible assumption) | assumption)
                        obtain ⟨ad687, e687, hx687_0, hx687_1, hx687_2, hx687_3⟩ := at_T85 HR0_0.out x5_3 p687 q687
                        cases e687
                        replace hx687_0 := (HB.out.cell (World.block_lt_of_cell? w _ hx687_0)).trans hx687_0
                        replace hx687_1 := (HB.out.cell (World.block_lt_of_cell? w _ hx687_1)).trans hx687_1
                        replace hx687_2 := (HB.out.cell (World.block_lt_of_cell? w _ hx687_2)).trans hx687_2
                        replace hx687_3 := (HB.out.cell (World.block_lt_of_cell? w _ hx687_3)).trans hx687_3
                        replace p687 := eq_true p687
                        replace q687 := eq_true q687
                        try go_wp2
                        have n0_ := Aside0.mk (Kd.R_drew HO_3.out)
                        have n1_ := Aside0.mk (blk_drew BK676.out)
                        have n2_ := Aside0.mk (below_drew1 HB.out)
                        clear HO_3
                        clear BK676
                        clear HB
                        have HO_3 := n0_
                        have BK676 := n1_
                        have HB := n2_
                        clear n0_ n1_ n2_
                        obtain ⟨Ao36, co36, eo36⟩ := Kd.R_slice HO_3.out
                        (first | subst eo36 | (injection eo36 with f1_ f2_ f3_; have f4_ := f1_.symm; have f5_ := f3_.symm; clear f1_ f2_ f3_; subst f4_; subst f5_))
                        refine start_ (n := 19) (S := fun w' => w'.cell? ⟨gb676, 0, none⟩ = some (.slice (some ad687) l0_0.length c0_0) ∧ w'.cell? ⟨gb676, 1, none⟩ = some (.string a0_1) ∧ w'.cell? ⟨gb676, 2, none⟩ = some (.string a0_2) ∧ w'.cell? ⟨gb676, 3, none⟩ = some (.string a0_3) ∧ w'.cell? ⟨gb676, 4, none⟩ = some (.string a0_4) ∧ w'.cell? ⟨gb676, 5, none⟩ = some (.slice A0_5 l0_5.length c0_5) ∧ w'.cell? ⟨gb676, 6, none⟩ = some (.slice A0_6 l0_6.length c0_6)) (ds := []) #[false, false, false, false, false, false, false, false, false, false, false, false, false, false, false, false, false, false, false] (by kernel_rfl) rfl rfl ⟨(blk_cell BK676.out 0).trans rfl, (blk_cell BK676.out 1).trans rfl, (blk_cell BK676.out 2).trans rfl, (blk_cell BK676.out 3).trans rfl, (blk_cell BK676.out 4).trans rfl, (blk_cell BK676.out 5).trans rfl, (blk_cell BK676.out 6).trans rfl⟩ (fun hHeld => ?_); refine with_tabW contangotop_TopPledgeMoved.tab12 contangotop_TopPledgeMoved.bits12 (fun HT_ HW_ => ?_)
                        generalize wr.drew = w35 at HO_3 BK676 HB hHeld ⊢
                        refine pure_ (i := 0) (N := some 68) (v := ?_) (a' := ?_) #[true, false, false, false, false, false, false, false, false, false, false, false, false, false, false, false, false, false, false] rfl rfl (any_of HT_.out (by kernel_rfl)) (fun _ _ _ h => h) (Or.inl ⟨by rfl, ?_⟩) ?_ ?_
                        rotate_left
                        · intro w'
                          go_simp
                          with_reducible rfl
                        rotate_left
                        · simp only [Act.put, List.setIfInBounds_toArray, List.set_cons_zero, List.set_cons_succ, i64_w, i32_w]
                          rfl
                        refine pure_ (i := 1) (N := some 69) (v := ?_) (a' := ?_) #[true, true, false, false, false, false, false, false, false, false, false, false, false, false, false, false, false, false, false] rfl rfl (any_of HT_.out (by kernel_rfl)) (fun _ _ _ h => h) (Or.inl ⟨by rfl, ?_⟩) ?_ ?_
                        rotate_left
                        · intro w'
                          go_simp
                          with_reducible rfl
                        rotate_left
                        · simp only [Act.put, List.setIfInBounds_toArray, List.set_cons_zero, List.set_cons_succ, i64_w, i32_w]
                          rfl
                        refine pure_ (i := 3) (N := some 71) (v := ?_) (a' := ?_) #[true, true, false, true, false, false, false, false, false, false, false, false, false, false, false, false, false, false, false] rfl rfl (any_of HT_.out (by kernel_rfl)) (fun _ _ _ h => h) (Or.inl ⟨by rfl, ?_⟩) ?_ ?_
                        rotate_left
                        · intro w'
                          go_simp
                          with_reducible rfl
                        rotate_left
                        · simp only [Act.put, List.setIfInBounds_toArray, List.set_cons_zero, List.set_cons_succ, i64_w, i32_w]
                          rfl
                        refine pure_ (i := 5) (N := some 73) (v := ?_) (a' := ?_) #[true, true, false, true, false, true, false, false, false, false, false, false, false, false, false, false, false, false, false] rfl rfl (any_of HT_.out (by kernel_rfl)) (fun _ _ _ h => h) (Or.inl ⟨by rfl, ?_⟩) ?_ ?_
                        rotate_left
                        · intro w'
                          go_simp
                          with_reducible rfl
                        rotate_left
                        · simp only [Act.put, List.setIfInBounds_toArray, List.set_cons_zero, List.set_cons_succ, i64_w, i32_w]
                          rfl
                        refine pure_ (i := 7) (N := some 75) (v := ?_) (a' := ?_) #[true, true, false, true, false, true, false, true, false, false, false, false, false, false, false, false, false, false, false] rfl rfl (any_of HT_.out (by kernel_rfl)) (fun _ _ _ h => h) (Or.inl ⟨by rfl, ?_⟩) ?_ ?_
                        rotate_left
                        · intro w'
                          go_simp
                          with_reducible rfl
                        rotate_left
                        · simp only [Act.put, List.setIfInBounds_toArray, List.set_cons_zero, List.set_cons_succ, i64_w, i32_w]
                          rfl
                        refine pure_ (i := 9) (N := some 77) (v := ?_) (a' := ?_) #[true, true, false, true, false, true, false, true, false, true, false, false, false, false, false, false, false, false, false] rfl rfl (any_of HT_.out (by kernel_rfl)) (fun _ _ _ h => h) (Or.inl ⟨by rfl, ?_⟩) ?_ ?_
                        rotate_left
                        · intro w'
                          go_simp
                          with_reducible rfl
                        rotate_left
                        · simp only [Act.put, List.setIfInBounds_toArray, List.set_cons_zero, List.set_cons_succ, i64_w, i32_w]
                          rfl
                        refine pure_ (i := 11) (N := some 79) (v := ?_) (a' := ?_) #[true, true, false, true, false, true, false, true, false, true, false, true, false, false, false, false, false, false, false] rfl rfl (any_of HT_.out (by kernel_rfl)) (fun _ _ _ h => h) (Or.inl ⟨by rfl, ?_⟩) ?_ ?_
                        rotate_left
                        · intro w'
                          go_simp
                          with_reducible rfl
                        rotate_left
                        · simp only [Act.put, List.setIfInBounds_toArray, List.set_cons_zero, List.set_cons_succ, i64_w, i32_w]
                          rfl
                        refine pure_ (i := 13) (N := some 81) (v := ?_) (a' := ?_) #[true, true, false, true, false, true, false, true, false, true, false, true, false, true, false, false, false, false, false] rfl rfl (any_of HT_.out (by kernel_rfl)) (fun _ _ _ h => h) (Or.inl ⟨by rfl, ?_⟩) ?_ ?_
                        rotate_left
                        · intro w'
                          go_simp
                          with_reducible rfl
                        rotate_left
                        · simp only [Act.put, List.setIfInBounds_toArray, List.set_cons_zero, List.set_cons_succ, i64_w, i32_w]
                          rfl
                        refine pure_ (i := 15) (N := some 83) (v := ?_) (a' := ?_) #[true, true, false, true, false, true, false, true, false, true, false, true, false, true, false, true, false, false, false] rfl rfl (any_of HT_.out (by kernel_rfl)) (fun _ _ _ h => h) (Or.inl ⟨by rfl, ?_⟩) ?_ ?_
                        rotate_left
                        · intro w'
                          go_simp
                          with_reducible rfl
                        rotate_left
                        · simp only [Act.put, List.setIfInBounds_toArray, List.set_cons_zero, List.set_cons_succ, i64_w, i32_w]
                          rfl
                        refine take_ (i := 2) (N := some 70) (v := ?_) (a' := ?_) #[true, true, true, true, false, true, false, true, false, true, false, true, false, true, false, true, false, false, false] rfl rfl (take_ofW HT_.out HW_.out (by kernel_rfl)) (fun _ _ _ h => h) (Or.inl ⟨by rfl, ?_⟩) hHeld ?_ ?_
                        rotate_left
                        · rintro w' ⟨s0, s1, s2, s3, s4, s5, s6⟩
                          go_simp
                          with_reducible rfl
                        rotate_left
                        · simp only [Act.put, List.setIfInBounds_toArray, List.set_cons_zero, List.set_cons_succ, i64_w, i32_w]
                          rfl
                        refine take_ (i := 6) (N := some 74) (v := ?_) (a' := ?_) #[true, true, true, true, false, true, true, true, false, true, false, true, false, true, false, true, false, false, false] rfl rfl (take_ofW HT_.out HW_.out (by kernel_rfl)) (fun _ _ _ h => h) (Or.inl ⟨by rfl, ?_⟩) hHeld ?_ ?_
                        rotate_left
                        · rintro w' ⟨s0, s1, s2, s3, s4, s5, s6⟩
                          go_simp
                          with_reducible rfl
                        rotate_left
                        · simp only [Act.put, List.setIfInBounds_toArray, List.set_cons_zero, List.set_cons_succ, i64_w, i32_w]
                          rfl
                        refine take_ (i := 8) (N := some 76) (v := ?_) (a' := ?_) #[true, true, true, true, false, true, true, true, true, true, false, true, false, true, false, true, false, false, false] rfl rfl (take_ofW HT_.out HW_.out (by kernel_rfl)) (fun _ _ _ h => h) (Or.inl ⟨by rfl, ?_⟩) hHeld ?_ ?_
                        rotate_left
                        · rintro w' ⟨s0, s1, s2, s3, s4, s5, s6⟩
                          go_simp
                          with_reducible rfl
                        rotate_left
                        · simp only [Act.put, List.setIfInBounds_toArray, List.set_cons_zero, List.set_cons_succ, i64_w, i32_w]
                          rfl
                        refine take_ (i := 12) (N := some 80) (v := ?_) (a' := ?_) #[true, true, true, true, false, true, true, true, true, true, false, true, true, true, false, true, false, false, false] rfl rfl (take_ofW HT_.out HW_.out (by kernel_rfl)) (fun _ _ _ h => h) (Or.inl ⟨by rfl, ?_⟩) hHeld ?_ ?_
                        rotate_left
                        · rintro w' ⟨s0, s1, s2, s3, s4, s5, s6⟩
                          go_simp
                          with_reducible rfl
                        rotate_left
                        · simp only [Act.put, List.setIfInBounds_toArray, List.set_cons_zero, List.set_cons_succ, i64_w, i32_w]
                          rfl
                        refine take_ (i := 14) (N := some 82) (v := ?_) (a' := ?_) #[true, true, true, true, false, true, true, true, true, true, false, true, true, true, true, true, false, false, false] rfl rfl (take_ofW HT_.out HW_.out (by kernel_rfl)) (fun _ _ _ h => h) (Or.inl ⟨by rfl, ?_⟩) hHeld ?_ ?_
                        rotate_left
                        · rintro w' ⟨s0, s1, s2, s3, s4, s5, s6⟩
                          go_simp
                          with_reducible rfl
                        rotate_left
                        · simp only [Act.put, List.setIfInBounds_toArray, List.set_cons_zero, List.set_cons_succ, i64_w, i32_w]
                          rfl
                        refine one_ (i := 4) (N := some 72) #[true, true, true, true, true, true, true, true, true, true, false, true, true, true, true, true, false, false, false] rfl rfl (one_of HT_.out (by kernel_rfl)) (by decide) (fun K hK => ?_)
                        refine goes_ Try.func45 (by kernel_rfl) rfl #[.slice Ao36 t678.length co36, .agg #[.string a0_3, .string a0_4], .string ((rd_T85 l0_0 x5_3).f1)] (by rfl) rfl rfl (by (try simp only [List.map_toArray, List.map_cons, List.map_nil]); first | done | rfl | (simp only [List.length_drop, List.length_take]; rfl)) ?_
                        with_reducible refine (pledge_Qty.calls k3 _ _ t678 a0_3 a0_4 ((rd_T85 l0_0 x5_3).f1) t688 _ ?side1 ?side2 A31.out).mono ?_
                        (case side1 => repeat (first | exact (Kd.R_reads' HO_3.out).2.2 | (with_reducible refine Kd.C_alloc ?_ _) | (with_reducible refine Kd.C_drewN ?_ _) | (with_reducible refine Kd.C_drew ?_)))
                        (case side2 => exact (Kd.R_reads' HO_3.out).2.1)
                        rintro e w37 ⟨rfl, hb⟩
                        refine ⟨_, rfl, ?_⟩
                        have n0_ := Aside0.mk (Kd.R_below (by (with_reducible repeat (first | apply Kd.R_alloc | apply Kd.R_drewN | apply Kd.R_drew)); exact HO_3.out) hb)
                        have n1_ := Aside0.mk (blk_below (g := gb676) (o := .cells #[.slice (some ad687) l0_0.length c0_0, .string a0_1, .string a0_2, .string a0_3, .string a0_4, .slice A0_5 l0_5.length c0_5, .slice A0_6 l0_6.length c0_6] 80 (0, 0)) (by (with_reducible repeat (first | refine blk_drewN ?_ _ | refine blk_drew ?_ | refine blk_alloc ?_ _)); exact BK676.out) hb)
                        have n2_ := Aside0.mk (below_step (by repeat (first | (with_reducible first | exact HB.out | apply below_alloc | apply pw_below_drewN | apply below_drew1 | refine below_set ?_ GE676.out) | exact HB.out)) hb)
                        clear HO_3
                        clear BK676
                        clear HB
                        have HO_3 := n0_
                        have BK676 := n1_
                        have HB := n2_
                        clear n0_ n1_ n2_
                        (try clear hb)
                        (try clear hb2)
                        (try clear hk)
                        (try clear hi)
                        refine hK.out _ _ ⟨(blk_cell BK676.out 0).trans rfl, (blk_cell BK676.out 1).trans rfl, (blk_cell BK676.out 2).trans rfl, (blk_cell BK676.out 3).trans rfl, (blk_cell BK676.out 4).trans rfl, (blk_cell BK676.out 5).trans rfl, (blk_cell BK676.out 6).trans rfl⟩ (fun hHeld => ?_)
                        clear hK K
                        refine norm_ (a' := ?_) ?_ ?_
                        rotate_left
                        · show Act.put _ (some 72) _ = _
                          simp only [Act.put, List.setIfInBounds_toArray, List.set_cons_zero, List.set_cons_succ, i64_w, i32_w]
                          rfl
                        refine one_ (i := 10) (N := some 78) #[true, true, true, true, true, true, true, true, true, true, true, true, true, true, true, true, false, false, false] rfl rfl (one_of HT_.out (by kernel_rfl)) (by decide) (fun K hK => ?_)
                        refine goes_ Try.func45 (by kernel_rfl) rfl #[.slice (some ad687) l0_0.length c0_0, .agg #[.string a0_1, .string a0_2], .string ((rd_T85 l0_0 x5_3).f1)] (by rfl) rfl rfl (by (try simp only [List.map_toArray, List.map_cons, List.map_nil]); first | done | rfl | (simp only [List.length_drop, List.length_take]; rfl)) ?_
                        with_reducible refine (pledge_Qty.calls k3 _ _ l0_0 a0_1 a0_2 ((rd_T85 l0_0 x5_3).f1) t689 _ ?side1 ?side2 A32.out).mono ?_
                        (case side1 => repeat (first | exact (Kd.C_below HR0_0.out HB.out) | (with_reducible refine Kd.C_alloc ?_ _) | (with_reducible refine Kd.C_drewN ?_ _) | (with_reducible refine Kd.C_drew ?_)))
                        (case side2 => exact HC0_0.out)
                        rintro e w38 ⟨rfl, hb⟩
                        refine ⟨_, rfl, ?_⟩
                        have n0_ := Aside0.mk (Kd.R_below (by (with_reducible repeat (first | apply Kd.R_alloc | apply Kd.R_drewN | apply Kd.R_drew)); exact HO_3.out) hb)
                        have n1_ := Aside0.mk (blk_below (g := gb676) (o := .cells #[.slice (some ad687) l0_0.length c0_0, .string a0_1, .string a0_2, .string a0_3, .string a0_4, .slice A0_5 l0_5.length c0_5, .slice A0_6 l0_6.length c0_6] 80 (0, 0)) (by (with_reducible repeat (first | refine blk_drewN ?_ _ | refine blk_drew ?_ | refine blk_alloc ?_ _)); exact BK676.out) hb)
                        have n2_ := Aside0.mk (below_step (by repeat (first | (with_reducible first | exact HB.out | apply below_alloc | apply pw_below_drewN | apply below_drew1 | refine below_set ?_ GE676.out) | exact HB.out)) hb)
                        clear HO_3
                        clear BK676
                        clear HB
                        have HO_3 := n0_
                        have BK676 := n1_
                        have HB := n2_
                        clear n0_ n1_ n2_
                        (try clear hb)
                        (try clear hb2)
                        (try clear hk)
                        (try clear hi)
                        refine hK.out _ _ ⟨(blk_cell BK676.out 0).trans rfl, (blk_cell BK676.out 1).trans rfl, (blk_cell BK676.out 2).trans rfl, (blk_cell BK676.out 3).trans rfl, (blk_cell BK676.out 4).trans rfl, (blk_cell BK676.out 5).trans rfl, (blk_cell BK676.out 6).trans rfl⟩ (fun hHeld => ?_)
                        clear hK K
                        refine norm_ (a' := ?_) ?_ ?_
                        rotate_left
                        · show Act.put _ (some 78) _ = _
                          simp only [Act.put, List.setIfInBounds_toArray, List.set_cons_zero, List.set_cons_succ, i64_w, i32_w]
                          rfl
                        refine one_ (i := 16) (N := some 84) #[true, true, true, true, true, true, true, true, true, true, true, true, true, true, true, true, true, false, false] rfl rfl (one_of HT_.out (by kernel_rfl)) (by decide) (fun K hK => ?_)
                        refine goes_ Try.func45 (by kernel_rfl) rfl #[.slice (some ad687) l0_0.length c0_0, .agg #[.string a0_3, .string a0_4], .string ((rd_T85 l0_0 x5_3).f1)] (by rfl) rfl rfl (by (try simp only [List.map_toArray, List.map_cons, List.map_nil]); first | done | rfl | (simp only [List.length_drop, List.length_take]; rfl)) ?_
                        with_reducible refine (pledge_Qty.calls k3 _ _ l0_0 a0_3 a0_4 ((rd_T85 l0_0 x5_3).f1) t690 _ ?side1 ?side2 A33.out).mono ?_
                        (case side1 => repeat (first | exact (Kd.C_below HR0_0.out HB.out) | (with_reducible refine Kd.C_alloc ?_ _) | (with_reducible refine Kd.C_drewN ?_ _) | (with_reducible refine Kd.C_drew ?_)))
                        (case side2 => exact HC0_0.out)
                        rintro e w39 ⟨rfl, hb⟩
                        refine ⟨_, rfl, ?_⟩
                        have n0_ := Aside0.mk (Kd.R_below (by (with_reducible repeat (first | apply Kd.R_alloc | apply Kd.R_drewN | apply Kd.R_drew)); exact HO_3.out) hb)
                        have n1_ := Aside0.mk (blk_below (g := gb676) (o := .cells #[.slice (some ad687) l0_0.length c0_0, .string a0_1, .string a0_2, .string a0_3, .string a0_4, .slice A0_5 l0_5.length c0_5, .slice A0_6 l0_6.length c0_6] 80 (0, 0)) (by (with_reducible repeat (first | refine blk_drewN ?_ _ | refine blk_drew ?_ | refine blk_alloc ?_ _)); exact BK676.out) hb)
                        have n2_ := Aside0.mk (below_step (by repeat (first | (with_reducible first | exact HB.out | apply below_alloc | apply pw_below_drewN | apply below_drew1 | refine below_set ?_ GE676.out) | exact HB.out)) hb)
                        clear HO_3
                        clear BK676
                        clear HB
                        have HO_3 := n0_
                        have BK676 := n1_
                        have HB := n2_
                        clear n0_ n1_ n2_
                        (try clear hb)
                        (try clear hb2)
                        (try clear hk)
                        (try clear hi)
                        refine hK.out _ _ ⟨(blk_cell BK676.out 0).trans rfl, (blk_cell BK676.out 1).trans rfl, (blk_cell BK676.out 2).trans rfl, (blk_cell BK676.out 3).trans rfl, (blk_cell BK676.out 4).trans rfl, (blk_cell BK676.out 5).trans rfl, (blk_cell BK676.out 6).trans rfl⟩ (fun hHeld => ?_)
                        clear hK K
                        refine norm_ (a' := ?_) ?_ ?_
                        rotate_left
                        · show Act.put _ (some 84) _ = _
                          simp only [Act.put, List.setIfInBounds_toArray, List.set_cons_zero, List.set_cons_succ, i64_w, i32_w]
                          rfl
                        refine pure_ (i := 17) (N := some 85) (v := ?_) (a' := ?_) #[true, true, true, true, true, true, true, true, true, true, true, true, true, true, true, true, true, true, false] rfl rfl (any_of HT_.out (by kernel_rfl)) (fun _ _ _ h => h) (Or.inl ⟨by rfl, ?_⟩) ?_ ?_
                        rotate_left
                        · intro w'
                          go_simp
                          with_reducible rfl
                        rotate_left
                        · simp only [Act.put, List.setIfInBounds_toArray, List.set_cons_zero, List.set_cons_succ, i64_w, i32_w]
                          rfl
                        refine pure_ (i := 18) (N := some 86) (v := ?_) (a' := ?_) #[true, true, true, true, true, true, true, true, true, true, true, true, true, true, true, true, true, true, true] rfl rfl (any_of HT_.out (by kernel_rfl)) (fun _ _ _ h => h) (Or.inl ⟨by rfl, ?_⟩) ?_ ?_
                        rotate_left
                        · intro w'
                          go_simp
                          with_reducible rfl
                        rotate_left
                        · simp only [Act.put, List.setIfInBounds_toArray, List.set_cons_zero, List.set_cons_succ, i64_w, i32_w]
                          rfl
                        refine done_ (done_of HT_.out (by kernel_rfl)) ?_
                        go_upto_if 86 with (fail)
                        by_cases c40 : t688 = (wrap64 (t689 + t690))
                        · rw [if_pos c40] at H
                          have c40b0 : (t688 == (wrap64 (t689 + t690))) = true := beq_iff_eq.mpr c40
                          have c40b1 : (t688 != (wrap64 (t689 + t690))) = false := bne_eq_false_iff_eq.mpr c40
                          clear c40
                          (try simp only [c40b0, c40b1])
                          have H' := Aside0.mk H
                          clear H
                          go_wp2
                          go_roundg k3
                          case measure => have := HJ1.out; have := HJ13.out; have := HK3.out; omega
                          case rel => exact ⟨(wrap64 (x5_3 + 1)), (by first | rfl | (simp; done) | (simp [*]; done)), H', ⟨by have := HJ1.out; have := HJ13.out; have := HK3.out; omega⟩, ⟨by (with_reducible repeat (first | apply Kd.R_alloc | apply Kd.R_drewN | apply Kd.R_drew)); exact HO_3.out⟩, ⟨by (with_reducible repeat (first | refine blk_drewN ?_ _ | refine blk_drew ?_ | refine blk_alloc ?_ _)); exact BK676.out⟩, ⟨by repeat (first | (with_reducible first | exact HB.out | apply below_alloc | apply pw_below_drewN | apply below_drew1 | refine below_set ?_ GE676.out) | exact HB.out)⟩⟩
                        · rw [if_neg c40] at H
                          have c40b0 : (t688 == (wrap64 (t689 + t690))) = false := beq_eq_false_iff_ne.mpr c40
                          have c40b1 : (t688 != (wrap64 (t689 + t690))) = true := bne_iff_ne.mpr c40
                          (try simp only [c40b0, c40b1])
                          obtain rfl := Option.some.inj H
                          go_wp2
                          go_ret
                          exact ⟨by first | rfl | (simp [errW_none, errW_some] <;> rfl) | (simp [*, errW_none, errW_some] <;> rfl), by repeat (first | (with_reducible first | exact HB.out | apply below_alloc | apply pw_below_drewN | apply below_drew1 | refine below_set ?_ GE676.out) | exact HB.out)⟩
                      · rw [if_neg c30] at H
                        exact absurd H (by simp)
                    · rw [if_neg c29] at H
                      have c29b0 : decide (x5_3 < (l0_0.length : Int)) = false := decide_eq_false c29
                      clear c29
                      (try simp only [c29b0])
                      replace H := Option.bind_eq_some_iff.mp H
                      obtain ⟨⟨t691, t692⟩, A410, H⟩ := H
                      replace H : ((pledge_Worth.f k3 l0_0 a0_3 a0_4 l0_5 l0_6).bind fun bt693 => ((pledge_Worth.f k3 t678 a0_3 a0_4 l0_5 l0_6).bind fun bt695 => ((cents_Add.f t691 bt693.1).bind fun bt697 => (if t692 = 0 then (if bt693.2 = 0 then (if bt695.2 = 0 then (if bt697.2 = 0 then (if bt695.1 ≥ bt697.1 then ((contangotop_goes16.f k3).bind fun t699 => (some t699)) else (some false)) else ((contangotop_goes16.f k3).bind fun t700 => (some t700))) else ((contangotop_goes16.f k3).bind fun t701 => (some t701))) else ((contangotop_goes16.f k3).bind fun t702 => (some t702))) else ((contangotop_goes16.f k3).bind fun t703 => (some t703)))))) = some r := H
                      have A41 := Aside0.mk A410
                      clear A410
                      replace H := Option.bind_eq_some_iff.mp H
                      obtain ⟨⟨t693, t694⟩, A420, H⟩ := H
                      replace H : ((pledge_Worth.f k3 t678 a0_3 a0_4 l0_5 l0_6).bind fun bt695 => ((cents_Add.f t691 t693).bind fun bt697 => (if t692 = 0 then (if t694 = 0 then (if bt695.2 = 0 then (if bt697.2 = 0 then (if bt695.1 ≥ bt697.1 then ((contangotop_goes16.f k3).bind fun t699 => (some t699)) else (some false)) else ((contangotop_goes16.f k3).bind fun t700 => (some t700))) else ((contangotop_goes16.f k3).bind fun t701 => (some t701))) else ((contangotop_goes16.f k3).bind fun t702 => (some t702))) else ((contangotop_goes16.f k3).bind fun t703 => (some t703))))) = some r := H
                      have A42 := Aside0.mk A420
                      clear A420
                      replace H := Option.bind_eq_some_iff.mp H
                      obtain ⟨⟨t695, t696⟩, A430, H⟩ := H
                      replace H : ((cents_Add.f t691 t693).bind fun bt697 => (if t692 = 0 then (if t694 = 0 then (if t696 = 0 then (if bt697.2 = 0 then (if t695 ≥ bt697.1 then ((contangotop_goes16.f k3).bind fun t699 => (some t699)) else (some false)) else ((contangotop_goes16.f k3).bind fun t700 => (some t700))) else ((contangotop_goes16.f k3).bind fun t701 => (some t701))) else ((contangotop_goes16.f k3).bind fun t702 => (some t702))) else ((contangotop_goes16.f k3).bind fun t703 => (some t703)))) = some r := H
                      have A43 := Aside0.mk A430
                      clear A430
                      replace H := Option.bind_eq_some_iff.mp H
                      obtain ⟨⟨t697, t698⟩, A440, H⟩ := H
                      replace H : (if t692 = 0 then (if t694 = 0 then (if t696 = 0 then (if t698 = 0 then (if t695 ≥ t697 then ((contangotop_goes16.f k3).bind fun t699 => (some t699)) else (some false)) else ((contangotop_goes16.f k3).bind fun t700 => (some t700))) else ((contangotop_goes16.f k3).bind fun t701 => (some t701))) else ((contangotop_goes16.f k3).bind fun t702 => (some t702))) else ((contangotop_goes16.f k3).bind fun t703 => (some t703))) = some r := H
                      have A44 := Aside0.mk A440
                      clear A440
                      have hcz45_0 : wr.cell? ⟨gb676, 0, none⟩ = some (.slice A0_0 l0_0.length c0_0) := (blk_cell BK676.out 0).trans rfl
                      have hcz45_1 : wr.cell? ⟨gb676, 1, none⟩ = some (.string a0_1) := (blk_cell BK676.out 1).trans rfl
                      have hcz45_2 : wr.cell? ⟨gb676, 2, none⟩ = some (.string a0_2) := (blk_cell BK676.out 2).trans rfl
                      have hcz45_3 : wr.cell? ⟨gb676, 3, none⟩ = some (.string a0_3) := (blk_cell BK676.out 3).trans rfl
                      have hcz45_4 : wr.cell? ⟨gb676, 4, none⟩ = some (.string a0_4) := (blk_cell BK676.out 4).trans rfl
                      have hcz45_5 : wr.cell? ⟨gb676, 5, none⟩ = some (.slice A0_5 l0_5.length c0_5) := (blk_cell BK676.out 5).trans rfl
                      have hcz45_6 : wr.cell? ⟨gb676, 6, none⟩ = some (.slice A0_6 l0_6.length c0_6) := (blk_cell BK676.out 6).trans rfl
                      have hfz45_0 := blk_frozen BK676.out 0
                      have hfz45_1 := blk_frozen BK676.out 1
                      have hfz45_2 := blk_frozen BK676.out 2
                      have hfz45_3 := blk_frozen BK676.out 3
                      have hfz45_4 := blk_frozen BK676.out 4
                      have hfz45_5 := blk_frozen BK676.out 5
                      have hfz45_6 := blk_frozen BK676.out 6
                      go_upto_region 18 with (first | ((with_reducible refine gate_callee (f := 40) rfl ?_); refine goesL_ (some 96) rfl rfl Try.func40 (by kernel_rfl) rfl #[.slice A0_0 l0_0.length c0_0, .agg #[.string a0_1, .string a0_2], .slice A0_5 l0_5.length c0_5, .slice A0_6 l0_6.length c0_6] rfl (by (try simp only [List.map_toArray, List.map_cons, List.map_nil]); first | done | rfl | (simp only [List.length_drop, List.length_take]; rfl)) ?_; (with_reducible refine (pledge_Worth.calls k3 _ _ l0_0 a0_1 a0_2 _ _ l0_5 _ _ l0_6 t691 t692 _ ?side1 ?side2 ?side3 ?side4 ?side5 ?side6 A41.out).mono ?_); (case side1 => repeat (first | exact (Kd.C_below HR0_0.out HB.out) | (with_reducible refine Kd.C_alloc ?_ _) | (with_reducible refine Kd.C_drewN ?_ _) | (with_reducible refine Kd.C_drew ?_))); (case side2 => exact HC0_0.out); (case side3 => repeat (first | exact (Kd.C_below HR0_5.out HB.out) | (with_reducible refine Kd.C_alloc ?_ _) | (with_reducible refine Kd.C_drewN ?_ _) | (with_reducible refine Kd.C_drew ?_))); (case side4 => exact HC0_5.out); (case side5 => repeat (first | exact (Kd.C_below HR0_6.out HB.out) | (with_reducible refine Kd.C_alloc ?_ _) | (with_reducible refine Kd.C_drewN ?_ _) | (with_reducible refine Kd.C_drew ?_))); (case side6 => exact HC0_6.out); rintro e w46 ⟨rfl, hb⟩; refine ⟨_, rfl, ?_⟩; have n0_ := Aside0.mk (Kd.R_below (by (with_reducible repeat (first | apply Kd.R_alloc | apply Kd.R_drewN | apply Kd.R_drew)); exact HO_3.out) hb); have n1_ := Aside0.mk (blk_below (g := gb676) (o := .cells #[.slice A0_0 l0_0.length c0_0, .string a0_1, .string a0_2, .string a0_3, .string a0_4, .slice A0_5 l0_5.length c0_5, .slice A0_6 l0_6.length c0_6] 80 (0, 0)) (by (with_reducible repeat (first | refine blk_drewN ?_ _ | refine blk_drew ?_ | refine blk_alloc ?_ _)); exact BK676.out) hb); have n2_ := Aside0.mk (below_step (by repeat (first | (with_reducible first | exact HB.out | apply below_alloc | apply pw_below_drewN | apply below_drew1 | refine below_set ?_ GE676.out) | exact HB.out)) hb); clear HO_3; clear BK676; clear HB; have HO_3 := n0_; have BK676 := n1_; have HB := n2_; clear n0_ n1_ n2_; (try clear hb); (try clear hb2); (try clear hk); (try clear hi); have hcz47_0 : w46.cell? ⟨gb676, 0, none⟩ = some (.slice A0_0 l0_0.length c0_0) := (blk_cell BK676.out 0).trans rfl; have hcz47_1 : w46.cell? ⟨gb676, 1, none⟩ = some (.string a0_1) := (blk_cell BK676.out 1).trans rfl; have hcz47_2 : w46.cell? ⟨gb676, 2, none⟩ = some (.string a0_2) := (blk_cell BK676.out 2).trans rfl; have hcz47_3 : w46.cell? ⟨gb676, 3, none⟩ = some (.string a0_3) := (blk_cell BK676.out 3).trans rfl; have hcz47_4 : w46.cell? ⟨gb676, 4, none⟩ = some (.string a0_4) := (blk_cell BK676.out 4).trans rfl; have hcz47_5 : w46.cell? ⟨gb676, 5, none⟩ = some (.slice A0_5 l0_5.length c0_5) := (blk_cell BK676.out 5).trans rfl; have hcz47_6 : w46.cell? ⟨gb676, 6, none⟩ = some (.slice A0_6 l0_6.length c0_6) := (blk_cell BK676.out 6).trans rfl; have hfz47_0 := blk_frozen BK676.out 0; have hfz47_1 := blk_frozen BK676.out 1; have hfz47_2 := blk_frozen BK676.out 2; have hfz47_3 := blk_frozen BK676.out 3; have hfz47_4 := blk_frozen BK676.out 4; have hfz47_5 := blk_frozen BK676.out 5; have hfz47_6 := blk_frozen BK676.out 6) | ((with_reducible refine gate_callee (f := 40) rfl ?_); refine goesL_ (some 108) rfl rfl Try.func40 (by kernel_rfl) rfl #[.slice A0_0 l0_0.length c0_0, .agg #[.string a0_3, .string a0_4], .slice A0_5 l0_5.length c0_5, .slice A0_6 l0_6.length c0_6] rfl (by (try simp only [List.map_toArray, List.map_cons, List.map_nil]); first | done | rfl | (simp only [List.length_drop, List.length_take]; rfl)) ?_; (with_reducible refine (pledge_Worth.calls k3 _ _ l0_0 a0_3 a0_4 _ _ l0_5 _ _ l0_6 t693 t694 _ ?side1 ?side2 ?side3 ?side4 ?side5 ?side6 A42.out).mono ?_); (case side1 => repeat (first | exact (Kd.C_below HR0_0.out HB.out) | (with_reducible refine Kd.C_alloc ?_ _) | (with_reducible refine Kd.C_drewN ?_ _) | (with_reducible refine Kd.C_drew ?_))); (case side2 => exact HC0_0.out); (case side3 => repeat (first | exact (Kd.C_below HR0_5.out HB.out) | (with_reducible refine Kd.C_alloc ?_ _) | (with_reducible refine Kd.C_drewN ?_ _) | (with_reducible refine Kd.C_drew ?_))); (case side4 => exact HC0_5.out); (case side5 => repeat (first | exact (Kd.C_below HR0_6.out HB.out) | (with_reducible refine Kd.C_alloc ?_ _) | (with_reducible refine Kd.C_drewN ?_ _) | (with_reducible refine Kd.C_drew ?_))); (case side6 => exact HC0_6.out); rintro e w48 ⟨rfl, hb⟩; refine ⟨_, rfl, ?_⟩; have n0_ := Aside0.mk (Kd.R_below (by (with_reducible repeat (first | apply Kd.R_alloc | apply Kd.R_drewN | apply Kd.R_drew)); exact HO_3.out) hb); have n1_ := Aside0.mk (blk_below (g := gb676) (o := .cells #[.slice A0_0 l0_0.length c0_0, .string a0_1, .string a0_2, .string a0_3, .string a0_4, .slice A0_5 l0_5.length c0_5, .slice A0_6 l0_6.length c0_6] 80 (0, 0)) (by (with_reducible repeat (first | refine blk_drewN ?_ _ | refine blk_drew ?_ | refine blk_alloc ?_ _)); exact BK676.out) hb); have n2_ := Aside0.mk (below_step (by repeat (first | (with_reducible first | exact HB.out | apply below_alloc | apply pw_below_drewN | apply below_drew1 | refine below_set ?_ GE676.out) | exact HB.out)) hb); clear HO_3; clear BK676; clear HB; have HO_3 := n0_; have BK676 := n1_; have HB := n2_; clear n0_ n1_ n2_; (try clear hb); (try clear hb2); (try clear hk); (try clear hi); have hcz49_0 : w48.cell? ⟨gb676, 0, none⟩ = some (.slice A0_0 l0_0.length c0_0) := (blk_cell BK676.out 0).trans rfl; have hcz49_1 : w48.cell? ⟨gb676, 1, none⟩ = some (.string a0_1) := (blk_cell BK676.out 1).trans rfl; have hcz49_2 : w48.cell? ⟨gb676, 2, none⟩ = some (.string a0_2) := (blk_cell BK676.out 2).trans rfl; have hcz49_3 : w48.cell? ⟨gb676, 3, none⟩ = some (.string a0_3) := (blk_cell BK676.out 3).trans rfl; have hcz49_4 : w48.cell? ⟨gb676, 4, none⟩ = some (.string a0_4) := (blk_cell BK676.out 4).trans rfl; have hcz49_5 : w48.cell? ⟨gb676, 5, none⟩ = some (.slice A0_5 l0_5.length c0_5) := (blk_cell BK676.out 5).trans rfl; have hcz49_6 : w48.cell? ⟨gb676, 6, none⟩ = some (.slice A0_6 l0_6.length c0_6) := (blk_cell BK676.out 6).trans rfl; have hfz49_0 := blk_frozen BK676.out 0; have hfz49_1 := blk_frozen BK676.out 1; have hfz49_2 := blk_frozen BK676.out 2; have hfz49_3 := blk_frozen BK676.out 3; have hfz49_4 := blk_frozen BK676.out 4; have hfz49_5 := blk_frozen BK676.out 5; have hfz49_6 := blk_frozen BK676.out 6; obtain ⟨Ao50, co50, eo50⟩ := Kd.R_slice HO_3.out; subst eo50) | ((with_reducible refine gate_callee (f := 40) rfl ?_); refine goesL_ (some 119) rfl rfl Try.func40 (by kernel_rfl) rfl #[.slice Ao50 t678.length co50, .agg #[.string a0_3, .string a0_4], .slice A0_5 l0_5.length c0_5, .slice A0_6 l0_6.length c0_6] rfl (by (try simp only [List.map_toArray, List.map_cons, List.map_nil]); first | done | rfl | (simp only [List.length_drop, List.length_take]; rfl)) ?_; (with_reducible refine (pledge_Worth.calls k3 _ _ t678 a0_3 a0_4 _ _ l0_5 _ _ l0_6 t695 t696 _ ?side1 ?side2 ?side3 ?side4 ?side5 ?side6 A43.out).mono ?_); (case side1 => repeat (first | exact (Kd.R_reads' HO_3.out).2.2 | (with_reducible refine Kd.C_alloc ?_ _) | (with_reducible refine Kd.C_drewN ?_ _) | (with_reducible refine Kd.C_drew ?_))); (case side2 => exact (Kd.R_reads' HO_3.out).2.1); (case side3 => repeat (first | exact (Kd.C_below HR0_5.out HB.out) | (with_reducible refine Kd.C_alloc ?_ _) | (with_reducible refine Kd.C_drewN ?_ _) | (with_reducible refine Kd.C_drew ?_))); (case side4 => exact HC0_5.out); (case side5 => repeat (first | exact (Kd.C_below HR0_6.out HB.out) | (with_reducible refine Kd.C_alloc ?_ _) | (with_reducible refine Kd.C_drewN ?_ _) | (with_reducible refine Kd.C_drew ?_))); (case side6 => exact HC0_6.out); rintro e w51 ⟨rfl, hb⟩; refine ⟨_, rfl, ?_⟩; have n0_ := Aside0.mk (Kd.R_below (by (with_reducible repeat (first | apply Kd.R_alloc | apply Kd.R_drewN | apply Kd.R_drew)); exact HO_3.out) hb); have n1_ := Aside0.mk (blk_below (g := gb676) (o := .cells #[.slice A0_0 l0_0.length c0_0, .string a0_1, .string a0_2, .string a0_3, .string a0_4, .slice A0_5 l0_5.length c0_5, .slice A0_6 l0_6.length c0_6] 80 (0, 0)) (by (with_reducible repeat (first | refine blk_drewN ?_ _ | refine blk_drew ?_ | refine blk_alloc ?_ _)); exact BK676.out) hb); have n2_ := Aside0.mk (below_step (by repeat (first | (with_reducible first | exact HB.out | apply below_alloc | apply pw_below_drewN | apply below_drew1 | refine below_set ?_ GE676.out) | exact HB.out)) hb); clear HO_3; clear BK676; clear HB; have HO_3 := n0_; have BK676 := n1_; have HB := n2_; clear n0_ n1_ n2_; (try clear hb); (try clear hb2); (try clear hk); (try clear hi)) | ((with_reducible refine gate_callee (f := 49) rfl ?_); refine goesL_ (some 125) rfl rfl Try.func49 (by kernel_rfl) rfl #[.int .i64 t691, .int .i64 t693] rfl (by (try simp only [List.map_toArray, List.map_cons, List.map_nil]); first | done | rfl | (simp only [List.length_drop, List.length_take]; rfl)) ?_; (with_reducible refine (cents_Add.calls t691 t693 t697 t698 _ A44.out).mono ?_); rintro e w' ⟨rfl, ⟨nd, rfl⟩⟩; refine ⟨_, rfl, ?_⟩))
                      (try simp only [Act.put, List.setIfInBounds_toArray, List.set_cons_zero, List.set_cons_succ])
                      by_cases c52 : t692 = 0
                      · rw [if_pos c52] at H
                        have c52b0 : (t692 == 0) = true := beq_iff_eq.mpr c52
                        have c52b1 : (t692 != 0) = false := bne_eq_false_iff_eq.mpr c52
                        clear c52
                        (try simp only [c52b0, c52b1])
                        by_cases c53 : t694 = 0
                        · rw [if_pos c53] at H
                          have c53b0 : (t694 == 0) = true := beq_iff_eq.mpr c53
                          have c53b1 : (t694 != 0) = false := bne_eq_false_iff_eq.mpr c53
                          clear c53
                          by_cases c54 : t696 = 0
                          · rw [if_pos c54] at H
                            have c54b0 : (t696 == 0) = true := beq_iff_eq.mpr c54
                            have c54b1 : (t696 != 0) = false := bne_eq_false_iff_eq.mpr c54
                            clear c54
                            by_cases c55 : t698 = 0
                            · rw [if_pos c55] at H
                              have c55b0 : (t698 == 0) = true := beq_iff_eq.mpr c55
                              have c55b1 : (t698 != 0) = false := bne_eq_false_iff_eq.mpr c55
                              clear c55
                              by_cases c56 : t695 ≥ t697
                              · rw [if_pos c56] at H
                                have c56b0 : decide (t697 ≤ t695) = true := decide_eq_true c56
                                clear c56
                                replace H := Option.bind_eq_some_iff.mp H
                                obtain ⟨t699, A570, H⟩ := H
                                replace H : (some t699) = some r := H
                                have A57 := Aside0.mk A570
                                clear A570
                                obtain rfl := Option.some.inj H
                                go_wp2_with (first | (go_at_call 42; (with_reducible refine (contangotop_goes16.calls k3  t699 _ A57.out).mono ?_); rintro e w58 ⟨rfl, hb⟩; have n0_ := Aside0.mk (Kd.R_below (by (with_reducible repeat (first | apply Kd.R_alloc | apply Kd.R_drewN | apply Kd.R_drew)); exact HO_3.out) hb); have n1_ := Aside0.mk (blk_below (g := gb676) (o := .cells #[.slice A0_0 l0_0.length c0_0, .string a0_1, .string a0_2, .string a0_3, .string a0_4, .slice A0_5 l0_5.length c0_5, .slice A0_6 l0_6.length c0_6] 80 (0, 0)) (by (with_reducible repeat (first | refine blk_drewN ?_ _ | refine blk_drew ?_ | refine blk_alloc ?_ _)); exact BK676.out) hb); have n2_ := Aside0.mk (below_step (by repeat (first | (with_reducible first | exact HB.out | apply below_alloc | apply pw_below_drewN | apply below_drew1 | refine below_set ?_ GE676.out) | exact HB.out)) hb); clear HO_3; clear BK676; clear HB; have HO_3 := n0_; have BK676 := n1_; have HB := n2_; clear n0_ n1_ n2_; (try clear hb); (try clear hb2); (try clear hk); (try clear hi)))
                                go_ret
                                exact ⟨by first | rfl | (simp [errW_none, errW_some] <;> rfl) | (simp [*, errW_none, errW_some] <;> rfl), by repeat (first | (with_reducible first | exact HB.out | apply below_alloc | apply pw_below_drewN | apply below_drew1 | refine below_set ?_ GE676.out) | exact HB.out)⟩
                              · rw [if_neg c56] at H
                                have c56b0 : decide (t697 ≤ t695) = false := decide_eq_false c56
                                clear c56
                                obtain rfl := Option.some.inj H
                                go_wp2
                                go_ret
                                exact ⟨by first | rfl | (simp [errW_none, errW_some] <;> rfl) | (simp [*, errW_none, errW_some] <;> rfl), by repeat (first | (with_reducible first | exact HB.out | apply below_alloc | apply pw_below_drewN | apply below_drew1 | refine below_set ?_ GE676.out) | exact HB.out)⟩
                            · rw [if_neg c55] at H
                              have c55b0 : (t698 == 0) = false := beq_eq_false_iff_ne.mpr c55
                              have c55b1 : (t698 != 0) = true := bne_iff_ne.mpr c55
                              replace H := Option.bind_eq_some_iff.mp H
                              obtain ⟨t700, A590, H⟩ := H
                              replace H : (some t700) = some r := H
                              have A59 := Aside0.mk A590
                              clear A590
                              obtain rfl := Option.some.inj H
                              go_wp2_with (first | (go_at_call 42; (with_reducible refine (contangotop_goes16.calls k3  t700 _ A59.out).mono ?_); rintro e w60 ⟨rfl, hb⟩; have n0_ := Aside0.mk (Kd.R_below (by (with_reducible repeat (first | apply Kd.R_alloc | apply Kd.R_drewN | apply Kd.R_drew)); exact HO_3.out) hb); have n1_ := Aside0.mk (blk_below (g := gb676) (o := .cells #[.slice A0_0 l0_0.length c0_0, .string a0_1, .string a0_2, .string a0_3, .string a0_4, .slice A0_5 l0_5.length c0_5, .slice A0_6 l0_6.length c0_6] 80 (0, 0)) (by (with_reducible repeat (first | refine blk_drewN ?_ _ | refine blk_drew ?_ | refine blk_alloc ?_ _)); exact BK676.out) hb); have n2_ := Aside0.mk (below_step (by repeat (first | (with_reducible first | exact HB.out | apply below_alloc | apply pw_below_drewN | apply below_drew1 | refine below_set ?_ GE676.out) | exact HB.out)) hb); clear HO_3; clear BK676; clear HB; have HO_3 := n0_; have BK676 := n1_; have HB := n2_; clear n0_ n1_ n2_; (try clear hb); (try clear hb2); (try clear hk); (try clear hi)))
                              go_ret
                              exact ⟨by first | rfl | (simp [errW_none, errW_some] <;> rfl) | (simp [*, errW_none, errW_some] <;> rfl), by repeat (first | (with_reducible first | exact HB.out | apply below_alloc | apply pw_below_drewN | apply below_drew1 | refine below_set ?_ GE676.out) | exact HB.out)⟩
                          · rw [if_neg c54] at H
                            have c54b0 : (t696 == 0) = false := beq_eq_false_iff_ne.mpr c54
                            have c54b1 : (t696 != 0) = true := bne_iff_ne.mpr c54
                            replace H := Option.bind_eq_some_iff.mp H
                            obtain ⟨t701, A610, H⟩ := H
                            replace H : (some t701) = some r := H
                            have A61 := Aside0.mk A610
                            clear A610
                            obtain rfl := Option.some.inj H
                            go_wp2_with (first | (go_at_call 42; (with_reducible refine (contangotop_goes16.calls k3  t701 _ A61.out).mono ?_); rintro e w62 ⟨rfl, hb⟩; have n0_ := Aside0.mk (Kd.R_below (by (with_reducible repeat (first | apply Kd.R_alloc | apply Kd.R_drewN | apply Kd.R_drew)); exact HO_3.out) hb); have n1_ := Aside0.mk (blk_below (g := gb676) (o := .cells #[.slice A0_0 l0_0.length c0_0, .string a0_1, .string a0_2, .string a0_3, .string a0_4, .slice A0_5 l0_5.length c0_5, .slice A0_6 l0_6.length c0_6] 80 (0, 0)) (by (with_reducible repeat (first | refine blk_drewN ?_ _ | refine blk_drew ?_ | refine blk_alloc ?_ _)); exact BK676.out) hb); have n2_ := Aside0.mk (below_step (by repeat (first | (with_reducible first | exact HB.out | apply below_alloc | apply pw_below_drewN | apply below_drew1 | refine below_set ?_ GE676.out) | exact HB.out)) hb); clear HO_3; clear BK676; clear HB; have HO_3 := n0_; have BK676 := n1_; have HB := n2_; clear n0_ n1_ n2_; (try clear hb); (try clear hb2); (try clear hk); (try clear hi)))
                            go_ret
                            exact ⟨by first | rfl | (simp [errW_none, errW_some] <;> rfl) | (simp [*, errW_none, errW_some] <;> rfl), by repeat (first | (with_reducible first | exact HB.out | apply below_alloc | apply pw_below_drewN | apply below_drew1 | refine below_set ?_ GE676.out) | exact HB.out)⟩
                        · rw [if_neg c53] at H
                          have c53b0 : (t694 == 0) = false := beq_eq_false_iff_ne.mpr c53
                          have c53b1 : (t694 != 0) = true := bne_iff_ne.mpr c53
                          replace H := Option.bind_eq_some_iff.mp H
                          obtain ⟨t702, A630, H⟩ := H
                          replace H : (some t702) = some r := H
                          have A63 := Aside0.mk A630
                          clear A630
                          obtain rfl := Option.some.inj H
                          go_wp2_with (first | (go_at_call 42; (with_reducible refine (contangotop_goes16.calls k3  t702 _ A63.out).mono ?_); rintro e w64 ⟨rfl, hb⟩; have n0_ := Aside0.mk (Kd.R_below (by (with_reducible repeat (first | apply Kd.R_alloc | apply Kd.R_drewN | apply Kd.R_drew)); exact HO_3.out) hb); have n1_ := Aside0.mk (blk_below (g := gb676) (o := .cells #[.slice A0_0 l0_0.length c0_0, .string a0_1, .string a0_2, .string a0_3, .string a0_4, .slice A0_5 l0_5.length c0_5, .slice A0_6 l0_6.length c0_6] 80 (0, 0)) (by (with_reducible repeat (first | refine blk_drewN ?_ _ | refine blk_drew ?_ | refine blk_alloc ?_ _)); exact BK676.out) hb); have n2_ := Aside0.mk (below_step (by repeat (first | (with_reducible first | exact HB.out | apply below_alloc | apply pw_below_drewN | apply below_drew1 | refine below_set ?_ GE676.out) | exact HB.out)) hb); clear HO_3; clear BK676; clear HB; have HO_3 := n0_; have BK676 := n1_; have HB := n2_; clear n0_ n1_ n2_; (try clear hb); (try clear hb2); (try clear hk); (try clear hi)))
                          go_ret
                          exact ⟨by first | rfl | (simp [errW_none, errW_some] <;> rfl) | (simp [*, errW_none, errW_some] <;> rfl), by repeat (first | (with_reducible first | exact HB.out | apply below_alloc | apply pw_below_drewN | apply below_drew1 | refine below_set ?_ GE676.out) | exact HB.out)⟩
                      · rw [if_neg c52] at H
                        have c52b0 : (t692 == 0) = false := beq_eq_false_iff_ne.mpr c52
                        have c52b1 : (t692 != 0) = true := bne_iff_ne.mpr c52
                        (try simp only [c52b0, c52b1])
                        replace H := Option.bind_eq_some_iff.mp H
                        obtain ⟨t703, A650, H⟩ := H
                        replace H : (some t703) = some r := H
                        have A65 := Aside0.mk A650
                        clear A650
                        obtain rfl := Option.some.inj H
                        go_wp2_with (first | (go_at_call 42; (with_reducible refine (contangotop_goes16.calls k3  t703 _ A65.out).mono ?_); rintro e w66 ⟨rfl, hb⟩; have n0_ := Aside0.mk (Kd.R_below (by (with_reducible repeat (first | apply Kd.R_alloc | apply Kd.R_drewN | apply Kd.R_drew)); exact HO_3.out) hb); have n1_ := Aside0.mk (blk_below (g := gb676) (o := .cells #[.slice A0_0 l0_0.length c0_0, .string a0_1, .string a0_2, .string a0_3, .string a0_4, .slice A0_5 l0_5.length c0_5, .slice A0_6 l0_6.length c0_6] 80 (0, 0)) (by (with_reducible repeat (first | refine blk_drewN ?_ _ | refine blk_drew ?_ | refine blk_alloc ?_ _)); exact BK676.out) hb); have n2_ := Aside0.mk (below_step (by repeat (first | (with_reducible first | exact HB.out | apply below_alloc | apply pw_below_drewN | apply below_drew1 | refine below_set ?_ GE676.out) | exact HB.out)) hb); clear HO_3; clear BK676; clear HB; have HO_3 := n0_; have BK676 := n1_; have HB := n2_; clear n0_ n1_ n2_; (try clear hb); (try clear hb2); (try clear hk); (try clear hi)))
                        go_ret
                        exact ⟨by first | rfl | (simp [errW_none, errW_some] <;> rfl) | (simp [*, errW_none, errW_some] <;> rfl), by repeat (first | (with_reducible first | exact HB.out | apply below_alloc | apply pw_below_drewN | apply below_drew1 | refine below_set ?_ GE676.out) | exact HB.out)⟩
        · rw [if_neg c13] at H
          have c13b0 : (t681 == 0) = false := beq_eq_false_iff_ne.mpr c13
          have c13b1 : (t681 != 0) = true := bne_iff_ne.mpr c13
          (try simp only [c13b0, c13b1])
          by_cases c67 : (t678.length : Int) = 0
          · rw [if_pos c67] at H
            have c67b0 : ((t678.length : Int) == 0) = true := beq_iff_eq.mpr c67
            have c67b1 : ((t678.length : Int) != 0) = false := bne_eq_false_iff_eq.mpr c67
            clear c67
            replace H := Option.bind_eq_some_iff.mp H
            obtain ⟨t682, A680, H⟩ := H
            replace H : (some t682) = some r := H
            have A68 := Aside0.mk A680
            clear A680
            obtain rfl := Option.some.inj H
            obtain ⟨Ao69, co69, eo69⟩ := Kd.R_slice HO680.out
            subst eo69
            go_wp2_with (first | (go_at_call 42; (with_reducible refine (contangotop_goes16.calls kj1  t682 _ A68.out).mono ?_); rintro e w70 ⟨rfl, hb⟩; have n0_ := Aside0.mk (Kd.R_below (by (with_reducible repeat (first | apply Kd.R_alloc | apply Kd.R_drewN | apply Kd.R_drew)); exact HO680.out) hb); have n1_ := Aside0.mk (blk_below (g := gb676) (o := .cells #[.slice A0_0 l0_0.length c0_0, .string a0_1, .string a0_2, .string a0_3, .string a0_4, .slice A0_5 l0_5.length c0_5, .slice A0_6 l0_6.length c0_6] 80 (0, 0)) (by (with_reducible repeat (first | refine blk_drewN ?_ _ | refine blk_drew ?_ | refine blk_alloc ?_ _)); exact BK676.out) hb); have n2_ := Aside0.mk (below_step (by repeat (first | (with_reducible first | exact HB.out | apply below_alloc | apply pw_below_drewN | apply below_drew1 | refine below_set ?_ GE676.out) | exact HB.out)) hb); clear HO680; clear BK676; clear HB; have HO680 := n0_; have BK676 := n1_; have HB := n2_; clear n0_ n1_ n2_; (try clear hb); (try clear hb2); (try clear hk); (try clear hi)))
            go_ret
            exact ⟨by first | rfl | (simp [errW_none, errW_some] <;> rfl) | (simp [*, errW_none, errW_some] <;> rfl), by repeat (first | (with_reducible first | exact HB.out | apply below_alloc | apply pw_below_drewN | apply below_drew1 | refine below_set ?_ GE676.out) | exact HB.out)⟩
          · rw [if_neg c67] at H
            have c67b0 : ((t678.length : Int) == 0) = false := beq_eq_false_iff_ne.mpr c67
            have c67b1 : ((t678.length : Int) != 0) = true := bne_iff_ne.mpr c67
            have c67b2 : ¬ (t678 = []) := fun h_ => c67 (by rw [h_]; rfl)
            obtain rfl := Option.some.inj H
            obtain ⟨Ao71, co71, eo71⟩ := Kd.R_slice HO680.out
            subst eo71
            go_wp2
            go_ret
            exact ⟨by first | rfl | (simp [errW_none, errW_some] <;> rfl) | (simp [*, errW_none, errW_some] <;> rfl), by repeat (first | (with_reducible first | exact HB.out | apply below_alloc | apply pw_below_drewN | apply below_drew1 | refine below_set ?_ GE676.out) | exact HB.out)⟩
end Go.Proofs.Ytaiekjimdjlgbaa.Pr
