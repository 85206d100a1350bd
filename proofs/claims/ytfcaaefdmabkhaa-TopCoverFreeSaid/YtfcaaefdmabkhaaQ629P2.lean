/- Functions' values and contracts, as the print wrote them. -/
import Derived.Test.YtfcaaefdmabkhaaQ629P0
namespace Go.Proofs.Ytfcaaefdmabkhaa.Pr
open Go.RowKit Go.Proofs.YtfcaaefdmabkhaaW.PrintWords Go.Proofs.YtfcaaefdmabkhaaW.PrintLast Go.Proofs.YtfcaaefdmabkhaaW.PrintMore
attribute [local go_sem] QaN QaP QaW QaX QaI QaJ QaO QaQ   -- for this text's walks alone
set_option linter.unusedVariables false
set_option linter.unusedSimpArgs false
def QaF.j0 : Nat → List (S46) → Int → Int → Bool → ByteArray → ByteArray → ByteArray → Int → Option ((List (S46)) × Int)
 | 0, _, _, _, _, _, _, _, _ => none
 | k + 1, x0, x3, x11, x40, x640000, x640001, x640002, x640003 => if x40 = true then (some (([] : List (S46)), 23)) else (if 0 ≤ x11 then (if x11 < (x0.length : Int) then (if (wrap64 (((rd_T46 x0 x11).f2) - x3)) = 0 then ((Qa4.f x0 x11 1 ([] : List (S46))).bind fun t644 => (some (t644, 0))) else ((Qa4.f x0 x11 1 (([(⟨(⟨x640000, x640001⟩ : S44), x640002, wrap64 (((rd_T46 x0 x11).f2) - x3)⟩ : S46)] : List (S46)))).bind fun t650 => (some (t650, 0)))) else (none)) else (none))
def QaF.f (k : Nat) (l0 : List (S46)) (a1_0 : ByteArray) (a1_1 : ByteArray) (a2 : ByteArray) (a3 : Int) : Option ((List (S46)) × Int) := (Qaw.f k l0).bind fun t637 => (if t637 = 0 then ((Qbu.f a3).bind fun t638 => (if t638 = true then ((Qar.f k l0 a1_0 a1_1 a2 0).bind fun bt640 => (if bt640.2 = true then (if 0 ≤ bt640.1 then (if bt640.1 < (l0.length : Int) then (QaF.j0 k l0 a3 bt640.1 (decide (((rd_T46 l0 bt640.1).f2) < a3)) a1_0 a1_1 a2 0) else (none)) else (none)) else (QaF.j0 k l0 a3 bt640.1 true a1_0 a1_1 a2 0))) else (some (([] : List (S46)), 18)))) else (some (([] : List (S46)), t637)))
theorem QaF.mono_l : ∀ k, (∀ y0 y1 y2 y3 y4 y5 y6 y7, LeO (QaF.j0 k y0 y1 y2 y3 y4 y5 y6 y7) (QaF.j0 (k + 1) y0 y1 y2 y3 y4 y5 y6 y7))
 | 0 => fun _ _ _ _ _ _ _ _ r h => by simp [QaF.j0] at h
 | k + 1 => by
  have ih0 := QaF.mono_l k
  ·intro y0 y1 y2 y3 y4 y5 y6 y7
   unfold QaF.j0
   repeat' first
   | (with_reducible exact ih0 _ _ _ _ _ _ _ _)
   | (with_reducible exact Qaw.mono _ _)
   | (with_reducible exact Qar.mono _ _ _ _ _ _)
   | (with_reducible exact LeO.refl _)
   | (with_reducible exact LeO.none _)
   | (with_reducible refine LeO.ite ?_ ?_)
   | (with_reducible refine LeO.bind ?_ (fun _ => ?_))
   | exact ih0 _ _ _ _ _ _ _ _
   | exact Qaw.mono _ _
   | exact Qar.mono _ _ _ _ _ _
   | exact LeO.none _
   | refine LeO.ite ?_ ?_
   | refine LeO.bind ?_ (fun _ => ?_)
theorem QaF.mono : ∀ a0 a1 a2 a3 a4 k, LeO (QaF.f k a0 a1 a2 a3 a4) (QaF.f (k + 1) a0 a1 a2 a3 a4) := by
 intro a0 a1 a2 a3 a4 k
 have ih0 := QaF.mono_l k
 unfold QaF.f
 repeat' first
   | (with_reducible exact ih0 _ _ _ _ _ _ _ _)
   | (with_reducible exact Qaw.mono _ _)
   | (with_reducible exact Qar.mono _ _ _ _ _ _)
   | (with_reducible exact LeO.refl _)
   | (with_reducible exact LeO.none _)
   | (with_reducible refine LeO.ite ?_ ?_)
   | (with_reducible refine LeO.bind ?_ (fun _ => ?_))
   | exact ih0 _ _ _ _ _ _ _ _
   | exact Qaw.mono _ _
   | exact Qar.mono _ _ _ _ _ _
   | exact LeO.none _
   | refine LeO.ite ?_ ?_
   | refine LeO.bind ?_ (fun _ => ?_)
set_option maxHeartbeats 8000000 in
set_option maxRecDepth 100000 in
theorem QaF.calls (k : Nat) (A0 : Option Addr) (c0 : Nat) (l0 : List (S46)) (a1_0 : ByteArray) (a1_1 : ByteArray) (a2 : ByteArray) (a3 : Int) (r1 : List (S46)) (r2 : Int) (w : World) (hr0 : Kd.C k46 w A0 l0.length l0) (hc0 : l0.length ≤ c0) (h : QaF.f k l0 a1_0 a1_1 a2 a3 = some (r1, r2)) :
  Calls Try.prog 47 #[.slice A0 l0.length c0, .agg #[.string a1_0, .string a1_1], .string a2, .int .i64 a3] w fun e w' => ∃ v0_ : Value, e = .returned (.tuple #[v0_, .int .i64 r2]) ∧ Kd.R k46 46 w' w.heap.size (fun _ => True) v0_ r1 ∧ Below w.heap.size w w' := by
 have hu44 := Try.underlying44
 have hu46 := Try.underlying46
 have HR0 := Aside0.mk hr0
 have HC0 := Aside0.mk hc0
 clear hr0 hc0
 have HB := Aside0.mk (Below.refl w.heap.size w)
 have H : ((Qaw.f k l0).bind fun t637 => (if t637 = 0 then ((Qbu.f a3).bind fun t638 => (if t638 = true then ((Qar.f k l0 a1_0 a1_1 a2 0).bind fun bt640 => (if bt640.2 = true then (if 0 ≤ bt640.1 then (if bt640.1 < (l0.length : Int) then (QaF.j0 k l0 a3 bt640.1 (decide (((rd_T46 l0 bt640.1).f2) < a3)) a1_0 a1_1 a2 0) else (none)) else (none)) else (QaF.j0 k l0 a3 bt640.1 true a1_0 a1_1 a2 0))) else (some (([] : List (S46)), 18)))) else (some (([] : List (S46)), t637)))) = some (r1, r2) := h
 clear h
 replace H := Option.bind_eq_some_iff.mp H
 obtain ⟨t637, A50, H⟩ := H
 replace H : (if t637 = 0 then ((Qbu.f a3).bind fun t638 => (if t638 = true then ((Qar.f k l0 a1_0 a1_1 a2 0).bind fun bt640 => (if bt640.2 = true then (if 0 ≤ bt640.1 then (if bt640.1 < (l0.length : Int) then (QaF.j0 k l0 a3 bt640.1 (decide (((rd_T46 l0 bt640.1).f2) < a3)) a1_0 a1_1 a2 0) else (none)) else (none)) else (QaF.j0 k l0 a3 bt640.1 true a1_0 a1_1 a2 0))) else (some (([] : List (S46)), 18)))) else (some (([] : List (S46)), t637))) = some (r1, r2) := H
 have A5 := Aside0.mk A50
 clear A50
 go_enter Try.func47, Try.ntmps47
 go_upto_if 16 with (first | ((with_reducible refine QaD (N := 5) rfl ?_); refine QaL ?hg (N := 5) ?hd (cs := #[.string a1_0, .string a1_1]) (t := 44) ?hr ?_; (case hd => rfl); (case hg => rfl); (case hr => first | (go_simp; done) | (go_simp; rfl)); intro gb636 hg w6 hbox hb; have n0_ := Aside0.mk (Qaq (Zb) hb); have n1_ := Aside0.mk (hbox); have n2_ := Aside0.mk ((by rw [hg]; exact (Qan (Zb)) : w.heap.size ≤ gb636)); have n3_ := Aside0.mk ((by rw [hg]; exact (Qan (Zb)) : w.heap.size ≤ gb636)); clear HB; have HB := n0_; have BK636 := n1_; have GW636 := n2_; have GE636 := n3_; clear n0_ n1_ n2_ n3_; clear hb hbox hg) | ((with_reducible refine Qay (f := 71) rfl ?_); refine goesL_ (some 14) rfl rfl Try.func71 (by kernel_rfl) rfl #[.slice A0 l0.length c0] rfl (Zl) ?_; (with_reducible refine (Qaw.calls k _ _ l0 t637 _ ?side1 ?side2 A5.out).mono ?_); (case side1 => exact Zv (Kd.C_below HR0.out HB.out)); (case side2 => exact HC0.out); rintro e w7 ⟨rfl, hb⟩; refine ⟨_, rfl, ?_⟩; have n0_ := Aside0.mk (Qaj (g := gb636) (o := .cells #[.string a1_0, .string a1_1] 44 (0, 0)) (Zu BK636.out) hb); have n1_ := Aside0.mk (Qaq (Zc1 GE636.out) hb); clear BK636; clear HB; have BK636 := n0_; have HB := n1_; clear n0_ n1_; (try clear hb); (try clear hb2); (try clear hk); (try clear hi)))
 (try simp only [Act.put, List.setIfInBounds_toArray, List.set_cons_zero, List.set_cons_succ])
 by_cases c8 : t637 = 0
 ·rw [if_pos c8] at H
  have c8b0 : (t637 == 0) = true := beq_iff_eq.mpr c8
  have c8b1 : (t637 != 0) = false := bne_eq_false_iff_eq.mpr c8
  clear c8
  (try simp only [c8b0, c8b1])
  replace H := Option.bind_eq_some_iff.mp H
  obtain ⟨t638, A90, H⟩ := H
  replace H : (if t638 = true then ((Qar.f k l0 a1_0 a1_1 a2 0).bind fun bt640 => (if bt640.2 = true then (if 0 ≤ bt640.1 then (if bt640.1 < (l0.length : Int) then (QaF.j0 k l0 a3 bt640.1 (decide (((rd_T46 l0 bt640.1).f2) < a3)) a1_0 a1_1 a2 0) else (none)) else (none)) else (QaF.j0 k l0 a3 bt640.1 true a1_0 a1_1 a2 0))) else (some (([] : List (S46)), 18))) = some (r1, r2) := H
  have A9 := Aside0.mk A90
  clear A90
  go_upto_if 20 with (first | ((with_reducible refine Qay (f := 72) rfl ?_); refine goesL_ (some 19) rfl rfl Try.func72 (by kernel_rfl) rfl #[.int .i64 a3] rfl (Zl) ?_; (with_reducible refine (Qbu.calls a3 t638 _ A9.out).mono ?_); rintro e w' ⟨rfl, ⟨nd, rfl⟩⟩; refine ⟨_, rfl, ?_⟩))
  (try simp only [Act.put, List.setIfInBounds_toArray, List.set_cons_zero, List.set_cons_succ])
  by_cases c10 : t638 = true
  ·subst c10
   have H1 : ((Qar.f k l0 a1_0 a1_1 a2 0).bind fun bt640 => (if bt640.2 = true then (if 0 ≤ bt640.1 then (if bt640.1 < (l0.length : Int) then (QaF.j0 k l0 a3 bt640.1 (decide (((rd_T46 l0 bt640.1).f2) < a3)) a1_0 a1_1 a2 0) else (none)) else (none)) else (QaF.j0 k l0 a3 bt640.1 true a1_0 a1_1 a2 0))) = some (r1, r2) := by rw [if_pos rfl] at H; exact H
   clear H
   have H := H1
   clear H1
   replace H := Option.bind_eq_some_iff.mp H
   obtain ⟨⟨t640, t641⟩, A110, H⟩ := H
   replace H : (if t641 = true then (if 0 ≤ t640 then (if t640 < (l0.length : Int) then (QaF.j0 k l0 a3 t640 (decide (((rd_T46 l0 t640).f2) < a3)) a1_0 a1_1 a2 0) else (none)) else (none)) else (QaF.j0 k l0 a3 t640 true a1_0 a1_1 a2 0)) = some (r1, r2) := H
   have A11 := Aside0.mk A110
   clear A110
   have HC12 := Aside0.mk H
   clear H
   have hcz13_0 : w7.cell? ⟨gb636, 0, none⟩ = some (.string a1_0) := (Qah BK636.out 0).trans rfl
   have hcz13_1 : w7.cell? ⟨gb636, 1, none⟩ = some (.string a1_1) := (Qah BK636.out 1).trans rfl
   have hfz13_0 := Qaf BK636.out 0
   have hfz13_1 := Qaf BK636.out 1
   go_upto_region 8 with (first | ((with_reducible refine QaD (N := 10) rfl ?_); refine QaL ?hg (N := 10) ?hd (cs := #[.string (⟨#[]⟩ : ByteArray), .string (⟨#[]⟩ : ByteArray), .string (⟨#[]⟩ : ByteArray), .int .i64 0]) (t := 46) ?hr ?_; (case hd => rfl); (case hg => rfl); (case hr => first | (go_simp; done) | (go_simp; rfl)); intro gb639 hg w14 hbox hb; have n0_ := Aside0.mk (Qaj (g := gb636) (o := .cells #[.string a1_0, .string a1_1] 44 (0, 0)) (Zu BK636.out) hb); have n1_ := Aside0.mk (Qaq (Zc1 GE636.out) hb); have n2_ := Aside0.mk (hbox); have n3_ := Aside0.mk ((by rw [hg]; exact (Qan (Zc1 GE636.out)) : w.heap.size ≤ gb639)); have n4_ := Aside0.mk ((by rw [hg]; exact (Qan (Zc1 GE636.out)) : w.heap.size ≤ gb639)); have n5_ := Aside0.mk ((by rw [hg]; exact Nat.ne_of_lt (blk_lt (g := gb636) (o := .cells #[.string a1_0, .string a1_1] 44 (0, 0)) (Zu BK636.out)) : gb636 ≠ gb639)); have n6_ := Aside0.mk ((by rw [hg]; exact Nat.ne_of_gt (blk_lt (g := gb636) (o := .cells #[.string a1_0, .string a1_1] 44 (0, 0)) (Zu BK636.out)) : gb639 ≠ gb636)); clear BK636; clear HB; have BK636 := n0_; have HB := n1_; have BK639 := n2_; have GW639 := n3_; have GE639 := n4_; have NB636_639 := n5_; have NB639_636 := n6_; clear n0_ n1_ n2_ n3_ n4_ n5_ n6_; clear hb hbox hg; have hnb15 := NB639_636.out; have hnc15 := NB636_639.out; have hcz16_0 : w14.cell? ⟨gb639, 0, none⟩ = some (.string (⟨#[]⟩ : ByteArray)) := (Qah BK639.out 0).trans rfl; have hcz16_1 : w14.cell? ⟨gb639, 1, none⟩ = some (.string (⟨#[]⟩ : ByteArray)) := (Qah BK639.out 1).trans rfl; have hcz16_2 : w14.cell? ⟨gb639, 2, none⟩ = some (.string (⟨#[]⟩ : ByteArray)) := (Qah BK639.out 2).trans rfl; have hcz16_3 : w14.cell? ⟨gb639, 3, none⟩ = some (.int .i64 0) := (Qah BK639.out 3).trans rfl; have hfz16_0 := Qaf BK639.out 0; have hfz16_1 := Qaf BK639.out 1; have hfz16_2 := Qaf BK639.out 2; have hfz16_3 := Qaf BK639.out 3) | ((with_reducible refine Qay (f := 73) rfl ?_); refine goesL_ (some 27) rfl rfl Try.func73 (by kernel_rfl) rfl #[.slice A0 l0.length c0, .agg #[.string a1_0, .string a1_1, .string a2, .int .i64 0], .func (.func 74) #[] #[]] rfl (Zl) ?_; (with_reducible refine (Qar.calls k _ _ l0 a1_0 a1_1 a2 0  t640 t641 _ ?side1 ?side2 A11.out).mono ?_); (case side1 => exact Kd.C_below HR0.out (Zc2 GE636.out GE639.out)); (case side2 => exact HC0.out); rintro e w17 ⟨rfl, hb⟩; refine ⟨_, rfl, ?_⟩; have n0_ := Aside0.mk (Qaj (g := gb636) (o := .cells #[.string a1_0, .string a1_1] 44 (0, 0)) (by (with_reducible repeat (first | refine Qab ?_ _ | refine Qad ?_ | refine Qaa ?_ _)); refine Qam ?_ NB636_639.out _; (with_reducible repeat (first | refine Qab ?_ _ | refine Qad ?_ | refine Qaa ?_ _)); refine Qam ?_ NB636_639.out _; (with_reducible repeat (first | refine Qab ?_ _ | refine Qad ?_ | refine Qaa ?_ _)); refine Qam ?_ NB636_639.out _; (with_reducible repeat (first | refine Qab ?_ _ | refine Qad ?_ | refine Qaa ?_ _)); refine Qam ?_ NB636_639.out _; (with_reducible repeat (first | refine Qab ?_ _ | refine Qad ?_ | refine Qaa ?_ _)); exact BK636.out) hb); have n1_ := Aside0.mk (Qaj (g := gb639) (o := .cells #[.string a1_0, .string a1_1, .string a2, .int .i64 0] 46 (0, 0)) (by (with_reducible repeat (first | refine Qab ?_ _ | refine Qad ?_ | refine Qaa ?_ _)); refine Qas (cs := #[.string a1_0, .string a1_1, .string a2, .int .i64 0]) ?_ 3 _ rfl; (with_reducible repeat (first | refine Qab ?_ _ | refine Qad ?_ | refine Qaa ?_ _)); refine Qas (cs := #[.string a1_0, .string a1_1, .string (⟨#[]⟩ : ByteArray), .int .i64 0]) ?_ 2 _ rfl; (with_reducible repeat (first | refine Qab ?_ _ | refine Qad ?_ | refine Qaa ?_ _)); refine Qas (cs := #[.string a1_0, .string (⟨#[]⟩ : ByteArray), .string (⟨#[]⟩ : ByteArray), .int .i64 0]) ?_ 1 _ rfl; (with_reducible repeat (first | refine Qab ?_ _ | refine Qad ?_ | refine Qaa ?_ _)); refine Qas (cs := #[.string (⟨#[]⟩ : ByteArray), .string (⟨#[]⟩ : ByteArray), .string (⟨#[]⟩ : ByteArray), .int .i64 0]) ?_ 0 _ rfl; (with_reducible repeat (first | refine Qab ?_ _ | refine Qad ?_ | refine Qaa ?_ _)); exact BK639.out) hb); have n2_ := Aside0.mk (Qaq (Zc2 GE636.out GE639.out) hb); clear BK636; clear BK639; clear HB; have BK636 := n0_; have BK639 := n1_; have HB := n2_; clear n0_ n1_ n2_; (try clear hb); (try clear hb2); (try clear hk); (try clear hi)))
   (try simp only [Act.put, List.setIfInBounds_toArray, List.set_cons_zero, List.set_cons_succ])
   go_cut [40] (fun v40 wc => ∃ (kq : Nat) (x40_11 : Bool), v40 = .bool x40_11 ∧ Aside0 (QaF.j0 kq l0 a3 t640 x40_11 a1_0 a1_1 a2 0 = some (r1, r2)) ∧ Aside0 (kq ≤ k) ∧ Aside0 (wc.heap[gb636]? = some (.cells #[.string a1_0, .string a1_1] 44 (0, 0))) ∧ Aside0 (wc.heap[gb639]? = some (.cells #[.string a1_0, .string a1_1, .string a2, .int .i64 0] 46 (0, 0))) ∧ Aside0 (Below w.heap.size w wc))
   case first =>
    have H := HC12.out
    clear HC12
    by_cases c18 : t641 = true
    ·subst c18
     have H1 : (if 0 ≤ t640 then (if t640 < (l0.length : Int) then (QaF.j0 k l0 a3 t640 (decide (((rd_T46 l0 t640).f2) < a3)) a1_0 a1_1 a2 0) else (none)) else (none)) = some (r1, r2) := by rw [if_pos rfl] at H; exact H
     clear H
     have H := H1
     clear H1
     by_cases c19 : 0 ≤ t640
     ·rw [if_pos c19] at H
      have c19b0 : decide (0 ≤ t640) = true := decide_eq_true c19
      clear c19
      by_cases c20 : t640 < (l0.length : Int)
      ·rw [if_pos c20] at H
       have c20b0 : decide (t640 < (l0.length : Int)) = true := decide_eq_true c20
       clear c20
       have H' := Aside0.mk H
       clear H
       have p642 : 0 ≤ (t640 : Int) := Ze
       have q642 : t640 < (l0.length : Int) := Ze
       obtain ⟨ad642, e642, hx642_0, hx642_1, hx642_2, hx642_3⟩ := at_T46 HR0.out t640 p642 q642
       cases e642
       replace hx642_0 := (HB.out.cell (World.block_lt_of_cell? w _ hx642_0)).trans hx642_0
       replace hx642_1 := (HB.out.cell (World.block_lt_of_cell? w _ hx642_1)).trans hx642_1
       replace hx642_2 := (HB.out.cell (World.block_lt_of_cell? w _ hx642_2)).trans hx642_2
       replace hx642_3 := (HB.out.cell (World.block_lt_of_cell? w _ hx642_3)).trans hx642_3
       replace p642 := eq_true p642
       replace q642 := eq_true q642
       go_wp2
       go_meet
       case rel => exact ⟨_, (decide (((rd_T46 l0 t640).f2) < a3)), (Zs), H', ⟨by first | omega | exact Nat.le_refl _⟩, ⟨Zu BK636.out⟩, ⟨Zu BK639.out⟩, ⟨Zc2 GE636.out GE639.out⟩⟩
      ·rw [if_neg c20] at H
       exact absurd H (by simp)
     ·rw [if_neg c19] at H
      exact absurd H (by simp)
    ·replace c18 := Bool.eq_false_iff.mpr c18
     subst c18
     have H1 : (QaF.j0 k l0 a3 t640 true a1_0 a1_1 a2 0) = some (r1, r2) := by rw [if_neg (show ¬ (false = true) by decide)] at H; exact H
     clear H
     have H := H1
     clear H1
     have H' := Aside0.mk H
     clear H
     go_wp2
     go_meet
     case rel => exact ⟨_, (true), (Zs), H', ⟨by first | omega | exact Nat.le_refl _⟩, ⟨Zu BK636.out⟩, ⟨Zu BK639.out⟩, ⟨Zc2 GE636.out GE639.out⟩⟩
   case rest =>
    clear HC12
    try clear c1
    try clear c2
    try clear p2
    try clear c4
    try clear p6
    try clear q6
    try clear hx6
    try clear c7
    try clear c8
    try clear c8b0
    try clear c8b1
    try clear c10
    try clear c15
    try clear c18
    try clear c19
    try clear c19b0
    try clear c20
    try clear c20b0
    try clear hcz13_0
    try clear hcz13_1
    try clear hcz16_0
    try clear hcz16_1
    try clear hcz16_2
    try clear hcz16_3
    try clear hfz13_0
    try clear hfz13_1
    try clear hfz16_0
    try clear hfz16_1
    try clear hfz16_2
    try clear hfz16_3
    try clear hx642_0
    try clear hx642_1
    try clear hx642_2
    try clear hx642_3
    try clear p642
    try clear q642
    obtain ⟨kq, x40_11, rfl, HA, HJ11, BK636, BK639, HB⟩ := hcut
    cases kq with
    | zero => exact absurd HA.out (by simp [QaF.j0])
    | succ kj11 =>
     have H := HA.out
     clear HA
     simp only [QaF.j0] at H
     by_cases c21 : x40_11 = true
     ·subst c21
      have H1 : (some (([] : List (S46)), 23)) = some (r1, r2) := by rw [if_pos rfl] at H; exact H
      clear H
      have H := H1
      clear H1
      simp only [Option.some.injEq, Prod.mk.injEq] at H
      obtain ⟨rfl, rfl⟩ := H
      go_wp2
      go_ret2
      exact ⟨_, Zq, by first | exact Kd.R_nil _ _ _ _ _ | exact Kd.N_nil _ _ _ _ _ | exact Kd.V_nil _ _ _ _ _ | exact Kd.Q_nil _ _ _ _ _ | exact Kd.S_nil _ _ _ _ _, Zc2 GE636.out GE639.out⟩
     ·replace c21 := Bool.eq_false_iff.mpr c21
      subst c21
      have H1 : (if 0 ≤ t640 then (if t640 < (l0.length : Int) then (if (wrap64 (((rd_T46 l0 t640).f2) - a3)) = 0 then ((Qa4.f l0 t640 1 ([] : List (S46))).bind fun t644 => (some (t644, 0))) else ((Qa4.f l0 t640 1 (([(⟨(⟨a1_0, a1_1⟩ : S44), a2, wrap64 (((rd_T46 l0 t640).f2) - a3)⟩ : S46)] : List (S46)))).bind fun t650 => (some (t650, 0)))) else (none)) else (none)) = some (r1, r2) := by rw [if_neg (show ¬ (false = true) by decide)] at H; exact H
      clear H
      have H := H1
      clear H1
      by_cases c22 : 0 ≤ t640
      ·rw [if_pos c22] at H
       have c22b0 : decide (0 ≤ t640) = true := decide_eq_true c22
       clear c22
       (try simp only [c22b0])
       by_cases c23 : t640 < (l0.length : Int)
       ·rw [if_pos c23] at H
        have c23b0 : decide (t640 < (l0.length : Int)) = true := decide_eq_true c23
        clear c23
        have p643 : 0 ≤ (t640 : Int) := Ze
        have q643 : t640 < (l0.length : Int) := Ze
        obtain ⟨ad643, e643, hx643_0, hx643_1, hx643_2, hx643_3⟩ := at_T46 HR0.out t640 p643 q643
        cases e643
        replace hx643_0 := (HB.out.cell (World.block_lt_of_cell? w _ hx643_0)).trans hx643_0
        replace hx643_1 := (HB.out.cell (World.block_lt_of_cell? w _ hx643_1)).trans hx643_1
        replace hx643_2 := (HB.out.cell (World.block_lt_of_cell? w _ hx643_2)).trans hx643_2
        replace hx643_3 := (HB.out.cell (World.block_lt_of_cell? w _ hx643_3)).trans hx643_3
        replace p643 := eq_true p643
        replace q643 := eq_true q643
        have hnb24 := NB639_636.out
        have hnc24 := NB636_639.out
        have hcz25_0 : wc.cell? ⟨gb639, 0, none⟩ = some (.string a1_0) := (Qah BK639.out 0).trans rfl
        have hcz25_1 : wc.cell? ⟨gb639, 1, none⟩ = some (.string a1_1) := (Qah BK639.out 1).trans rfl
        have hcz25_2 : wc.cell? ⟨gb639, 2, none⟩ = some (.string a2) := (Qah BK639.out 2).trans rfl
        have hcz25_3 : wc.cell? ⟨gb639, 3, none⟩ = some (.int .i64 0) := (Qah BK639.out 3).trans rfl
        have hfz25_0 := Qaf BK639.out 0
        have hfz25_1 := Qaf BK639.out 1
        have hfz25_2 := Qaf BK639.out 2
        have hfz25_3 := Qaf BK639.out 3
        go_upto_if 51 with (fail)
        by_cases c26 : (wrap64 (((rd_T46 l0 t640).f2) - a3)) = 0
        ·rw [if_pos c26] at H
         have c26b0 : ((wrap64 (((rd_T46 l0 t640).f2) - a3)) == 0) = true := beq_iff_eq.mpr c26
         have c26b1 : ((wrap64 (((rd_T46 l0 t640).f2) - a3)) != 0) = false := bne_eq_false_iff_eq.mpr c26
         clear c26
         (try simp only [c26b0, c26b1])
         replace H := Option.bind_eq_some_iff.mp H
         obtain ⟨t644, A270, H⟩ := H
         replace H : (some (t644, 0)) = some (r1, r2) := H
         have A27 := Aside0.mk A270
         clear A270
         simp only [Option.some.injEq, Prod.mk.injEq] at H
         obtain ⟨rfl, rfl⟩ := H
         go_wp2_with (first | ((with_reducible refine Qay (f := 75) rfl ?_); refine goesL_ (some 54) rfl rfl Try.func75 (by kernel_rfl) rfl #[.slice (some ad643) l0.length c0, .int .i64 t640, .int .i64 1, .slice none 0 0] rfl (Zl) ?_; (refine (Qa4.calls _ _ l0 t640 1 _ _ ([] : List (S46)) t644 _ ?side1 ?side2 ?side3 ?side4 A27.out).mono ?_); (case side1 => exact Kd.C_below HR0.out (Zc2 GE636.out GE639.out)); (case side2 => exact HC0.out); (case side3 => exact Kd.C_nil _ _); (case side4 => exact Nat.le_refl _); rintro e w28 ⟨v645, rfl, ho0, hb⟩; refine ⟨_, rfl, ?_⟩; have n0_ := Aside0.mk (Kd.R_lower (Kd.R_newB ho0 (g := gb639) (o := .cells #[.string a1_0, .string a1_1, .string a2, .int .i64 (wrap64 (((rd_T46 l0 t640).f2) - a3))] 46 (0, 0)) (by (with_reducible repeat (first | refine Qab ?_ _ | refine Qad ?_ | refine Qaa ?_ _)); refine Qas (cs := #[.string a1_0, .string a1_1, .string a2, .int .i64 0]) ?_ 3 _ rfl; (with_reducible repeat (first | refine Qab ?_ _ | refine Qad ?_ | refine Qaa ?_ _)); exact BK639.out)) (Qan (Zc2 GE636.out GE639.out))); have n1_ := Aside0.mk (Qaj (g := gb636) (o := .cells #[.string a1_0, .string a1_1] 44 (0, 0)) (by (with_reducible repeat (first | refine Qab ?_ _ | refine Qad ?_ | refine Qaa ?_ _)); refine Qam ?_ NB636_639.out _; (with_reducible repeat (first | refine Qab ?_ _ | refine Qad ?_ | refine Qaa ?_ _)); exact BK636.out) hb); have n2_ := Aside0.mk (Qaj (g := gb639) (o := .cells #[.string a1_0, .string a1_1, .string a2, .int .i64 (wrap64 (((rd_T46 l0 t640).f2) - a3))] 46 (0, 0)) (by (with_reducible repeat (first | refine Qab ?_ _ | refine Qad ?_ | refine Qaa ?_ _)); refine Qas (cs := #[.string a1_0, .string a1_1, .string a2, .int .i64 0]) ?_ 3 _ rfl; (with_reducible repeat (first | refine Qab ?_ _ | refine Qad ?_ | refine Qaa ?_ _)); exact BK639.out) hb); have n3_ := Aside0.mk (Qaq (Zc2 GE636.out GE639.out) hb); clear BK636; clear BK639; clear HB; have HO646 := n0_; have BK636 := n1_; have BK639 := n2_; have HB := n3_; clear n0_ n1_ n2_ n3_; (try clear hb); (try clear hb2); (try clear hk); (try clear hi); (try clear ho0)))
         go_ret2
         exact ⟨_, Zq, by (with_reducible repeat (first | apply Kd.R_alloc | apply Kd.R_drewN | apply Kd.R_drew)); exact Kd.R_mono HO646.out (fun _ hk => trivial), Zc2 GE636.out GE639.out⟩
        ·rw [if_neg c26] at H
         have c26b0 : ((wrap64 (((rd_T46 l0 t640).f2) - a3)) == 0) = false := beq_eq_false_iff_ne.mpr c26
         have c26b1 : ((wrap64 (((rd_T46 l0 t640).f2) - a3)) != 0) = true := bne_iff_ne.mpr c26
         (try simp only [c26b0, c26b1])
         obtain ⟨y647, hy647⟩ : ∃ y_ : List (S46), y_ = (([(⟨(⟨a1_0, a1_1⟩ : S44), a2, wrap64 (((rd_T46 l0 t640).f2) - a3)⟩ : S46)] : List (S46))) := ⟨_, rfl⟩
         replace H : ((Qa4.f l0 t640 1 y647).bind fun t650 => (some (t650, 0))) = some (r1, r2) := by first | (rw [hy647]; with_reducible exact H) | (have H2_ := (Option.bind_some _ _).symm.trans H; rw [hy647]; with_reducible exact H2_) | (have H2_ := (Option.bind_some _ _).symm.trans H; with_reducible exact H2_) | with_reducible exact H | (rw [hy647]; exact H) | exact H
         have Ny647 := Aside0.mk hy647
         clear hy647
         replace H := Option.bind_eq_some_iff.mp H
         obtain ⟨t650, A290, H⟩ := H
         replace H : (some (t650, 0)) = some (r1, r2) := H
         have A29 := Aside0.mk A290
         clear A290
         simp only [Option.some.injEq, Prod.mk.injEq] at H
         obtain ⟨rfl, rfl⟩ := H
         have hnb30 := NB639_636.out
         have hnc30 := NB636_639.out
         have hcz31_0 : wc.cell? ⟨gb639, 0, none⟩ = some (.string a1_0) := (Qah BK639.out 0).trans rfl
         have hcz31_1 : wc.cell? ⟨gb639, 1, none⟩ = some (.string a1_1) := (Qah BK639.out 1).trans rfl
         have hcz31_2 : wc.cell? ⟨gb639, 2, none⟩ = some (.string a2) := (Qah BK639.out 2).trans rfl
         have hcz31_3 : wc.cell? ⟨gb639, 3, none⟩ = some (.int .i64 0) := (Qah BK639.out 3).trans rfl
         have hfz31_0 := Qaf BK639.out 0
         have hfz31_1 := Qaf BK639.out 1
         have hfz31_2 := Qaf BK639.out 2
         have hfz31_3 := Qaf BK639.out 3
         go_wp2_with (first | ((with_reducible refine QaD (N := 58) rfl ?_); refine Kd.R_lit k46 _ 46 ?hg (N := 58) ?hd (xs := ([(⟨(⟨a1_0, a1_1⟩ : S44), a2, wrap64 (((rd_T46 l0 t640).f2) - a3)⟩ : S46)] : List (S46))) (inner := [.string a1_0, .string a1_1, .string a2, .int .i64 (wrap64 (((rd_T46 l0 t640).f2) - a3))]) (ok := fun _ => True) (okp := fun _ => True) ?hr ?hp (fun _ hk => hk) trivial (Below.refl _ _) (Nat.le_refl _) (by simp) ?_; (case hd => rfl); (case hg => rfl); (case hr => first | (go_simp; done) | (go_simp; rfl)); (case hp => exact (Reps.c4 (show Kd.M k46 _ _ _ (⟨(⟨a1_0, a1_1⟩ : S44), a2, wrap64 (((rd_T46 l0 t640).f2) - a3)⟩ : S46) [.string a1_0, .string a1_1, .string a2, .int .i64 (wrap64 (((rd_T46 l0 t640).f2) - a3))] from (QbV _ _ _ (⟨(⟨a1_0, a1_1⟩ : S44), a2, wrap64 (((rd_T46 l0 t640).f2) - a3)⟩ : S46) )) (Reps.none _ _))); intro v648 w32 ho33 hb hg_ hnew_; clear hg_ hnew_; (first | rw [← Ny647.out] at ho33 | (simp only [Int.reduceToNat] at ho33; rw [← Ny647.out] at ho33)); have n0_ := Aside0.mk (Kd.R_lower (Kd.R_newB ho33 (g := gb639) (o := .cells #[.string a1_0, .string a1_1, .string a2, .int .i64 (wrap64 (((rd_T46 l0 t640).f2) - a3))] 46 (0, 0)) (by (with_reducible repeat (first | refine Qab ?_ _ | refine Qad ?_ | refine Qaa ?_ _)); refine Qas (cs := #[.string a1_0, .string a1_1, .string a2, .int .i64 0]) ?_ 3 _ rfl; (with_reducible repeat (first | refine Qab ?_ _ | refine Qad ?_ | refine Qaa ?_ _)); exact BK639.out)) (Qan (Zc2 GE636.out GE639.out))); have n1_ := Aside0.mk (Qaj (g := gb636) (o := .cells #[.string a1_0, .string a1_1] 44 (0, 0)) (by (with_reducible repeat (first | refine Qab ?_ _ | refine Qad ?_ | refine Qaa ?_ _)); refine Qam ?_ NB636_639.out _; (with_reducible repeat (first | refine Qab ?_ _ | refine Qad ?_ | refine Qaa ?_ _)); exact BK636.out) hb); have n2_ := Aside0.mk (Qaj (g := gb639) (o := .cells #[.string a1_0, .string a1_1, .string a2, .int .i64 (wrap64 (((rd_T46 l0 t640).f2) - a3))] 46 (0, 0)) (by (with_reducible repeat (first | refine Qab ?_ _ | refine Qad ?_ | refine Qaa ?_ _)); refine Qas (cs := #[.string a1_0, .string a1_1, .string a2, .int .i64 0]) ?_ 3 _ rfl; (with_reducible repeat (first | refine Qab ?_ _ | refine Qad ?_ | refine Qaa ?_ _)); exact BK639.out) hb); have n3_ := Aside0.mk (Qaq (Zc2 GE636.out GE639.out) hb); clear BK636; clear BK639; clear HB; have HO649 := n0_; have BK636 := n1_; have BK639 := n2_; have HB := n3_; clear n0_ n1_ n2_ n3_; clear hb ho33; obtain ⟨Ao34, co34, eo34⟩ := Kd.R_slice HO649.out; subst eo34) | ((with_reducible refine Qay (f := 75) rfl ?_); refine goesL_ (some 59) rfl rfl Try.func75 (by kernel_rfl) rfl #[.slice (some ad643) l0.length c0, .int .i64 t640, .int .i64 1, .slice Ao34 y647.length co34] rfl (Zl) ?_; (with_reducible refine (Qa4.calls _ _ l0 t640 1 _ _ y647 t650 _ ?side1 ?side2 ?side3 ?side4 A29.out).mono ?_); (case side1 => exact Zv (Kd.C_below HR0.out HB.out)); (case side2 => exact HC0.out); (case side3 => repeat (first | exact (Kd.R_reads' HO649.out).2.2 | (with_reducible refine Kd.C_alloc ?_ _) | (with_reducible refine Kd.C_drewN ?_ _) | (with_reducible refine Kd.C_drew ?_))); (case side4 => exact (Kd.R_reads' HO649.out).2.1); rintro e w35 ⟨v651, rfl, ho0, hb⟩; refine ⟨_, rfl, ?_⟩; have n0_ := Aside0.mk (Kd.R_elder' (Zr HO649.out) (Kd.R_base ho0) hb); have n1_ := Aside0.mk (Kd.R_lower (Kd.R_newB (Kd.R_new' ho0 (Kd.R_lt (Zr HO649.out))) (g := gb639) (o := .cells #[.string a1_0, .string a1_1, .string a2, .int .i64 (wrap64 (((rd_T46 l0 t640).f2) - a3))] 46 (0, 0)) (Zu BK639.out)) (Qan (Zc2 GE636.out GE639.out))); have n2_ := Aside0.mk (Qaj (g := gb636) (o := .cells #[.string a1_0, .string a1_1] 44 (0, 0)) (Zu BK636.out) hb); have n3_ := Aside0.mk (Qaj (g := gb639) (o := .cells #[.string a1_0, .string a1_1, .string a2, .int .i64 (wrap64 (((rd_T46 l0 t640).f2) - a3))] 46 (0, 0)) (Zu BK639.out) hb); have n4_ := Aside0.mk (Qaq (Zc2 GE636.out GE639.out) hb); clear HO649; clear BK636; clear BK639; clear HB; have HO649 := n0_; have HO652 := n1_; have BK636 := n2_; have BK639 := n3_; have HB := n4_; clear n0_ n1_ n2_ n3_ n4_; (try clear hb); (try clear hb2); (try clear hk); (try clear hi); (try clear ho0)))
         go_ret2
         exact ⟨_, Zq, by (with_reducible repeat (first | apply Kd.R_alloc | apply Kd.R_drewN | apply Kd.R_drew)); exact Kd.R_mono HO652.out (fun _ hk => trivial), Zc2 GE636.out GE639.out⟩
       ·rw [if_neg c23] at H
        exact absurd H (by simp)
      ·rw [if_neg c22] at H
       exact absurd H (by simp)
  ·replace c10 := Bool.eq_false_iff.mpr c10
   subst c10
   have H1 : (some (([] : List (S46)), 18)) = some (r1, r2) := by rw [if_neg (show ¬ (false = true) by decide)] at H; exact H
   clear H
   have H := H1
   clear H1
   simp only [Option.some.injEq, Prod.mk.injEq] at H
   obtain ⟨rfl, rfl⟩ := H
   go_wp2
   go_ret2
   exact ⟨_, Zq, by first | exact Kd.R_nil _ _ _ _ _ | exact Kd.N_nil _ _ _ _ _ | exact Kd.V_nil _ _ _ _ _ | exact Kd.Q_nil _ _ _ _ _ | exact Kd.S_nil _ _ _ _ _, Zc1 GE636.out⟩
 ·rw [if_neg c8] at H
  have c8b0 : (t637 == 0) = false := beq_eq_false_iff_ne.mpr c8
  have c8b1 : (t637 != 0) = true := bne_iff_ne.mpr c8
  (try simp only [c8b0, c8b1])
  simp only [Option.some.injEq, Prod.mk.injEq] at H
  obtain ⟨rfl, rfl⟩ := H
  go_wp2
  go_ret2
  exact ⟨_, Zq, by first | exact Kd.R_nil _ _ _ _ _ | exact Kd.N_nil _ _ _ _ _ | exact Kd.V_nil _ _ _ _ _ | exact Kd.Q_nil _ _ _ _ _ | exact Kd.S_nil _ _ _ _ _, Zc1 GE636.out⟩
def QaB.l0 : Nat → ByteArray → List (S84) → Int → Int → Option (ByteArray × Int × Int × Int × Int × Int × Bool)
 | 0, _, _, _, _ => none
 | k + 1, x1, x11, x12, x13 => if x13 < x12 then (if 0 ≤ x13 then (if x13 < (x11.length : Int) then ((QbL.f ((rd_T84 x11 x13).f0) ((rd_T84 x11 x13).f1) ((rd_T84 x11 x13).f2) ((rd_T84 x11 x13).f3) ((rd_T84 x11 x13).f4) ((rd_T84 x11 x13).f5)).bind fun t107 => (if t107.toList = x1.toList then (some ((rd_T84 x11 x13).f0, (rd_T84 x11 x13).f1, (rd_T84 x11 x13).f2, (rd_T84 x11 x13).f3, (rd_T84 x11 x13).f4, (rd_T84 x11 x13).f5, true)) else (QaB.l0 k x1 x11 x12 (wrap64 (x13 + 1))))) else (none)) else (none)) else (some ((⟨#[]⟩ : ByteArray), 0, 0, 0, 0, 0, false))
def QaB.f (k : Nat) (l0 : List (S84)) (a1 : ByteArray)  : Option (ByteArray × Int × Int × Int × Int × Int × Bool) := QaB.l0 k a1 l0 (l0.length : Int) 0
theorem QaB.mono_l : ∀ k, (∀ y0 y1 y2 y3, LeO (QaB.l0 k y0 y1 y2 y3) (QaB.l0 (k + 1) y0 y1 y2 y3))
 | 0 => fun _ _ _ _ r h => by simp [QaB.l0] at h
 | k + 1 => by
  have ih0 := QaB.mono_l k
  ·intro y0 y1 y2 y3
   unfold QaB.l0
   repeat' first
   | (with_reducible exact ih0 _ _ _ _)
   | (with_reducible exact LeO.refl _)
   | (with_reducible exact LeO.none _)
   | (with_reducible refine LeO.ite ?_ ?_)
   | (with_reducible refine LeO.bind ?_ (fun _ => ?_))
   | exact ih0 _ _ _ _
   | exact LeO.none _
   | refine LeO.ite ?_ ?_
   | refine LeO.bind ?_ (fun _ => ?_)
theorem QaB.mono : ∀ a0 a1 k, LeO (QaB.f k a0 a1) (QaB.f (k + 1) a0 a1) := by
 intro a0 a1 k
 have ih0 := QaB.mono_l k
 unfold QaB.f
 repeat' first
   | (with_reducible exact ih0 _ _ _ _)
   | (with_reducible exact LeO.refl _)
   | (with_reducible exact LeO.none _)
   | (with_reducible refine LeO.ite ?_ ?_)
   | (with_reducible refine LeO.bind ?_ (fun _ => ?_))
   | exact ih0 _ _ _ _
   | exact LeO.none _
   | refine LeO.ite ?_ ?_
   | refine LeO.bind ?_ (fun _ => ?_)
set_option maxHeartbeats 8000000 in
set_option maxRecDepth 100000 in
theorem QaB.calls (k : Nat) (A0 : Option Addr) (c0 : Nat) (l0 : List (S84)) (a1 : ByteArray)  (r1 : ByteArray) (r2 : Int) (r3 : Int) (r4 : Int) (r5 : Int) (r6 : Int) (r7 : Bool) (w : World) (hr0 : Kd.C k84 w A0 l0.length l0) (hc0 : l0.length ≤ c0) (h : QaB.f k l0 a1 = some (r1, r2, r3, r4, r5, r6, r7)) :
  Calls Try.prog 76 #[.slice A0 l0.length c0, .string a1, .func (.func 77) #[] #[]] w fun e w' => e = .returned (.tuple #[.agg #[.string r1, .int .i64 r2, .int .i64 r3, .int .i64 r4, .int .i64 r5, .int .i64 r6], .bool r7]) ∧ Below w.heap.size w w' := by
 have hu84 := Try.underlying84
 have HR0 := Aside0.mk hr0
 have HC0 := Aside0.mk hc0
 clear hr0 hc0
 have HB := Aside0.mk (Below.refl w.heap.size w)
 have H : (QaB.l0 k a1 l0 (l0.length : Int) 0) = some (r1, r2, r3, r4, r5, r6, r7) := h
 clear h
 have H' := Aside0.mk H
 clear H
 go_enter Try.func76, Try.ntmps76
 go_wp2_with (first | ((with_reducible refine QaD (N := 6) rfl ?_); refine QaL ?hg (N := 6) ?hd (cs := #[.string (⟨#[]⟩ : ByteArray), .int .i64 0, .int .i64 0, .int .i64 0, .int .i64 0, .int .i64 0]) (t := 84) ?hr ?_; (case hd => rfl); (case hg => rfl); (case hr => first | (go_simp; done) | (go_simp; rfl)); intro gb104 hg w4 hbox hb; have n0_ := Aside0.mk (Qaq (Zb) hb); have n1_ := Aside0.mk (hbox); have n2_ := Aside0.mk ((by rw [hg]; exact (Qan (Zb)) : w.heap.size ≤ gb104)); have n3_ := Aside0.mk ((by rw [hg]; exact (Qan (Zb)) : w.heap.size ≤ gb104)); clear HB; have HB := n0_; have BK104 := n1_; have GW104 := n2_; have GE104 := n3_; clear n0_ n1_ n2_ n3_; clear hb hbox hg))
 go_loopg [13] k (fun kq v13 w' => ∃ (x13_1 : Int) (x105000_1 : ByteArray) (x105001_1 : Int) (x105002_1 : Int) (x105003_1 : Int) (x105004_1 : Int) (x105005_1 : Int), v13 = .int .i64 x13_1 ∧ Aside0 (QaB.l0 kq a1 l0 (l0.length : Int) x13_1 = some (r1, r2, r3, r4, r5, r6, r7)) ∧ Aside0 (kq ≤ k) ∧ Aside0 (w'.heap[gb104]? = some (.cells #[.string x105000_1, .int .i64 x105001_1, .int .i64 x105002_1, .int .i64 x105003_1, .int .i64 x105004_1, .int .i64 x105005_1] 84 (0, 0))) ∧ Aside0 (Below w.heap.size w w'))
 case atStart => exact ⟨(0), ((⟨#[]⟩ : ByteArray)), (0), (0), (0), (0), (0), (Zs), H', ⟨Nat.le_refl _⟩, ⟨Zu BK104.out⟩, ⟨Zc1 GE104.out⟩⟩
 case round =>
  clear H'
  try clear p2
  obtain ⟨x13_1, x105000_1, x105001_1, x105002_1, x105003_1, x105004_1, x105005_1, rfl, HA, HK1, BK104, HB⟩ := hrel
  cases gk with
  | zero => exact absurd HA.out (by simp [QaB.l0])
  | succ k1 =>
   have H := HA.out
   clear HA
   simp only [QaB.l0] at H
   by_cases c5 : x13_1 < (l0.length : Int)
   ·rw [if_pos c5] at H
    have c5b0 : decide (x13_1 < (l0.length : Int)) = true := decide_eq_true c5
    clear c5
    (try simp only [c5b0])
    by_cases c6 : 0 ≤ x13_1
    ·rw [if_pos c6] at H
     have c6b0 : decide (0 ≤ x13_1) = true := decide_eq_true c6
     clear c6
     by_cases c7 : x13_1 < (l0.length : Int)
     ·rw [if_pos c7] at H
      have c7b0 : decide (x13_1 < (l0.length : Int)) = true := decide_eq_true c7
      clear c7
      replace H := Option.bind_eq_some_iff.mp H
      obtain ⟨t107, A80, H⟩ := H
      replace H : (if t107.toList = a1.toList then (some ((rd_T84 l0 x13_1).f0, (rd_T84 l0 x13_1).f1, (rd_T84 l0 x13_1).f2, (rd_T84 l0 x13_1).f3, (rd_T84 l0 x13_1).f4, (rd_T84 l0 x13_1).f5, true)) else (QaB.l0 k1 a1 l0 (l0.length : Int) (wrap64 (x13_1 + 1)))) = some (r1, r2, r3, r4, r5, r6, r7) := H
      have A8 := Aside0.mk A80
      clear A80
      have p105 : 0 ≤ (x13_1 : Int) := Ze
      have q105 : x13_1 < (l0.length : Int) := Ze
      obtain ⟨ad105, e105, hx105_0, hx105_1, hx105_2, hx105_3, hx105_4, hx105_5⟩ := at_T84 HR0.out x13_1 p105 q105
      cases e105
      replace hx105_0 := (HB.out.cell (World.block_lt_of_cell? w _ hx105_0)).trans hx105_0
      replace hx105_1 := (HB.out.cell (World.block_lt_of_cell? w _ hx105_1)).trans hx105_1
      replace hx105_2 := (HB.out.cell (World.block_lt_of_cell? w _ hx105_2)).trans hx105_2
      replace hx105_3 := (HB.out.cell (World.block_lt_of_cell? w _ hx105_3)).trans hx105_3
      replace hx105_4 := (HB.out.cell (World.block_lt_of_cell? w _ hx105_4)).trans hx105_4
      replace hx105_5 := (HB.out.cell (World.block_lt_of_cell? w _ hx105_5)).trans hx105_5
      replace p105 := eq_true p105
      replace q105 := eq_true q105
      go_upto_if 21 with (first | ((with_reducible refine QaD (N := 9) rfl ?_); refine QaL ?hg (N := 9) ?hd (cs := #[.string (⟨#[]⟩ : ByteArray), .int .i64 0, .int .i64 0, .int .i64 0, .int .i64 0, .int .i64 0]) (t := 84) ?hr ?_; (case hd => rfl); (case hg => rfl); (case hr => first | (go_simp; done) | (go_simp; rfl)); intro gb106 hg w9 hbox hb; have n0_ := Aside0.mk (Qaj (g := gb104) (o := .cells #[.string x105000_1, .int .i64 x105001_1, .int .i64 x105002_1, .int .i64 x105003_1, .int .i64 x105004_1, .int .i64 x105005_1] 84 (0, 0)) (Zu BK104.out) hb); have n1_ := Aside0.mk (Qaq (Zc1 GE104.out) hb); have n2_ := Aside0.mk (hbox); have n3_ := Aside0.mk ((by rw [hg]; exact (Qan (Zc1 GE104.out)) : w.heap.size ≤ gb106)); have n4_ := Aside0.mk ((by rw [hg]; exact (Qan (Zc1 GE104.out)) : w.heap.size ≤ gb106)); have n5_ := Aside0.mk ((by rw [hg]; exact Nat.ne_of_lt (blk_lt (g := gb104) (o := .cells #[.string x105000_1, .int .i64 x105001_1, .int .i64 x105002_1, .int .i64 x105003_1, .int .i64 x105004_1, .int .i64 x105005_1] 84 (0, 0)) (Zu BK104.out)) : gb104 ≠ gb106)); have n6_ := Aside0.mk ((by rw [hg]; exact Nat.ne_of_gt (blk_lt (g := gb104) (o := .cells #[.string x105000_1, .int .i64 x105001_1, .int .i64 x105002_1, .int .i64 x105003_1, .int .i64 x105004_1, .int .i64 x105005_1] 84 (0, 0)) (Zu BK104.out)) : gb106 ≠ gb104)); clear BK104; clear HB; have BK104 := n0_; have HB := n1_; have BK106 := n2_; have GW106 := n3_; have GE106 := n4_; have NB104_106 := n5_; have NB106_104 := n6_; clear n0_ n1_ n2_ n3_ n4_ n5_ n6_; clear hb hbox hg; have hnb10 := NB106_104.out; have hnc10 := NB104_106.out; have hcz11_0 : w9.cell? ⟨gb106, 0, none⟩ = some (.string (⟨#[]⟩ : ByteArray)) := (Qah BK106.out 0).trans rfl; have hcz11_1 : w9.cell? ⟨gb106, 1, none⟩ = some (.int .i64 0) := (Qah BK106.out 1).trans rfl; have hcz11_2 : w9.cell? ⟨gb106, 2, none⟩ = some (.int .i64 0) := (Qah BK106.out 2).trans rfl; have hcz11_3 : w9.cell? ⟨gb106, 3, none⟩ = some (.int .i64 0) := (Qah BK106.out 3).trans rfl; have hcz11_4 : w9.cell? ⟨gb106, 4, none⟩ = some (.int .i64 0) := (Qah BK106.out 4).trans rfl; have hcz11_5 : w9.cell? ⟨gb106, 5, none⟩ = some (.int .i64 0) := (Qah BK106.out 5).trans rfl; have hfz11_0 := Qaf BK106.out 0; have hfz11_1 := Qaf BK106.out 1; have hfz11_2 := Qaf BK106.out 2; have hfz11_3 := Qaf BK106.out 3; have hfz11_4 := Qaf BK106.out 4; have hfz11_5 := Qaf BK106.out 5) | (go_at_call 77; (with_reducible refine (QbL.calls ((rd_T84 l0 x13_1).f0) ((rd_T84 l0 x13_1).f1) ((rd_T84 l0 x13_1).f2) ((rd_T84 l0 x13_1).f3) ((rd_T84 l0 x13_1).f4) ((rd_T84 l0 x13_1).f5) t107 _ A8.out).mono ?_); rintro e w12 ⟨rfl, hb⟩; have n0_ := Aside0.mk (Qaj (g := gb104) (o := .cells #[.string x105000_1, .int .i64 x105001_1, .int .i64 x105002_1, .int .i64 x105003_1, .int .i64 x105004_1, .int .i64 x105005_1] 84 (0, 0)) (by (with_reducible repeat (first | refine Qab ?_ _ | refine Qad ?_ | refine Qaa ?_ _)); refine Qam ?_ NB104_106.out _; (with_reducible repeat (first | refine Qab ?_ _ | refine Qad ?_ | refine Qaa ?_ _)); refine Qam ?_ NB104_106.out _; (with_reducible repeat (first | refine Qab ?_ _ | refine Qad ?_ | refine Qaa ?_ _)); refine Qam ?_ NB104_106.out _; (with_reducible repeat (first | refine Qab ?_ _ | refine Qad ?_ | refine Qaa ?_ _)); refine Qam ?_ NB104_106.out _; (with_reducible repeat (first | refine Qab ?_ _ | refine Qad ?_ | refine Qaa ?_ _)); refine Qam ?_ NB104_106.out _; (with_reducible repeat (first | refine Qab ?_ _ | refine Qad ?_ | refine Qaa ?_ _)); refine Qam ?_ NB104_106.out _; (with_reducible repeat (first | refine Qab ?_ _ | refine Qad ?_ | refine Qaa ?_ _)); exact BK104.out) hb); have n1_ := Aside0.mk (Qaj (g := gb106) (o := .cells #[.string ((rd_T84 l0 x13_1).f0), .int .i64 ((rd_T84 l0 x13_1).f1), .int .i64 ((rd_T84 l0 x13_1).f2), .int .i64 ((rd_T84 l0 x13_1).f3), .int .i64 ((rd_T84 l0 x13_1).f4), .int .i64 ((rd_T84 l0 x13_1).f5)] 84 (0, 0)) (by (with_reducible repeat (first | refine Qab ?_ _ | refine Qad ?_ | refine Qaa ?_ _)); refine Qas (cs := #[.string ((rd_T84 l0 x13_1).f0), .int .i64 ((rd_T84 l0 x13_1).f1), .int .i64 ((rd_T84 l0 x13_1).f2), .int .i64 ((rd_T84 l0 x13_1).f3), .int .i64 ((rd_T84 l0 x13_1).f4), .int .i64 0]) ?_ 5 _ rfl; (with_reducible repeat (first | refine Qab ?_ _ | refine Qad ?_ | refine Qaa ?_ _)); refine Qas (cs := #[.string ((rd_T84 l0 x13_1).f0), .int .i64 ((rd_T84 l0 x13_1).f1), .int .i64 ((rd_T84 l0 x13_1).f2), .int .i64 ((rd_T84 l0 x13_1).f3), .int .i64 0, .int .i64 0]) ?_ 4 _ rfl; (with_reducible repeat (first | refine Qab ?_ _ | refine Qad ?_ | refine Qaa ?_ _)); refine Qas (cs := #[.string ((rd_T84 l0 x13_1).f0), .int .i64 ((rd_T84 l0 x13_1).f1), .int .i64 ((rd_T84 l0 x13_1).f2), .int .i64 0, .int .i64 0, .int .i64 0]) ?_ 3 _ rfl; (with_reducible repeat (first | refine Qab ?_ _ | refine Qad ?_ | refine Qaa ?_ _)); refine Qas (cs := #[.string ((rd_T84 l0 x13_1).f0), .int .i64 ((rd_T84 l0 x13_1).f1), .int .i64 0, .int .i64 0, .int .i64 0, .int .i64 0]) ?_ 2 _ rfl; (with_reducible repeat (first | refine Qab ?_ _ | refine Qad ?_ | refine Qaa ?_ _)); refine Qas (cs := #[.string ((rd_T84 l0 x13_1).f0), .int .i64 0, .int .i64 0, .int .i64 0, .int .i64 0, .int .i64 0]) ?_ 1 _ rfl; (with_reducible repeat (first | refine Qab ?_ _ | refine Qad ?_ | refine Qaa ?_ _)); refine Qas (cs := #[.string (⟨#[]⟩ : ByteArray), .int .i64 0, .int .i64 0, .int .i64 0, .int .i64 0, .int .i64 0]) ?_ 0 _ rfl; (with_reducible repeat (first | refine Qab ?_ _ | refine Qad ?_ | refine Qaa ?_ _)); exact BK106.out) hb); have n2_ := Aside0.mk (Qaq (Zc2 GE104.out GE106.out) hb); clear BK104; clear BK106; clear HB; have BK104 := n0_; have BK106 := n1_; have HB := n2_; clear n0_ n1_ n2_; (try clear hb); (try clear hb2); (try clear hk); (try clear hi)))
      (try simp only [Act.put, List.setIfInBounds_toArray, List.set_cons_zero, List.set_cons_succ])
      by_cases c13 : t107.toList = a1.toList
      ·rw [if_pos c13] at H
       have c13b0 : (t107.toList == a1.toList) = true := beq_iff_eq.mpr c13
       have c13b1 : (t107.toList != a1.toList) = false := bne_eq_false_iff_eq.mpr c13
       clear c13
       (try simp only [c13b0, c13b1])
       simp only [Option.some.injEq, Prod.mk.injEq] at H
       obtain ⟨rfl, rfl, rfl, rfl, rfl, rfl, rfl⟩ := H
       have hnb14 := NB106_104.out
       have hnc14 := NB104_106.out
       have hcz15_0 : w12.cell? ⟨gb106, 0, none⟩ = some (.string ((rd_T84 l0 x13_1).f0)) := (Qah BK106.out 0).trans rfl
       have hcz15_1 : w12.cell? ⟨gb106, 1, none⟩ = some (.int .i64 ((rd_T84 l0 x13_1).f1)) := (Qah BK106.out 1).trans rfl
       have hcz15_2 : w12.cell? ⟨gb106, 2, none⟩ = some (.int .i64 ((rd_T84 l0 x13_1).f2)) := (Qah BK106.out 2).trans rfl
       have hcz15_3 : w12.cell? ⟨gb106, 3, none⟩ = some (.int .i64 ((rd_T84 l0 x13_1).f3)) := (Qah BK106.out 3).trans rfl
       have hcz15_4 : w12.cell? ⟨gb106, 4, none⟩ = some (.int .i64 ((rd_T84 l0 x13_1).f4)) := (Qah BK106.out 4).trans rfl
       have hcz15_5 : w12.cell? ⟨gb106, 5, none⟩ = some (.int .i64 ((rd_T84 l0 x13_1).f5)) := (Qah BK106.out 5).trans rfl
       have hfz15_0 := Qaf BK106.out 0
       have hfz15_1 := Qaf BK106.out 1
       have hfz15_2 := Qaf BK106.out 2
       have hfz15_3 := Qaf BK106.out 3
       have hfz15_4 := Qaf BK106.out 4
       have hfz15_5 := Qaf BK106.out 5
       have hcz16_0 : w12.cell? ⟨gb104, 0, none⟩ = some (.string x105000_1) := (Qah BK104.out 0).trans rfl
       have hcz16_1 : w12.cell? ⟨gb104, 1, none⟩ = some (.int .i64 x105001_1) := (Qah BK104.out 1).trans rfl
       have hcz16_2 : w12.cell? ⟨gb104, 2, none⟩ = some (.int .i64 x105002_1) := (Qah BK104.out 2).trans rfl
       have hcz16_3 : w12.cell? ⟨gb104, 3, none⟩ = some (.int .i64 x105003_1) := (Qah BK104.out 3).trans rfl
       have hcz16_4 : w12.cell? ⟨gb104, 4, none⟩ = some (.int .i64 x105004_1) := (Qah BK104.out 4).trans rfl
       have hcz16_5 : w12.cell? ⟨gb104, 5, none⟩ = some (.int .i64 x105005_1) := (Qah BK104.out 5).trans rfl
       have hfz16_0 := Qaf BK104.out 0
       have hfz16_1 := Qaf BK104.out 1
       have hfz16_2 := Qaf BK104.out 2
       have hfz16_3 := Qaf BK104.out 3
       have hfz16_4 := Qaf BK104.out 4
       have hfz16_5 := Qaf BK104.out 5
       go_wp2
       refine bodyPost_ret (QbS rfl _ _ gb104 84 #[.string ((rd_T84 l0 x13_1).f0), .int .i64 ((rd_T84 l0 x13_1).f1), .int .i64 ((rd_T84 l0 x13_1).f2), .int .i64 ((rd_T84 l0 x13_1).f3), .int .i64 ((rd_T84 l0 x13_1).f4), .int .i64 ((rd_T84 l0 x13_1).f5)] (0, 0) _ rfl (by (with_reducible repeat (first | refine Qab ?_ _ | refine Qad ?_ | refine Qaa ?_ _)); refine Qas (cs := #[.string ((rd_T84 l0 x13_1).f0), .int .i64 ((rd_T84 l0 x13_1).f1), .int .i64 ((rd_T84 l0 x13_1).f2), .int .i64 ((rd_T84 l0 x13_1).f3), .int .i64 ((rd_T84 l0 x13_1).f4), .int .i64 x105005_1]) ?_ 5 _ rfl; (with_reducible repeat (first | refine Qab ?_ _ | refine Qad ?_ | refine Qaa ?_ _)); refine Qas (cs := #[.string ((rd_T84 l0 x13_1).f0), .int .i64 ((rd_T84 l0 x13_1).f1), .int .i64 ((rd_T84 l0 x13_1).f2), .int .i64 ((rd_T84 l0 x13_1).f3), .int .i64 x105004_1, .int .i64 x105005_1]) ?_ 4 _ rfl; (with_reducible repeat (first | refine Qab ?_ _ | refine Qad ?_ | refine Qaa ?_ _)); refine Qas (cs := #[.string ((rd_T84 l0 x13_1).f0), .int .i64 ((rd_T84 l0 x13_1).f1), .int .i64 ((rd_T84 l0 x13_1).f2), .int .i64 x105003_1, .int .i64 x105004_1, .int .i64 x105005_1]) ?_ 3 _ rfl; (with_reducible repeat (first | refine Qab ?_ _ | refine Qad ?_ | refine Qaa ?_ _)); refine Qas (cs := #[.string ((rd_T84 l0 x13_1).f0), .int .i64 ((rd_T84 l0 x13_1).f1), .int .i64 x105002_1, .int .i64 x105003_1, .int .i64 x105004_1, .int .i64 x105005_1]) ?_ 2 _ rfl; (with_reducible repeat (first | refine Qab ?_ _ | refine Qad ?_ | refine Qaa ?_ _)); refine Qas (cs := #[.string ((rd_T84 l0 x13_1).f0), .int .i64 x105001_1, .int .i64 x105002_1, .int .i64 x105003_1, .int .i64 x105004_1, .int .i64 x105005_1]) ?_ 1 _ rfl; (with_reducible repeat (first | refine Qab ?_ _ | refine Qad ?_ | refine Qaa ?_ _)); refine Qas (cs := #[.string x105000_1, .int .i64 x105001_1, .int .i64 x105002_1, .int .i64 x105003_1, .int .i64 x105004_1, .int .i64 x105005_1]) ?_ 0 _ rfl; (with_reducible repeat (first | refine Qab ?_ _ | refine Qad ?_ | refine Qaa ?_ _)); exact BK104.out) Try.underlying84 rfl (by kernel_rfl)) rfl ?_
       exact ⟨Zq, Zc2 GE104.out GE106.out⟩
      ·rw [if_neg c13] at H
       have c13b0 : (t107.toList == a1.toList) = false := beq_eq_false_iff_ne.mpr c13
       have c13b1 : (t107.toList != a1.toList) = true := bne_iff_ne.mpr c13
       (try simp only [c13b0, c13b1])
       have H' := Aside0.mk H
       clear H
       go_wp2
       go_roundg k1
       case measure => have := HK1.out; omega
       case rel => exact ⟨(wrap64 (x13_1 + 1)), (x105000_1), (x105001_1), (x105002_1), (x105003_1), (x105004_1), (x105005_1), (Zs), H', ⟨by have := HK1.out; omega⟩, ⟨Zu BK104.out⟩, ⟨Zc2 GE104.out GE106.out⟩⟩
     ·rw [if_neg c7] at H
      exact absurd H (by simp)
    ·rw [if_neg c6] at H
     exact absurd H (by simp)
   ·rw [if_neg c5] at H
    have c5b0 : decide (x13_1 < (l0.length : Int)) = false := decide_eq_false c5
    clear c5
    (try simp only [c5b0])
    simp only [Option.some.injEq, Prod.mk.injEq] at H
    obtain ⟨rfl, rfl, rfl, rfl, rfl, rfl, rfl⟩ := H
    go_wp2_with (first | ((with_reducible refine QaD (N := 10) rfl ?_); refine QaL ?hg (N := 10) ?hd (cs := #[.string (⟨#[]⟩ : ByteArray), .int .i64 0, .int .i64 0, .int .i64 0, .int .i64 0, .int .i64 0]) (t := 84) ?hr ?_; (case hd => rfl); (case hg => rfl); (case hr => first | (go_simp; done) | (go_simp; rfl)); intro gb108 hg w17 hbox hb; have n0_ := Aside0.mk (Qaj (g := gb104) (o := .cells #[.string x105000_1, .int .i64 x105001_1, .int .i64 x105002_1, .int .i64 x105003_1, .int .i64 x105004_1, .int .i64 x105005_1] 84 (0, 0)) (Zu BK104.out) hb); have n1_ := Aside0.mk (Qaq (Zc1 GE104.out) hb); have n2_ := Aside0.mk (hbox); have n3_ := Aside0.mk ((by rw [hg]; exact (Qan (Zc1 GE104.out)) : w.heap.size ≤ gb108)); have n4_ := Aside0.mk ((by rw [hg]; exact (Qan (Zc1 GE104.out)) : w.heap.size ≤ gb108)); have n5_ := Aside0.mk ((by rw [hg]; exact Nat.ne_of_lt (blk_lt (g := gb104) (o := .cells #[.string x105000_1, .int .i64 x105001_1, .int .i64 x105002_1, .int .i64 x105003_1, .int .i64 x105004_1, .int .i64 x105005_1] 84 (0, 0)) (Zu BK104.out)) : gb104 ≠ gb108)); have n6_ := Aside0.mk ((by rw [hg]; exact Nat.ne_of_gt (blk_lt (g := gb104) (o := .cells #[.string x105000_1, .int .i64 x105001_1, .int .i64 x105002_1, .int .i64 x105003_1, .int .i64 x105004_1, .int .i64 x105005_1] 84 (0, 0)) (Zu BK104.out)) : gb108 ≠ gb104)); clear BK104; clear HB; have BK104 := n0_; have HB := n1_; have BK108 := n2_; have GW108 := n3_; have GE108 := n4_; have NB104_108 := n5_; have NB108_104 := n6_; clear n0_ n1_ n2_ n3_ n4_ n5_ n6_; clear hb hbox hg; have hnb18 := NB108_104.out; have hnc18 := NB104_108.out; have hcz19_0 : w17.cell? ⟨gb108, 0, none⟩ = some (.string (⟨#[]⟩ : ByteArray)) := (Qah BK108.out 0).trans rfl; have hcz19_1 : w17.cell? ⟨gb108, 1, none⟩ = some (.int .i64 0) := (Qah BK108.out 1).trans rfl; have hcz19_2 : w17.cell? ⟨gb108, 2, none⟩ = some (.int .i64 0) := (Qah BK108.out 2).trans rfl; have hcz19_3 : w17.cell? ⟨gb108, 3, none⟩ = some (.int .i64 0) := (Qah BK108.out 3).trans rfl; have hcz19_4 : w17.cell? ⟨gb108, 4, none⟩ = some (.int .i64 0) := (Qah BK108.out 4).trans rfl; have hcz19_5 : w17.cell? ⟨gb108, 5, none⟩ = some (.int .i64 0) := (Qah BK108.out 5).trans rfl; have hfz19_0 := Qaf BK108.out 0; have hfz19_1 := Qaf BK108.out 1; have hfz19_2 := Qaf BK108.out 2; have hfz19_3 := Qaf BK108.out 3; have hfz19_4 := Qaf BK108.out 4; have hfz19_5 := Qaf BK108.out 5; have hcz20_0 : w17.cell? ⟨gb104, 0, none⟩ = some (.string x105000_1) := (Qah BK104.out 0).trans rfl; have hcz20_1 : w17.cell? ⟨gb104, 1, none⟩ = some (.int .i64 x105001_1) := (Qah BK104.out 1).trans rfl; have hcz20_2 : w17.cell? ⟨gb104, 2, none⟩ = some (.int .i64 x105002_1) := (Qah BK104.out 2).trans rfl; have hcz20_3 : w17.cell? ⟨gb104, 3, none⟩ = some (.int .i64 x105003_1) := (Qah BK104.out 3).trans rfl; have hcz20_4 : w17.cell? ⟨gb104, 4, none⟩ = some (.int .i64 x105004_1) := (Qah BK104.out 4).trans rfl; have hcz20_5 : w17.cell? ⟨gb104, 5, none⟩ = some (.int .i64 x105005_1) := (Qah BK104.out 5).trans rfl; have hfz20_0 := Qaf BK104.out 0; have hfz20_1 := Qaf BK104.out 1; have hfz20_2 := Qaf BK104.out 2; have hfz20_3 := Qaf BK104.out 3; have hfz20_4 := Qaf BK104.out 4; have hfz20_5 := Qaf BK104.out 5))
    refine bodyPost_ret (QbS rfl _ _ gb104 84 #[.string (⟨#[]⟩ : ByteArray), .int .i64 0, .int .i64 0, .int .i64 0, .int .i64 0, .int .i64 0] (0, 0) _ rfl (by (with_reducible repeat (first | refine Qab ?_ _ | refine Qad ?_ | refine Qaa ?_ _)); refine Qas (cs := #[.string (⟨#[]⟩ : ByteArray), .int .i64 0, .int .i64 0, .int .i64 0, .int .i64 0, .int .i64 x105005_1]) ?_ 5 _ rfl; (with_reducible repeat (first | refine Qab ?_ _ | refine Qad ?_ | refine Qaa ?_ _)); refine Qas (cs := #[.string (⟨#[]⟩ : ByteArray), .int .i64 0, .int .i64 0, .int .i64 0, .int .i64 x105004_1, .int .i64 x105005_1]) ?_ 4 _ rfl; (with_reducible repeat (first | refine Qab ?_ _ | refine Qad ?_ | refine Qaa ?_ _)); refine Qas (cs := #[.string (⟨#[]⟩ : ByteArray), .int .i64 0, .int .i64 0, .int .i64 x105003_1, .int .i64 x105004_1, .int .i64 x105005_1]) ?_ 3 _ rfl; (with_reducible repeat (first | refine Qab ?_ _ | refine Qad ?_ | refine Qaa ?_ _)); refine Qas (cs := #[.string (⟨#[]⟩ : ByteArray), .int .i64 0, .int .i64 x105002_1, .int .i64 x105003_1, .int .i64 x105004_1, .int .i64 x105005_1]) ?_ 2 _ rfl; (with_reducible repeat (first | refine Qab ?_ _ | refine Qad ?_ | refine Qaa ?_ _)); refine Qas (cs := #[.string (⟨#[]⟩ : ByteArray), .int .i64 x105001_1, .int .i64 x105002_1, .int .i64 x105003_1, .int .i64 x105004_1, .int .i64 x105005_1]) ?_ 1 _ rfl; (with_reducible repeat (first | refine Qab ?_ _ | refine Qad ?_ | refine Qaa ?_ _)); refine Qas (cs := #[.string x105000_1, .int .i64 x105001_1, .int .i64 x105002_1, .int .i64 x105003_1, .int .i64 x105004_1, .int .i64 x105005_1]) ?_ 0 _ rfl; (with_reducible repeat (first | refine Qab ?_ _ | refine Qad ?_ | refine Qaa ?_ _)); exact BK104.out) Try.underlying84 rfl (by kernel_rfl)) rfl ?_
    exact ⟨Zq, Zc2 GE104.out GE108.out⟩
def Qa3.f (k : Nat) (l0 : List (S84)) (a1 : ByteArray) : Option (ByteArray × Int × Int × Int × Int × Int × Bool) := (QaB.f k l0 a1).bind fun bt110 => (some (bt110.1, bt110.2.1, bt110.2.2.1, bt110.2.2.2.1, bt110.2.2.2.2.1, bt110.2.2.2.2.2.1, bt110.2.2.2.2.2.2))
theorem Qa3.mono : ∀ a0 a1 k, LeO (Qa3.f k a0 a1) (Qa3.f (k + 1) a0 a1) := by
 intro a0 a1 k
 unfold Qa3.f
 repeat' first
   | (with_reducible exact QaB.mono _ _ _)
   | (with_reducible exact LeO.refl _)
   | (with_reducible exact LeO.none _)
   | (with_reducible refine LeO.ite ?_ ?_)
   | (with_reducible refine LeO.bind ?_ (fun _ => ?_))
   | exact QaB.mono _ _ _
   | exact LeO.none _
   | refine LeO.ite ?_ ?_
   | refine LeO.bind ?_ (fun _ => ?_)
set_option maxHeartbeats 8000000 in
set_option maxRecDepth 100000 in
theorem Qa3.calls (k : Nat) (A0 : Option Addr) (c0 : Nat) (l0 : List (S84)) (a1 : ByteArray) (r1 : ByteArray) (r2 : Int) (r3 : Int) (r4 : Int) (r5 : Int) (r6 : Int) (r7 : Bool) (w : World) (hr0 : Kd.C k84 w A0 l0.length l0) (hc0 : l0.length ≤ c0) (h : Qa3.f k l0 a1 = some (r1, r2, r3, r4, r5, r6, r7)) :
  Calls Try.prog 48 #[.slice A0 l0.length c0, .string a1] w fun e w' => e = .returned (.tuple #[.agg #[.string r1, .int .i64 r2, .int .i64 r3, .int .i64 r4, .int .i64 r5, .int .i64 r6], .bool r7]) ∧ Below w.heap.size w w' := by
 have hu84 := Try.underlying84
 have HR0 := Aside0.mk hr0
 have HC0 := Aside0.mk hc0
 clear hr0 hc0
 have HB := Aside0.mk (Below.refl w.heap.size w)
 have H : ((QaB.f k l0 a1).bind fun bt110 => (some (bt110.1, bt110.2.1, bt110.2.2.1, bt110.2.2.2.1, bt110.2.2.2.2.1, bt110.2.2.2.2.2.1, bt110.2.2.2.2.2.2))) = some (r1, r2, r3, r4, r5, r6, r7) := h
 clear h
 replace H := Option.bind_eq_some_iff.mp H
 obtain ⟨⟨t110, t111, t112, t113, t114, t115, t116⟩, A30, H⟩ := H
 replace H : (some (t110, t111, t112, t113, t114, t115, t116)) = some (r1, r2, r3, r4, r5, r6, r7) := H
 have A3 := Aside0.mk A30
 clear A30
 simp only [Option.some.injEq, Prod.mk.injEq] at H
 obtain ⟨rfl, rfl, rfl, rfl, rfl, rfl, rfl⟩ := H
 go_enter Try.func48, Try.ntmps48
 go_wp2_with (first | ((with_reducible refine QaD (N := 4) rfl ?_); refine QaL ?hg (N := 4) ?hd (cs := #[.string (⟨#[]⟩ : ByteArray), .int .i64 0, .int .i64 0, .int .i64 0, .int .i64 0, .int .i64 0]) (t := 84) ?hr ?_; (case hd => rfl); (case hg => rfl); (case hr => first | (go_simp; done) | (go_simp; rfl)); intro gb109 hg w4 hbox hb; have n0_ := Aside0.mk (Qaq (Zb) hb); have n1_ := Aside0.mk (hbox); have n2_ := Aside0.mk ((by rw [hg]; exact (Qan (Zb)) : w.heap.size ≤ gb109)); have n3_ := Aside0.mk ((by rw [hg]; exact (Qan (Zb)) : w.heap.size ≤ gb109)); clear HB; have HB := n0_; have BK109 := n1_; have GW109 := n2_; have GE109 := n3_; clear n0_ n1_ n2_ n3_; clear hb hbox hg) | ((with_reducible refine Qay (f := 76) rfl ?_); refine goesL_ (some 8) rfl rfl Try.func76 (by kernel_rfl) rfl #[.slice A0 l0.length c0, .string a1, .func (.func 77) #[] #[]] rfl (Zl) ?_; (with_reducible refine (QaB.calls k _ _ l0 a1  t110 t111 t112 t113 t114 t115 t116 _ ?side1 ?side2 A3.out).mono ?_); (case side1 => exact Zv (Kd.C_below HR0.out HB.out)); (case side2 => exact HC0.out); rintro e w5 ⟨rfl, hb⟩; refine ⟨_, rfl, ?_⟩; have n0_ := Aside0.mk (Qaj (g := gb109) (o := .cells #[.string (⟨#[]⟩ : ByteArray), .int .i64 0, .int .i64 0, .int .i64 0, .int .i64 0, .int .i64 0] 84 (0, 0)) (Zu BK109.out) hb); have n1_ := Aside0.mk (Qaq (Zc1 GE109.out) hb); clear BK109; clear HB; have BK109 := n0_; have HB := n1_; clear n0_ n1_; (try clear hb); (try clear hb2); (try clear hk); (try clear hi); have hcz6_0 : w5.cell? ⟨gb109, 0, none⟩ = some (.string (⟨#[]⟩ : ByteArray)) := (Qah BK109.out 0).trans rfl; have hcz6_1 : w5.cell? ⟨gb109, 1, none⟩ = some (.int .i64 0) := (Qah BK109.out 1).trans rfl; have hcz6_2 : w5.cell? ⟨gb109, 2, none⟩ = some (.int .i64 0) := (Qah BK109.out 2).trans rfl; have hcz6_3 : w5.cell? ⟨gb109, 3, none⟩ = some (.int .i64 0) := (Qah BK109.out 3).trans rfl; have hcz6_4 : w5.cell? ⟨gb109, 4, none⟩ = some (.int .i64 0) := (Qah BK109.out 4).trans rfl; have hcz6_5 : w5.cell? ⟨gb109, 5, none⟩ = some (.int .i64 0) := (Qah BK109.out 5).trans rfl; have hfz6_0 := Qaf BK109.out 0; have hfz6_1 := Qaf BK109.out 1; have hfz6_2 := Qaf BK109.out 2; have hfz6_3 := Qaf BK109.out 3; have hfz6_4 := Qaf BK109.out 4; have hfz6_5 := Qaf BK109.out 5))
 refine bodyPost_ret (QbS rfl _ _ gb109 84 #[.string t110, .int .i64 t111, .int .i64 t112, .int .i64 t113, .int .i64 t114, .int .i64 t115] (0, 0) _ rfl (by (with_reducible repeat (first | refine Qab ?_ _ | refine Qad ?_ | refine Qaa ?_ _)); refine Qas (cs := #[.string t110, .int .i64 t111, .int .i64 t112, .int .i64 t113, .int .i64 t114, .int .i64 0]) ?_ 5 _ rfl; (with_reducible repeat (first | refine Qab ?_ _ | refine Qad ?_ | refine Qaa ?_ _)); refine Qas (cs := #[.string t110, .int .i64 t111, .int .i64 t112, .int .i64 t113, .int .i64 0, .int .i64 0]) ?_ 4 _ rfl; (with_reducible repeat (first | refine Qab ?_ _ | refine Qad ?_ | refine Qaa ?_ _)); refine Qas (cs := #[.string t110, .int .i64 t111, .int .i64 t112, .int .i64 0, .int .i64 0, .int .i64 0]) ?_ 3 _ rfl; (with_reducible repeat (first | refine Qab ?_ _ | refine Qad ?_ | refine Qaa ?_ _)); refine Qas (cs := #[.string t110, .int .i64 t111, .int .i64 0, .int .i64 0, .int .i64 0, .int .i64 0]) ?_ 2 _ rfl; (with_reducible repeat (first | refine Qab ?_ _ | refine Qad ?_ | refine Qaa ?_ _)); refine Qas (cs := #[.string t110, .int .i64 0, .int .i64 0, .int .i64 0, .int .i64 0, .int .i64 0]) ?_ 1 _ rfl; (with_reducible repeat (first | refine Qab ?_ _ | refine Qad ?_ | refine Qaa ?_ _)); refine Qas (cs := #[.string (⟨#[]⟩ : ByteArray), .int .i64 0, .int .i64 0, .int .i64 0, .int .i64 0, .int .i64 0]) ?_ 0 _ rfl; (with_reducible repeat (first | refine Qab ?_ _ | refine Qad ?_ | refine Qaa ?_ _)); exact BK109.out) Try.underlying84 rfl (by kernel_rfl)) rfl ?_
 exact ⟨Zq, Zc1 GE109.out⟩
def QbF.f (a0 : Int) : Option (Int × Int) := (Qbh.f a0).bind fun t172 => (if t172 = true then (some (a0, 0)) else (some (0, 3)))
set_option maxHeartbeats 8000000 in
set_option maxRecDepth 100000 in
theorem QbF.calls (a0 : Int) (r1 : Int) (r2 : Int) (w : World) (h : QbF.f a0 = some (r1, r2)) :
  Calls Try.prog 97 #[.int .i64 a0] w fun e w' => e = .returned (.tuple #[.int .i64 r1, .int .i64 r2]) ∧ Drawn0 w w' := by
 have H : ((Qbh.f a0).bind fun t172 => (if t172 = true then (some (a0, 0)) else (some (0, 3)))) = some (r1, r2) := h
 clear h
 replace H := Option.bind_eq_some_iff.mp H
 obtain ⟨t172, A20, H⟩ := H
 replace H : (if t172 = true then (some (a0, 0)) else (some (0, 3))) = some (r1, r2) := H
 have A2 := Aside0.mk A20
 clear A20
 go_enter Try.func97, Try.ntmps97
 go_upto_if 6 with (first | ((with_reducible refine Qay (f := 87) rfl ?_); refine goesL_ (some 5) rfl rfl Try.func87 (by kernel_rfl) rfl #[.int .i64 a0] rfl (Zl) ?_; (with_reducible refine (Qbh.calls a0 t172 _ A2.out).mono ?_); rintro e w' ⟨rfl, ⟨nd, rfl⟩⟩; refine ⟨_, rfl, ?_⟩))
 (try simp only [Act.put, List.setIfInBounds_toArray, List.set_cons_zero, List.set_cons_succ])
 by_cases c3 : t172 = true
 ·subst c3
  have H1 : (some (a0, 0)) = some (r1, r2) := by rw [if_pos rfl] at H; exact H
  clear H
  have H := H1
  clear H1
  simp only [Option.some.injEq, Prod.mk.injEq] at H
  obtain ⟨rfl, rfl⟩ := H
  go_wp2
  go_ret2
  exact ⟨Zs, by repeat (first | exact Drawn0.refl _ | apply Drawn0.step)⟩
 ·replace c3 := Bool.eq_false_iff.mpr c3
  subst c3
  have H1 : (some (0, 3)) = some (r1, r2) := by rw [if_neg (show ¬ (false = true) by decide)] at H; exact H
  clear H
  have H := H1
  clear H1
  simp only [Option.some.injEq, Prod.mk.injEq] at H
  obtain ⟨rfl, rfl⟩ := H
  go_wp2
  go_ret2
  exact ⟨Zs, by repeat (first | exact Drawn0.refl _ | apply Drawn0.step)⟩
def QaZ.l0 : Nat → List Int → Int → Int → Int → Int → Option (Int × Int)
 | 0, _, _, _, _, _ => none
 | k + 1, x0, x4, x5, x9, x10 => if x10 < x9 then (if 0 ≤ x10 then (if x10 < (x0.length : Int) then ((Qbh.f (rd x0 x10)).bind fun t174 => (if t174 = true then (QaZ.l0 k x0 (wrap64 (x4 + ((rd x0 x10) / 4294967296))) (wrap64 (x5 + (Go.bits .and .i64 (rd x0 x10) 4294967295))) x9 (wrap64 (x10 + 1))) else (some (0, 2)))) else (none)) else (none)) else (if (wrap64 (x4 + (x5 / 4294967296))) < (-268435456) then (some (0, 3)) else (if (wrap64 (x4 + (x5 / 4294967296))) > 268435456 then (some (0, 3)) else ((QbF.f (wrap64 ((wrap64 ((wrap64 (x4 + (x5 / 4294967296))) * 4294967296)) + (Go.bits .and .i64 x5 4294967295)))).bind fun bt177 => (some (bt177.1, bt177.2)))))
def QaZ.f (k : Nat) (l0 : List Int) : Option (Int × Int) := QaZ.l0 k l0 0 0 (l0.length : Int) 0
theorem QaZ.mono_l : ∀ k, (∀ y0 y1 y2 y3 y4, LeO (QaZ.l0 k y0 y1 y2 y3 y4) (QaZ.l0 (k + 1) y0 y1 y2 y3 y4))
 | 0 => fun _ _ _ _ _ r h => by simp [QaZ.l0] at h
 | k + 1 => by
  have ih0 := QaZ.mono_l k
  ·intro y0 y1 y2 y3 y4
   unfold QaZ.l0
   repeat' first
   | (with_reducible exact ih0 _ _ _ _ _)
   | (with_reducible exact LeO.refl _)
   | (with_reducible exact LeO.none _)
   | (with_reducible refine LeO.ite ?_ ?_)
   | (with_reducible refine LeO.bind ?_ (fun _ => ?_))
   | exact ih0 _ _ _ _ _
   | exact LeO.none _
   | refine LeO.ite ?_ ?_
   | refine LeO.bind ?_ (fun _ => ?_)
theorem QaZ.mono : ∀ a0 k, LeO (QaZ.f k a0) (QaZ.f (k + 1) a0) := by
 intro a0 k
 have ih0 := QaZ.mono_l k
 unfold QaZ.f
 repeat' first
   | (with_reducible exact ih0 _ _ _ _ _)
   | (with_reducible exact LeO.refl _)
   | (with_reducible exact LeO.none _)
   | (with_reducible refine LeO.ite ?_ ?_)
   | (with_reducible refine LeO.bind ?_ (fun _ => ?_))
   | exact ih0 _ _ _ _ _
   | exact LeO.none _
   | refine LeO.ite ?_ ?_
   | refine LeO.bind ?_ (fun _ => ?_)
set_option maxHeartbeats 8000000 in
set_option maxRecDepth 100000 in
theorem QaZ.calls (k : Nat) (A0 : Option Addr) (c0 : Nat) (l0 : List Int) (r1 : Int) (r2 : Int) (w : World) (hr0 : Kd.C (Kd.int .i64) w A0 l0.length l0) (hc0 : l0.length ≤ c0) (h : QaZ.f k l0 = some (r1, r2)) :
  Calls Try.prog 59 #[.slice A0 l0.length c0] w fun e w' => e = .returned (.tuple #[.int .i64 r1, .int .i64 r2]) ∧ Drawn0 w w' := by
 have HR0 := Aside0.mk hr0
 have HC0 := Aside0.mk hc0
 clear hr0 hc0
 have H : (QaZ.l0 k l0 0 0 (l0.length : Int) 0) = some (r1, r2) := h
 clear h
 have H' := Aside0.mk H
 clear H
 go_enter Try.func59, Try.ntmps59
 go_wp2
 go_loopg [4, 5, 10] k (fun kq v4 v5 v10 w' => ∃ (x4_1 : Int) (x5_1 : Int) (x10_1 : Int), v4 = .int .i64 x4_1 ∧ v5 = .int .i64 x5_1 ∧ v10 = .int .i64 x10_1 ∧ Aside0 (QaZ.l0 kq l0 x4_1 x5_1 (l0.length : Int) x10_1 = some (r1, r2)) ∧ Aside0 (kq ≤ k) ∧ Drawn0 w w')
 case atStart => exact ⟨(0), (0), (0), (Zs), (Zs), (Zs), H', ⟨Nat.le_refl _⟩, by repeat (first | exact Drawn0.refl _ | apply Drawn0.step)⟩
 case round =>
  clear H'
  obtain ⟨x4_1, x5_1, x10_1, rfl, rfl, rfl, HA, HK1, ⟨m1, rfl⟩⟩ := hrel
  cases gk with
  | zero => exact absurd HA.out (by simp [QaZ.l0])
  | succ k1 =>
   have H := HA.out
   clear HA
   simp only [QaZ.l0] at H
   by_cases c2 : x10_1 < (l0.length : Int)
   ·rw [if_pos c2] at H
    have c2b0 : decide (x10_1 < (l0.length : Int)) = true := decide_eq_true c2
    clear c2
    (try simp only [c2b0])
    by_cases c3 : 0 ≤ x10_1
    ·rw [if_pos c3] at H
     have c3b0 : decide (0 ≤ x10_1) = true := decide_eq_true c3
     clear c3
     by_cases c4 : x10_1 < (l0.length : Int)
     ·rw [if_pos c4] at H
      have c4b0 : decide (x10_1 < (l0.length : Int)) = true := decide_eq_true c4
      clear c4
      replace H := Option.bind_eq_some_iff.mp H
      obtain ⟨t174, A50, H⟩ := H
      replace H : (if t174 = true then (QaZ.l0 k1 l0 (wrap64 (x4_1 + ((rd l0 x10_1) / 4294967296))) (wrap64 (x5_1 + (Go.bits .and .i64 (rd l0 x10_1) 4294967295))) (l0.length : Int) (wrap64 (x10_1 + 1))) else (some (0, 2))) = some (r1, r2) := H
      have A5 := Aside0.mk A50
      clear A50
      have p173 : 0 ≤ (x10_1 : Int) := Ze
      have q173 : x10_1 < (l0.length : Int) := Ze
      obtain ⟨ad173, e173, hx173_0⟩ := Kd.at_int HR0.out x10_1 p173 q173
      cases e173
      replace p173 := eq_true p173
      replace q173 := eq_true q173
      go_upto_if 18 with (first | ((with_reducible refine Qay (f := 87) rfl ?_); refine goesL_ (some 17) rfl rfl Try.func87 (by kernel_rfl) rfl #[.int .i64 (rd l0 x10_1)] rfl (Zl) ?_; (with_reducible refine (Qbh.calls (rd l0 x10_1) t174 _ A5.out).mono ?_); rintro e w' ⟨rfl, ⟨nd, rfl⟩⟩; refine ⟨_, rfl, ?_⟩))
      (try simp only [Act.put, List.setIfInBounds_toArray, List.set_cons_zero, List.set_cons_succ])
      by_cases c6 : t174 = true
      ·subst c6
       have H1 : (QaZ.l0 k1 l0 (wrap64 (x4_1 + ((rd l0 x10_1) / 4294967296))) (wrap64 (x5_1 + (Go.bits .and .i64 (rd l0 x10_1) 4294967295))) (l0.length : Int) (wrap64 (x10_1 + 1))) = some (r1, r2) := by rw [if_pos rfl] at H; exact H
       clear H
       have H := H1
       clear H1
       have H' := Aside0.mk H
       clear H
       have p175 : 0 ≤ (x10_1 : Int) := Ze
       have q175 : x10_1 < (l0.length : Int) := Ze
       obtain ⟨ad175, e175, hx175_0⟩ := Kd.at_int HR0.out x10_1 p175 q175
       obtain rfl : ad173 = ad175 := (by injection e175)
       replace p175 := eq_true p175
       replace q175 := eq_true q175
       have p176 : 0 ≤ (x10_1 : Int) := Ze
       have q176 : x10_1 < (l0.length : Int) := Ze
       obtain ⟨ad176, e176, hx176_0⟩ := Kd.at_int HR0.out x10_1 p176 q176
       obtain rfl : ad173 = ad176 := (by injection e176)
       replace p176 := eq_true p176
       replace q176 := eq_true q176
       go_wp2
       go_roundg k1
       case measure => have := HK1.out; omega
       case rel => exact ⟨(wrap64 (x4_1 + ((rd l0 x10_1) / 4294967296))), (wrap64 (x5_1 + (Go.bits .and .i64 (rd l0 x10_1) 4294967295))), (wrap64 (x10_1 + 1)), (Zs), (Zs), (Zs), H', ⟨by have := HK1.out; omega⟩, by repeat (first | exact Drawn0.refl _ | apply Drawn0.step)⟩
      ·replace c6 := Bool.eq_false_iff.mpr c6
       subst c6
       have H1 : (some (0, 2)) = some (r1, r2) := by rw [if_neg (show ¬ (false = true) by decide)] at H; exact H
       clear H
       have H := H1
       clear H1
       simp only [Option.some.injEq, Prod.mk.injEq] at H
       obtain ⟨rfl, rfl⟩ := H
       go_wp2
       go_ret2
       exact ⟨Zs, by repeat (first | exact Drawn0.refl _ | apply Drawn0.step)⟩
     ·rw [if_neg c4] at H
      exact absurd H (by simp)
    ·rw [if_neg c3] at H
     exact absurd H (by simp)
   ·rw [if_neg c2] at H
    have c2b0 : decide (x10_1 < (l0.length : Int)) = false := decide_eq_false c2
    clear c2
    (try simp only [c2b0])
    by_cases c7 : (wrap64 (x4_1 + (x5_1 / 4294967296))) < (-268435456)
    ·rw [if_pos c7] at H
     have c7b0 : decide ((wrap64 (x4_1 + (x5_1 / 4294967296))) < (-268435456)) = true := decide_eq_true c7
     clear c7
     simp only [Option.some.injEq, Prod.mk.injEq] at H
     obtain ⟨rfl, rfl⟩ := H
     go_wp2
     go_ret2
     exact ⟨Zs, by repeat (first | exact Drawn0.refl _ | apply Drawn0.step)⟩
    ·rw [if_neg c7] at H
     have c7b0 : decide ((wrap64 (x4_1 + (x5_1 / 4294967296))) < (-268435456)) = false := decide_eq_false c7
     clear c7
     by_cases c8 : (wrap64 (x4_1 + (x5_1 / 4294967296))) > 268435456
     ·rw [if_pos c8] at H
      have c8b0 : decide (268435456 < (wrap64 (x4_1 + (x5_1 / 4294967296)))) = true := decide_eq_true c8
      clear c8
      (try simp only [c8b0])
      simp only [Option.some.injEq, Prod.mk.injEq] at H
      obtain ⟨rfl, rfl⟩ := H
      go_wp2
      go_ret2
      exact ⟨Zs, by repeat (first | exact Drawn0.refl _ | apply Drawn0.step)⟩
     ·rw [if_neg c8] at H
      have c8b0 : decide (268435456 < (wrap64 (x4_1 + (x5_1 / 4294967296)))) = false := decide_eq_false c8
      clear c8
      (try simp only [c8b0])
      replace H := Option.bind_eq_some_iff.mp H
      obtain ⟨⟨t177, t178⟩, A90, H⟩ := H
      replace H : (some (t177, t178)) = some (r1, r2) := H
      have A9 := Aside0.mk A90
      clear A90
      simp only [Option.some.injEq, Prod.mk.injEq] at H
      obtain ⟨rfl, rfl⟩ := H
      go_wp2_with (first | ((with_reducible refine Qay (f := 97) rfl ?_); refine goesL_ (some 52) rfl rfl Try.func97 (by kernel_rfl) rfl #[.int .i64 (wrap64 ((wrap64 ((wrap64 (x4_1 + (x5_1 / 4294967296))) * 4294967296)) + (Go.bits .and .i64 x5_1 4294967295)))] rfl (Zl) ?_; (with_reducible refine (QbF.calls (wrap64 ((wrap64 ((wrap64 (x4_1 + (x5_1 / 4294967296))) * 4294967296)) + (Go.bits .and .i64 x5_1 4294967295))) t177 t178 _ A9.out).mono ?_); rintro e w' ⟨rfl, ⟨nd, rfl⟩⟩; refine ⟨_, rfl, ?_⟩))
      go_ret2
      exact ⟨Zs, by repeat (first | exact Drawn0.refl _ | apply Drawn0.step)⟩
def Qbe.f (a0 a1 : Int) : Option (Int × Int) :=
 if 0 ≤ a0 ∧ a0 ≤ 18446744073709551615 ∧ 0 ≤ a1 ∧ a1 ≤ 18446744073709551615 then some (a0 * a1 / 18446744073709551616, a0 * a1 % 18446744073709551616) else none
theorem QcE (a : Nat) (ha : a < 18446744073709551616) : Go.bits .and .u64 (a : Int) 4294967295 = ((a % 4294967296 : Nat) : Int) := by
 have h := bits_and_u64_nat a 4294967295 ha (by omega)
 have e : a &&& 4294967295 = a % 4294967296 := Nat.and_two_pow_sub_one_eq_mod a 32
 rw [e] at h
 exact h
theorem Qfn (a : Nat) : (a : Int) / 4294967296 = ((a / 4294967296 : Nat) : Int) := by omega
theorem Qfo (a b : Nat) : (a : Int) * (b : Int) = ((a * b : Nat) : Int) := (Int.natCast_mul a b).symm
theorem Qfm (a b : Nat) : (a : Int) + (b : Int) = ((a + b : Nat) : Int) := (Int.natCast_add a b).symm
theorem QbI (a : Nat) (ha : a < 18446744073709551616) : IntKind.u64.wrap (a : Int) = (a : Int) := by rw [IntKind.wrap_u64]; omega
theorem QeV (a : Nat) : IntKind.u64.wrap (a : Int) = ((a % 18446744073709551616 : Nat) : Int) := by rw [IntKind.wrap_u64]; omega
set_option maxHeartbeats 1000000 in
theorem Qbe.walk (x y : Nat) (hx : x < 18446744073709551616) (hy : y < 18446744073709551616) (w : World) :
  Calls Try.prog 88 #[.int .u64 x, .int .u64 y] w fun e w' => e = .returned (.tuple #[.int .u64 ((x * y / 18446744073709551616 : Nat) : Int), .int .u64 ((x * y % 18446744073709551616 : Nat) : Int)]) ∧ w' = w := by
 obtain ⟨bd, bt, bw, hhi⟩ := Lib.mul64_hi x y hx hy
 have ba := Lib.half_mul_le (a := x / 4294967296) (b := y / 4294967296) (by omega) (by omega)
 have bb := Lib.half_mul_le (a := x / 4294967296) (b := y % 4294967296) (by omega) (by omega)
 have bc := Lib.half_mul_le (a := x % 4294967296) (b := y / 4294967296) (by omega) (by omega)
 have ba' : x / 4294967296 * (y / 4294967296) < 18446744073709551616 := by omega
 have bb' : x / 4294967296 * (y % 4294967296) < 18446744073709551616 := by omega
 have bc' : x % 4294967296 * (y / 4294967296) < 18446744073709551616 := by omega
 have bh1 : x / 4294967296 * (y / 4294967296) + (x / 4294967296 * (y % 4294967296) + x % 4294967296 * (y % 4294967296) / 4294967296) / 4294967296 < 18446744073709551616 := by omega
 have bh : x / 4294967296 * (y / 4294967296) + (x / 4294967296 * (y % 4294967296) + x % 4294967296 * (y % 4294967296) / 4294967296) / 4294967296 + ((x / 4294967296 * (y % 4294967296) + x % 4294967296 * (y % 4294967296) / 4294967296) % 4294967296 + x % 4294967296 * (y / 4294967296)) / 4294967296 < 18446744073709551616 := by omega
 go_enter Try.func88, Try.ntmps88
 go_wp2
 simp only [QcE x hx, QcE y hy, Qfn, Qfo, Qfm, QbI _ bd, QbI _ bb', QbI _ bt, QcE _ bt, QbI _ bc', QbI _ bw, QbI _ ba', QbI _ bh1, QbI _ bh, QeV (x * y)]
 rw [hhi]
 go_ret2
 exact ⟨rfl, rfl⟩
theorem Qbe.calls (a0 a1 r1 r2 : Int) (w : World) (h : Qbe.f a0 a1 = some (r1, r2)) :
  Calls Try.prog 88 #[.int .u64 a0, .int .u64 a1] w fun e w' => e = .returned (.tuple #[.int .u64 r1, .int .u64 r2]) ∧ Drawn0 w w' := by
 unfold Qbe.f at h
 by_cases c : 0 ≤ a0 ∧ a0 ≤ 18446744073709551615 ∧ 0 ≤ a1 ∧ a1 ≤ 18446744073709551615
 ·rw [if_pos c] at h
  obtain ⟨c1, c2, c3, c4⟩ := c
  obtain ⟨x, rfl⟩ := Int.eq_ofNat_of_zero_le c1
  obtain ⟨y, rfl⟩ := Int.eq_ofNat_of_zero_le c3
  have h' := Option.some.inj h
  simp only [Prod.mk.injEq] at h'
  obtain ⟨rfl, rfl⟩ := h'
  refine (Qbe.walk x y (by omega) (by omega) w).mono ?_
  rintro e w' ⟨rfl, rfl⟩
  exact ⟨rfl, Drawn0.refl _⟩
 ·rw [if_neg c] at h
  cases h
def Qbc.f (a0 : Int) : Option Int := if 0 ≤ a0 ∧ a0 ≤ 18446744073709551615 then some (Lib.bitLen a0.toNat : Int) else none
theorem Qbc.tab (n : Nat) (h : n < Lib.len8tab.size) (hn : n ≤ 255) : ((Lib.len8tab[n]'h).toNat : Int) = (Lib.bitLen n : Int) ∧ Lib.bitLen n ≤ 8 := by
 have e := Lib.len8_of (n : Int) (by omega) (by omega)
 have l := Lib.bitLen_le8' (n : Int) (by omega) (by omega)
 rw [Int.toNat_natCast] at e l
 refine ⟨?_, l⟩
 rw [← e]
 unfold Lib.len8
 rw [Int.toNat_natCast, getElem?_pos Lib.len8tab n h]
 rfl
theorem Qbc.close (x m n k : Nat) (h : n < Lib.len8tab.size) (hn : n ≤ 255) (hx : Lib.bitLen x = k + Lib.bitLen m) (hm : n = m) (hk : k ≤ 56) :
  wrap64 ((k : Int) + wrap64 ((Lib.len8tab[n]'h).toNat : Int)) = (Lib.bitLen x : Int) := by
 obtain ⟨a, b⟩ := Qbc.tab n h hn
 subst hm
 rw [a]
 unfold wrap64
 omega
theorem Qbc.close0 (x n : Nat) (h : n < Lib.len8tab.size) (hn : n ≤ 255) (hm : n = x) :
  wrap64 (wrap64 ((Lib.len8tab[n]'h).toNat : Int)) = (Lib.bitLen x : Int) := by
 obtain ⟨a, b⟩ := Qbc.tab n h hn
 subst hm
 rw [a]
 unfold wrap64
 omega
set_option maxHeartbeats 4000000 in
set_option maxRecDepth 100000 in
theorem Qbc.walk (x : Int) (w : World) (h0 : 0 ≤ x) (h1 : x ≤ 18446744073709551615) :
  Calls Try.prog 127 #[.int .u64 x] w fun e w' => e = .returned (.int .i64 (Lib.bitLen x.toNat)) ∧ w' = w := by
 have u9 := Try.underlying9
 have u5 := Try.underlying5
 have u65 := Try.underlying131
 have u3 := Try.underlying3
 have u42 := Try.underlying129
 go_enter Try.func127, Try.ntmps127
 go_wp2
 all_goals (first | (exfalso; have := Lib.len8tab_size; omega) | skip)
 all_goals (go_ret; refine ⟨congrArg Ending.returned (congrArg (Value.int IntKind.i64) ?_), rfl⟩)
 all_goals go_light
 ·exact Qbc.close x.toNat (x.toNat / 72057594037927936) _ 56 _ (by omega) (Lib.bitLen_shift56 x.toNat (by omega) (by omega)) (by omega) (by omega)
 ·exact Qbc.close x.toNat (x.toNat / 281474976710656) _ 48 _ (by omega) (Lib.bitLen_shift48 x.toNat (by omega) (by omega)) (by omega) (by omega)
 ·exact Qbc.close x.toNat (x.toNat / 1099511627776) _ 40 _ (by omega) (Lib.bitLen_shift40 x.toNat (by omega) (by omega)) (by omega) (by omega)
 ·exact Qbc.close x.toNat (x.toNat / 4294967296) _ 32 _ (by omega) (Lib.bitLen_shift32 x.toNat (by omega) (by omega)) (by omega) (by omega)
 ·exact Qbc.close x.toNat (x.toNat / 16777216) _ 24 _ (by omega) (Lib.bitLen_shift24 x.toNat (by omega) (by omega)) (by omega) (by omega)
 ·exact Qbc.close x.toNat (x.toNat / 65536) _ 16 _ (by omega) (Lib.bitLen_shift16 x.toNat (by omega) (by omega)) (by omega) (by omega)
 ·exact Qbc.close x.toNat (x.toNat / 256) _ 8 _ (by omega) (Lib.bitLen_shift8 x.toNat (by omega) (by omega)) (by omega) (by omega)
 ·exact Qbc.close0 x.toNat _ _ (by omega) rfl
theorem Qbc.calls (a0 r : Int) (w : World) (h : Qbc.f a0 = some r) :
  Calls Try.prog 127 #[.int .u64 a0] w fun e w' => e = .returned (.int .i64 r) ∧ Drawn0 w w' := by
 unfold Qbc.f at h
 by_cases c : 0 ≤ a0 ∧ a0 ≤ 18446744073709551615
 ·rw [if_pos c] at h
  obtain rfl := Option.some.inj h
  refine (Qbc.walk a0 w c.1 c.2).mono ?_
  rintro e w' ⟨rfl, rfl⟩
  exact ⟨rfl, Drawn0.refl _⟩
 ·rw [if_neg c] at h
  cases h
def Qbk.f (a0 : Int) : Option (Int) := (Qbc.f a0).bind fun t117 => (some (wrap64 (64 - t117)))
set_option maxHeartbeats 8000000 in
set_option maxRecDepth 100000 in
theorem Qbk.calls (a0 : Int) (r : Int) (w : World) (h : Qbk.f a0 = some r) :
  Calls Try.prog 117 #[.int .u64 a0] w fun e w' => e = .returned (.int .i64 r) ∧ Drawn0 w w' := by
 have H : ((Qbc.f a0).bind fun t117 => (some (wrap64 (64 - t117)))) = some r := h
 clear h
 replace H := Option.bind_eq_some_iff.mp H
 obtain ⟨t117, A20, H⟩ := H
 replace H : (some (wrap64 (64 - t117))) = some r := H
 have A2 := Aside0.mk A20
 clear A20
 obtain rfl := Option.some.inj H
 go_enter Try.func117, Try.ntmps117
 go_wp2_with (first | ((with_reducible refine Qay (f := 127) rfl ?_); refine goesL_ (some 4) rfl rfl Try.func127 (by kernel_rfl) rfl #[.int .u64 a0] rfl (Zl) ?_; (with_reducible refine (Qbc.calls a0 t117 _ A2.out).mono ?_); rintro e w' ⟨rfl, ⟨nd, rfl⟩⟩; refine ⟨_, rfl, ?_⟩))
 go_ret
 exact ⟨Zs, by repeat (first | exact Drawn0.refl _ | apply Drawn0.step)⟩
mutual
def Qau.j2 : Nat → Int → Int → Int → Int → Int → Int → Int → Int → Option (Int × Int)
 | 0, _, _, _, _, _, _, _, _ => none
 | k + 1, x2, x8, x9, x10, x11, x13, x14, x15 => if x9 = 0 then (none) else (Qau.l1 k x2 x8 x9 x10 x14 x15 (IntKind.u64.wrap ((IntKind.u64.wrap ((IntKind.u64.wrap ((IntKind.u64.wrap (x11 * 4294967296)) + x13)) - (IntKind.u64.wrap (x15 * x2)))) - (IntKind.u64.wrap ((IntKind.u64.wrap (Int.tdiv (IntKind.u64.wrap ((IntKind.u64.wrap ((IntKind.u64.wrap (x11 * 4294967296)) + x13)) - (IntKind.u64.wrap (x15 * x2)))) x9)) * x9)))) (IntKind.u64.wrap ((IntKind.u64.wrap ((IntKind.u64.wrap (x11 * 4294967296)) + x13)) - (IntKind.u64.wrap (x15 * x2)))) (IntKind.u64.wrap (Int.tdiv (IntKind.u64.wrap ((IntKind.u64.wrap ((IntKind.u64.wrap (x11 * 4294967296)) + x13)) - (IntKind.u64.wrap (x15 * x2)))) x9)))
def Qau.l1 : Nat → Int → Int → Int → Int → Int → Int → Int → Int → Int → Option (Int × Int)
 | 0, _, _, _, _, _, _, _, _, _ => none
 | k + 1, x2, x8, x9, x10, x14, x15, x16, x17, x18 => if x18 ≥ 4294967296 then (Qau.j4 k x2 x8 x9 x10 x14 x15 x16 x17 x18 true) else (Qau.j4 k x2 x8 x9 x10 x14 x15 x16 x17 x18 (decide ((IntKind.u64.wrap (x18 * x10)) > (IntKind.u64.wrap ((IntKind.u64.wrap (4294967296 * x16)) + x14)))))
def Qau.j4 : Nat → Int → Int → Int → Int → Int → Int → Int → Int → Int → Bool → Option (Int × Int)
 | 0, _, _, _, _, _, _, _, _, _, _ => none
 | k + 1, x2, x8, x9, x10, x14, x15, x16, x17, x18, x113 => if x113 = true then (if (IntKind.u64.wrap (x16 + x9)) ≥ 4294967296 then (if 0 ≤ x8 then (some (IntKind.u64.wrap ((IntKind.u64.wrap (x15 * 4294967296)) + (IntKind.u64.wrap (x18 - 1))), shr .u64 (IntKind.u64.wrap ((IntKind.u64.wrap ((IntKind.u64.wrap (x17 * 4294967296)) + x14)) - (IntKind.u64.wrap ((IntKind.u64.wrap (x18 - 1)) * x2)))) x8)) else (none)) else (Qau.l1 k x2 x8 x9 x10 x14 x15 (IntKind.u64.wrap (x16 + x9)) x17 (IntKind.u64.wrap (x18 - 1)))) else (if 0 ≤ x8 then (some (IntKind.u64.wrap ((IntKind.u64.wrap (x15 * 4294967296)) + x18), shr .u64 (IntKind.u64.wrap ((IntKind.u64.wrap ((IntKind.u64.wrap (x17 * 4294967296)) + x14)) - (IntKind.u64.wrap (x18 * x2)))) x8)) else (none))
def Qau.l0 : Nat → Int → Int → Int → Int → Int → Int → Int → Int → Int → Option (Int × Int)
 | 0, _, _, _, _, _, _, _, _, _ => none
 | k + 1, x2, x8, x9, x10, x11, x13, x14, x15, x16 => if x15 ≥ 4294967296 then (Qau.j1 k x2 x8 x9 x10 x11 x13 x14 x15 x16 true) else (Qau.j1 k x2 x8 x9 x10 x11 x13 x14 x15 x16 (decide ((IntKind.u64.wrap (x15 * x10)) > (IntKind.u64.wrap ((IntKind.u64.wrap (4294967296 * x16)) + x13)))))
def Qau.j1 : Nat → Int → Int → Int → Int → Int → Int → Int → Int → Int → Bool → Option (Int × Int)
 | 0, _, _, _, _, _, _, _, _, _, _ => none
 | k + 1, x2, x8, x9, x10, x11, x13, x14, x15, x16, x78 => if x78 = true then (if (IntKind.u64.wrap (x16 + x9)) ≥ 4294967296 then (Qau.j2 k x2 x8 x9 x10 x11 x13 x14 (IntKind.u64.wrap (x15 - 1))) else (Qau.l0 k x2 x8 x9 x10 x11 x13 x14 (IntKind.u64.wrap (x15 - 1)) (IntKind.u64.wrap (x16 + x9)))) else (Qau.j2 k x2 x8 x9 x10 x11 x13 x14 x15)
end
def Qau.f (k : Nat) (a0 : Int) (a1 : Int) (a2 : Int) : Option (Int × Int) := if a2 = 0 then (none) else (if a2 ≤ a0 then (none) else (if a0 = 0 then (some (IntKind.u64.wrap (Int.tdiv a1 a2), Int.tmod a1 a2)) else ((Qbk.f a2).bind fun t118 => (if 0 ≤ (IntKind.u64.wrap (t118)) then (if 0 ≤ (IntKind.u64.wrap (64 - (IntKind.u64.wrap (t118)))) then (if ((shl .u64 a2 (IntKind.u64.wrap (t118))) / 4294967296) = 0 then (none) else (Qau.l0 k (shl .u64 a2 (IntKind.u64.wrap (t118))) (IntKind.u64.wrap (t118)) ((shl .u64 a2 (IntKind.u64.wrap (t118))) / 4294967296) (Go.bits .and .u64 (shl .u64 a2 (IntKind.u64.wrap (t118))) 4294967295) (Go.bits .or .u64 (shl .u64 a0 (IntKind.u64.wrap (t118))) (shr .u64 a1 (IntKind.u64.wrap (64 - (IntKind.u64.wrap (t118)))))) ((shl .u64 a1 (IntKind.u64.wrap (t118))) / 4294967296) (Go.bits .and .u64 (shl .u64 a1 (IntKind.u64.wrap (t118))) 4294967295) (IntKind.u64.wrap (Int.tdiv (Go.bits .or .u64 (shl .u64 a0 (IntKind.u64.wrap (t118))) (shr .u64 a1 (IntKind.u64.wrap (64 - (IntKind.u64.wrap (t118)))))) ((shl .u64 a2 (IntKind.u64.wrap (t118))) / 4294967296))) (IntKind.u64.wrap ((Go.bits .or .u64 (shl .u64 a0 (IntKind.u64.wrap (t118))) (shr .u64 a1 (IntKind.u64.wrap (64 - (IntKind.u64.wrap (t118)))))) - (IntKind.u64.wrap ((IntKind.u64.wrap (Int.tdiv (Go.bits .or .u64 (shl .u64 a0 (IntKind.u64.wrap (t118))) (shr .u64 a1 (IntKind.u64.wrap (64 - (IntKind.u64.wrap (t118)))))) ((shl .u64 a2 (IntKind.u64.wrap (t118))) / 4294967296))) * ((shl .u64 a2 (IntKind.u64.wrap (t118))) / 4294967296))))))) else (none)) else (none)))))
theorem Qau.mono_l : ∀ k, (∀ y0 y1 y2 y3 y4 y5 y6 y7, LeO (Qau.j2 k y0 y1 y2 y3 y4 y5 y6 y7) (Qau.j2 (k + 1) y0 y1 y2 y3 y4 y5 y6 y7)) ∧ (∀ y0 y1 y2 y3 y4 y5 y6 y7 y8, LeO (Qau.l1 k y0 y1 y2 y3 y4 y5 y6 y7 y8) (Qau.l1 (k + 1) y0 y1 y2 y3 y4 y5 y6 y7 y8)) ∧ (∀ y0 y1 y2 y3 y4 y5 y6 y7 y8 y9, LeO (Qau.j4 k y0 y1 y2 y3 y4 y5 y6 y7 y8 y9) (Qau.j4 (k + 1) y0 y1 y2 y3 y4 y5 y6 y7 y8 y9)) ∧ (∀ y0 y1 y2 y3 y4 y5 y6 y7 y8, LeO (Qau.l0 k y0 y1 y2 y3 y4 y5 y6 y7 y8) (Qau.l0 (k + 1) y0 y1 y2 y3 y4 y5 y6 y7 y8)) ∧ (∀ y0 y1 y2 y3 y4 y5 y6 y7 y8 y9, LeO (Qau.j1 k y0 y1 y2 y3 y4 y5 y6 y7 y8 y9) (Qau.j1 (k + 1) y0 y1 y2 y3 y4 y5 y6 y7 y8 y9))
 | 0 => ⟨fun _ _ _ _ _ _ _ _ r h => by simp [Qau.j2] at h, fun _ _ _ _ _ _ _ _ _ r h => by simp [Qau.l1] at h, fun _ _ _ _ _ _ _ _ _ _ r h => by simp [Qau.j4] at h, fun _ _ _ _ _ _ _ _ _ r h => by simp [Qau.l0] at h, fun _ _ _ _ _ _ _ _ _ _ r h => by simp [Qau.j1] at h⟩
 | k + 1 => by
  obtain ⟨ih0, ih1, ih2, ih3, ih4⟩ := Qau.mono_l k
  refine ⟨?_, ?_, ?_, ?_, ?_⟩
  ·intro y0 y1 y2 y3 y4 y5 y6 y7
   unfold Qau.j2
   repeat' first
   | (with_reducible exact ih0 _ _ _ _ _ _ _ _)
   | (with_reducible exact ih1 _ _ _ _ _ _ _ _ _)
   | (with_reducible exact ih2 _ _ _ _ _ _ _ _ _ _)
   | (with_reducible exact ih3 _ _ _ _ _ _ _ _ _)
   | (with_reducible exact ih4 _ _ _ _ _ _ _ _ _ _)
   | (with_reducible exact LeO.refl _)
   | (with_reducible exact LeO.none _)
   | (with_reducible refine LeO.ite ?_ ?_)
   | (with_reducible refine LeO.bind ?_ (fun _ => ?_))
   | exact ih0 _ _ _ _ _ _ _ _
   | exact ih1 _ _ _ _ _ _ _ _ _
   | exact ih2 _ _ _ _ _ _ _ _ _ _
   | exact ih3 _ _ _ _ _ _ _ _ _
   | exact ih4 _ _ _ _ _ _ _ _ _ _
   | exact LeO.none _
   | refine LeO.ite ?_ ?_
   | refine LeO.bind ?_ (fun _ => ?_)
  ·intro y0 y1 y2 y3 y4 y5 y6 y7 y8
   unfold Qau.l1
   repeat' first
   | (with_reducible exact ih0 _ _ _ _ _ _ _ _)
   | (with_reducible exact ih1 _ _ _ _ _ _ _ _ _)
   | (with_reducible exact ih2 _ _ _ _ _ _ _ _ _ _)
   | (with_reducible exact ih3 _ _ _ _ _ _ _ _ _)
   | (with_reducible exact ih4 _ _ _ _ _ _ _ _ _ _)
   | (with_reducible exact LeO.refl _)
   | (with_reducible exact LeO.none _)
   | (with_reducible refine LeO.ite ?_ ?_)
   | (with_reducible refine LeO.bind ?_ (fun _ => ?_))
   | exact ih0 _ _ _ _ _ _ _ _
   | exact ih1 _ _ _ _ _ _ _ _ _
   | exact ih2 _ _ _ _ _ _ _ _ _ _
   | exact ih3 _ _ _ _ _ _ _ _ _
   | exact ih4 _ _ _ _ _ _ _ _ _ _
   | exact LeO.none _
   | refine LeO.ite ?_ ?_
   | refine LeO.bind ?_ (fun _ => ?_)
  ·intro y0 y1 y2 y3 y4 y5 y6 y7 y8 y9
   unfold Qau.j4
   repeat' first
   | (with_reducible exact ih0 _ _ _ _ _ _ _ _)
   | (with_reducible exact ih1 _ _ _ _ _ _ _ _ _)
   | (with_reducible exact ih2 _ _ _ _ _ _ _ _ _ _)
   | (with_reducible exact ih3 _ _ _ _ _ _ _ _ _)
   | (with_reducible exact ih4 _ _ _ _ _ _ _ _ _ _)
   | (with_reducible exact LeO.refl _)
   | (with_reducible exact LeO.none _)
   | (with_reducible refine LeO.ite ?_ ?_)
   | (with_reducible refine LeO.bind ?_ (fun _ => ?_))
   | exact ih0 _ _ _ _ _ _ _ _
   | exact ih1 _ _ _ _ _ _ _ _ _
   | exact ih2 _ _ _ _ _ _ _ _ _ _
   | exact ih3 _ _ _ _ _ _ _ _ _
   | exact ih4 _ _ _ _ _ _ _ _ _ _
   | exact LeO.none _
   | refine LeO.ite ?_ ?_
   | refine LeO.bind ?_ (fun _ => ?_)
  ·intro y0 y1 y2 y3 y4 y5 y6 y7 y8
   unfold Qau.l0
   repeat' first
   | (with_reducible exact ih0 _ _ _ _ _ _ _ _)
   | (with_reducible exact ih1 _ _ _ _ _ _ _ _ _)
   | (with_reducible exact ih2 _ _ _ _ _ _ _ _ _ _)
   | (with_reducible exact ih3 _ _ _ _ _ _ _ _ _)
   | (with_reducible exact ih4 _ _ _ _ _ _ _ _ _ _)
   | (with_reducible exact LeO.refl _)
   | (with_reducible exact LeO.none _)
   | (with_reducible refine LeO.ite ?_ ?_)
   | (with_reducible refine LeO.bind ?_ (fun _ => ?_))
   | exact ih0 _ _ _ _ _ _ _ _
   | exact ih1 _ _ _ _ _ _ _ _ _
   | exact ih2 _ _ _ _ _ _ _ _ _ _
   | exact ih3 _ _ _ _ _ _ _ _ _
   | exact ih4 _ _ _ _ _ _ _ _ _ _
   | exact LeO.none _
   | refine LeO.ite ?_ ?_
   | refine LeO.bind ?_ (fun _ => ?_)
  ·intro y0 y1 y2 y3 y4 y5 y6 y7 y8 y9
   unfold Qau.j1
   repeat' first
   | (with_reducible exact ih0 _ _ _ _ _ _ _ _)
   | (with_reducible exact ih1 _ _ _ _ _ _ _ _ _)
   | (with_reducible exact ih2 _ _ _ _ _ _ _ _ _ _)
   | (with_reducible exact ih3 _ _ _ _ _ _ _ _ _)
   | (with_reducible exact ih4 _ _ _ _ _ _ _ _ _ _)
   | (with_reducible exact LeO.refl _)
   | (with_reducible exact LeO.none _)
   | (with_reducible refine LeO.ite ?_ ?_)
   | (with_reducible refine LeO.bind ?_ (fun _ => ?_))
   | exact ih0 _ _ _ _ _ _ _ _
   | exact ih1 _ _ _ _ _ _ _ _ _
   | exact ih2 _ _ _ _ _ _ _ _ _ _
   | exact ih3 _ _ _ _ _ _ _ _ _
   | exact ih4 _ _ _ _ _ _ _ _ _ _
   | exact LeO.none _
   | refine LeO.ite ?_ ?_
   | refine LeO.bind ?_ (fun _ => ?_)
theorem Qau.mono : ∀ a0 a1 a2 k, LeO (Qau.f k a0 a1 a2) (Qau.f (k + 1) a0 a1 a2) := by
 intro a0 a1 a2 k
 obtain ⟨ih0, ih1, ih2, ih3, ih4⟩ := Qau.mono_l k
 unfold Qau.f
 repeat' first
   | (with_reducible exact ih0 _ _ _ _ _ _ _ _)
   | (with_reducible exact ih1 _ _ _ _ _ _ _ _ _)
   | (with_reducible exact ih2 _ _ _ _ _ _ _ _ _ _)
   | (with_reducible exact ih3 _ _ _ _ _ _ _ _ _)
   | (with_reducible exact ih4 _ _ _ _ _ _ _ _ _ _)
   | (with_reducible exact LeO.refl _)
   | (with_reducible exact LeO.none _)
   | (with_reducible refine LeO.ite ?_ ?_)
   | (with_reducible refine LeO.bind ?_ (fun _ => ?_))
   | exact ih0 _ _ _ _ _ _ _ _
   | exact ih1 _ _ _ _ _ _ _ _ _
   | exact ih2 _ _ _ _ _ _ _ _ _ _
   | exact ih3 _ _ _ _ _ _ _ _ _
   | exact ih4 _ _ _ _ _ _ _ _ _ _
   | exact LeO.none _
   | refine LeO.ite ?_ ?_
   | refine LeO.bind ?_ (fun _ => ?_)
set_option maxHeartbeats 8000000 in
set_option maxRecDepth 100000 in
theorem Qau.calls (k : Nat) (a0 : Int) (a1 : Int) (a2 : Int) (r1 : Int) (r2 : Int) (w : World) (h : Qau.f k a0 a1 a2 = some (r1, r2)) :
  Calls Try.prog 90 #[.int .u64 a0, .int .u64 a1, .int .u64 a2] w fun e w' => e = .returned (.tuple #[.int .u64 r1, .int .u64 r2]) ∧ Drawn0 w w' := by
 have H : (if a2 = 0 then (none) else (if a2 ≤ a0 then (none) else (if a0 = 0 then (some (IntKind.u64.wrap (Int.tdiv a1 a2), Int.tmod a1 a2)) else ((Qbk.f a2).bind fun t118 => (if 0 ≤ (IntKind.u64.wrap (t118)) then (if 0 ≤ (IntKind.u64.wrap (64 - (IntKind.u64.wrap (t118)))) then (if ((shl .u64 a2 (IntKind.u64.wrap (t118))) / 4294967296) = 0 then (none) else (Qau.l0 k (shl .u64 a2 (IntKind.u64.wrap (t118))) (IntKind.u64.wrap (t118)) ((shl .u64 a2 (IntKind.u64.wrap (t118))) / 4294967296) (Go.bits .and .u64 (shl .u64 a2 (IntKind.u64.wrap (t118))) 4294967295) (Go.bits .or .u64 (shl .u64 a0 (IntKind.u64.wrap (t118))) (shr .u64 a1 (IntKind.u64.wrap (64 - (IntKind.u64.wrap (t118)))))) ((shl .u64 a1 (IntKind.u64.wrap (t118))) / 4294967296) (Go.bits .and .u64 (shl .u64 a1 (IntKind.u64.wrap (t118))) 4294967295) (IntKind.u64.wrap (Int.tdiv (Go.bits .or .u64 (shl .u64 a0 (IntKind.u64.wrap (t118))) (shr .u64 a1 (IntKind.u64.wrap (64 - (IntKind.u64.wrap (t118)))))) ((shl .u64 a2 (IntKind.u64.wrap (t118))) / 4294967296))) (IntKind.u64.wrap ((Go.bits .or .u64 (shl .u64 a0 (IntKind.u64.wrap (t118))) (shr .u64 a1 (IntKind.u64.wrap (64 - (IntKind.u64.wrap (t118)))))) - (IntKind.u64.wrap ((IntKind.u64.wrap (Int.tdiv (Go.bits .or .u64 (shl .u64 a0 (IntKind.u64.wrap (t118))) (shr .u64 a1 (IntKind.u64.wrap (64 - (IntKind.u64.wrap (t118)))))) ((shl .u64 a2 (IntKind.u64.wrap (t118))) / 4294967296))) * ((shl .u64 a2 (IntKind.u64.wrap (t118))) / 4294967296))))))) else (none)) else (none)))))) = some (r1, r2) := h
 clear h
 by_cases c4 : a2 = 0
 ·rw [if_pos c4] at H
  exact absurd H (by simp)
 ·rw [if_neg c4] at H
  have c4b0 : (a2 == 0) = false := beq_eq_false_iff_ne.mpr c4
  have c4b1 : (a2 != 0) = true := bne_iff_ne.mpr c4
  by_cases c5 : a2 ≤ a0
  ·rw [if_pos c5] at H
   exact absurd H (by simp)
  ·rw [if_neg c5] at H
   have c5b0 : decide (a2 ≤ a0) = false := decide_eq_false c5
   clear c5
   by_cases c6 : a0 = 0
   ·rw [if_pos c6] at H
    have c6b0 : (a0 == 0) = true := beq_iff_eq.mpr c6
    have c6b1 : (a0 != 0) = false := bne_eq_false_iff_eq.mpr c6
    clear c6
    simp only [Option.some.injEq, Prod.mk.injEq] at H
    obtain ⟨rfl, rfl⟩ := H
    go_enter Try.func90, Try.ntmps90
    go_wp2
    repeat (go_quiet (fail); try go_wp2)
    go_ret2
    exact ⟨Zs, by repeat (first | exact Drawn0.refl _ | apply Drawn0.step)⟩
   ·rw [if_neg c6] at H
    have c6b0 : (a0 == 0) = false := beq_eq_false_iff_ne.mpr c6
    have c6b1 : (a0 != 0) = true := bne_iff_ne.mpr c6
    replace H := Option.bind_eq_some_iff.mp H
    obtain ⟨t118, A70, H⟩ := H
    replace H : (if 0 ≤ (IntKind.u64.wrap (t118)) then (if 0 ≤ (IntKind.u64.wrap (64 - (IntKind.u64.wrap (t118)))) then (if ((shl .u64 a2 (IntKind.u64.wrap (t118))) / 4294967296) = 0 then (none) else (Qau.l0 k (shl .u64 a2 (IntKind.u64.wrap (t118))) (IntKind.u64.wrap (t118)) ((shl .u64 a2 (IntKind.u64.wrap (t118))) / 4294967296) (Go.bits .and .u64 (shl .u64 a2 (IntKind.u64.wrap (t118))) 4294967295) (Go.bits .or .u64 (shl .u64 a0 (IntKind.u64.wrap (t118))) (shr .u64 a1 (IntKind.u64.wrap (64 - (IntKind.u64.wrap (t118)))))) ((shl .u64 a1 (IntKind.u64.wrap (t118))) / 4294967296) (Go.bits .and .u64 (shl .u64 a1 (IntKind.u64.wrap (t118))) 4294967295) (IntKind.u64.wrap (Int.tdiv (Go.bits .or .u64 (shl .u64 a0 (IntKind.u64.wrap (t118))) (shr .u64 a1 (IntKind.u64.wrap (64 - (IntKind.u64.wrap (t118)))))) ((shl .u64 a2 (IntKind.u64.wrap (t118))) / 4294967296))) (IntKind.u64.wrap ((Go.bits .or .u64 (shl .u64 a0 (IntKind.u64.wrap (t118))) (shr .u64 a1 (IntKind.u64.wrap (64 - (IntKind.u64.wrap (t118)))))) - (IntKind.u64.wrap ((IntKind.u64.wrap (Int.tdiv (Go.bits .or .u64 (shl .u64 a0 (IntKind.u64.wrap (t118))) (shr .u64 a1 (IntKind.u64.wrap (64 - (IntKind.u64.wrap (t118)))))) ((shl .u64 a2 (IntKind.u64.wrap (t118))) / 4294967296))) * ((shl .u64 a2 (IntKind.u64.wrap (t118))) / 4294967296))))))) else (none)) else (none)) = some (r1, r2) := H
    have A7 := Aside0.mk A70
    clear A70
    obtain ⟨ji8, hji8⟩ : ∃ j_ : Int, (IntKind.u64.wrap (t118)) = j_ := ⟨_, rfl⟩
    replace H : (if 0 ≤ (ji8) then (if 0 ≤ (IntKind.u64.wrap (64 - (ji8))) then (if ((shl .u64 a2 (ji8)) / 4294967296) = 0 then (none) else (Qau.l0 k (shl .u64 a2 (ji8)) ji8 ((shl .u64 a2 (ji8)) / 4294967296) (Go.bits .and .u64 (shl .u64 a2 (ji8)) 4294967295) (Go.bits .or .u64 (shl .u64 a0 (ji8)) (shr .u64 a1 (IntKind.u64.wrap (64 - (ji8))))) ((shl .u64 a1 (ji8)) / 4294967296) (Go.bits .and .u64 (shl .u64 a1 (ji8)) 4294967295) (IntKind.u64.wrap (Int.tdiv (Go.bits .or .u64 (shl .u64 a0 (ji8)) (shr .u64 a1 (IntKind.u64.wrap (64 - (ji8))))) ((shl .u64 a2 (ji8)) / 4294967296))) (IntKind.u64.wrap ((Go.bits .or .u64 (shl .u64 a0 (ji8)) (shr .u64 a1 (IntKind.u64.wrap (64 - (ji8))))) - (IntKind.u64.wrap ((IntKind.u64.wrap (Int.tdiv (Go.bits .or .u64 (shl .u64 a0 (ji8)) (shr .u64 a1 (IntKind.u64.wrap (64 - (ji8))))) ((shl .u64 a2 (ji8)) / 4294967296))) * ((shl .u64 a2 (ji8)) / 4294967296))))))) else (none)) else (none)) = some (r1, r2) := by first | (rw [hji8] at H; exact H) | (simp only [hji8] at H ⊢; exact H)
    (try rw [hji8] at A7)
    by_cases c9 : 0 ≤ (ji8)
    ·rw [if_pos c9] at H
     have c9b0 := eq_true c9
     have c9b1 : decide (0 ≤ (ji8)) = true := decide_eq_true c9
     clear c9
     obtain ⟨ji10, hji10⟩ : ∃ j_ : Int, (shl .u64 a2 (ji8)) = j_ := ⟨_, rfl⟩
     replace H : (if 0 ≤ (IntKind.u64.wrap (64 - (ji8))) then (if ((ji10) / 4294967296) = 0 then (none) else (Qau.l0 k ji10 ji8 ((ji10) / 4294967296) (Go.bits .and .u64 (ji10) 4294967295) (Go.bits .or .u64 (shl .u64 a0 (ji8)) (shr .u64 a1 (IntKind.u64.wrap (64 - (ji8))))) ((shl .u64 a1 (ji8)) / 4294967296) (Go.bits .and .u64 (shl .u64 a1 (ji8)) 4294967295) (IntKind.u64.wrap (Int.tdiv (Go.bits .or .u64 (shl .u64 a0 (ji8)) (shr .u64 a1 (IntKind.u64.wrap (64 - (ji8))))) ((ji10) / 4294967296))) (IntKind.u64.wrap ((Go.bits .or .u64 (shl .u64 a0 (ji8)) (shr .u64 a1 (IntKind.u64.wrap (64 - (ji8))))) - (IntKind.u64.wrap ((IntKind.u64.wrap (Int.tdiv (Go.bits .or .u64 (shl .u64 a0 (ji8)) (shr .u64 a1 (IntKind.u64.wrap (64 - (ji8))))) ((ji10) / 4294967296))) * ((ji10) / 4294967296))))))) else (none)) = some (r1, r2) := by first | (rw [hji10] at H; exact H) | (simp only [hji10] at H ⊢; exact H)
     (try rw [hji10] at A7)
     have hji10_ : (IntKind.u64.wrap (a2 * 2 ^ min (ji8).toNat 64)) = ji10 := hji10
     have hji10z : (ji8) ≤ 64 → (IntKind.u64.wrap (a2 * 2 ^ (ji8).toNat)) = ji10 := QcH hji10
     have c11b0 := eq_true (Ze : 0 ≤ (ji8))
     obtain ⟨ji12, hji12⟩ : ∃ j_ : Int, (shl .u64 a0 (ji8)) = j_ := ⟨_, rfl⟩
     replace H : (if 0 ≤ (IntKind.u64.wrap (64 - (ji8))) then (if ((ji10) / 4294967296) = 0 then (none) else (Qau.l0 k ji10 ji8 ((ji10) / 4294967296) (Go.bits .and .u64 (ji10) 4294967295) (Go.bits .or .u64 (ji12) (shr .u64 a1 (IntKind.u64.wrap (64 - (ji8))))) ((shl .u64 a1 (ji8)) / 4294967296) (Go.bits .and .u64 (shl .u64 a1 (ji8)) 4294967295) (IntKind.u64.wrap (Int.tdiv (Go.bits .or .u64 (ji12) (shr .u64 a1 (IntKind.u64.wrap (64 - (ji8))))) ((ji10) / 4294967296))) (IntKind.u64.wrap ((Go.bits .or .u64 (ji12) (shr .u64 a1 (IntKind.u64.wrap (64 - (ji8))))) - (IntKind.u64.wrap ((IntKind.u64.wrap (Int.tdiv (Go.bits .or .u64 (ji12) (shr .u64 a1 (IntKind.u64.wrap (64 - (ji8))))) ((ji10) / 4294967296))) * ((ji10) / 4294967296))))))) else (none)) = some (r1, r2) := by first | (rw [hji12] at H; exact H) | (simp only [hji12] at H ⊢; exact H)
     (try rw [hji12] at A7)
     have hji12_ : (IntKind.u64.wrap (a0 * 2 ^ min (ji8).toNat 64)) = ji12 := hji12
     have hji12z : (ji8) ≤ 64 → (IntKind.u64.wrap (a0 * 2 ^ (ji8).toNat)) = ji12 := QcH hji12
     obtain ⟨ji13, hji13⟩ : ∃ j_ : Int, (IntKind.u64.wrap (64 - (ji8))) = j_ := ⟨_, rfl⟩
     replace H : (if 0 ≤ (ji13) then (if ((ji10) / 4294967296) = 0 then (none) else (Qau.l0 k ji10 ji8 ((ji10) / 4294967296) (Go.bits .and .u64 (ji10) 4294967295) (Go.bits .or .u64 (ji12) (shr .u64 a1 (ji13))) ((shl .u64 a1 (ji8)) / 4294967296) (Go.bits .and .u64 (shl .u64 a1 (ji8)) 4294967295) (IntKind.u64.wrap (Int.tdiv (Go.bits .or .u64 (ji12) (shr .u64 a1 (ji13))) ((ji10) / 4294967296))) (IntKind.u64.wrap ((Go.bits .or .u64 (ji12) (shr .u64 a1 (ji13))) - (IntKind.u64.wrap ((IntKind.u64.wrap (Int.tdiv (Go.bits .or .u64 (ji12) (shr .u64 a1 (ji13))) ((ji10) / 4294967296))) * ((ji10) / 4294967296))))))) else (none)) = some (r1, r2) := by first | (rw [hji13] at H; exact H) | (simp only [hji13] at H ⊢; exact H)
     (try rw [hji13] at A7)
     by_cases c14 : 0 ≤ (ji13)
     ·rw [if_pos c14] at H
      have c14b0 := eq_true c14
      have c14b1 : decide (0 ≤ (ji13)) = true := decide_eq_true c14
      clear c14
      obtain ⟨ji15, hji15⟩ : ∃ j_ : Int, (shr .u64 a1 (ji13)) = j_ := ⟨_, rfl⟩
      replace H : (if ((ji10) / 4294967296) = 0 then (none) else (Qau.l0 k ji10 ji8 ((ji10) / 4294967296) (Go.bits .and .u64 (ji10) 4294967295) (Go.bits .or .u64 (ji12) (ji15)) ((shl .u64 a1 (ji8)) / 4294967296) (Go.bits .and .u64 (shl .u64 a1 (ji8)) 4294967295) (IntKind.u64.wrap (Int.tdiv (Go.bits .or .u64 (ji12) (ji15)) ((ji10) / 4294967296))) (IntKind.u64.wrap ((Go.bits .or .u64 (ji12) (ji15)) - (IntKind.u64.wrap ((IntKind.u64.wrap (Int.tdiv (Go.bits .or .u64 (ji12) (ji15)) ((ji10) / 4294967296))) * ((ji10) / 4294967296))))))) = some (r1, r2) := by first | (rw [hji15] at H; exact H) | (simp only [hji15] at H ⊢; exact H)
      (try rw [hji15] at A7)
      have hji15_ : (a1 / 2 ^ min (ji13).toNat 64) = ji15 := hji15
      have hji15z : (ji13) ≤ 64 → (a1 / 2 ^ (ji13).toNat) = ji15 := QcI hji15
      have c16b0 := eq_true (Ze : 0 ≤ (ji8))
      obtain ⟨ji17, hji17⟩ : ∃ j_ : Int, (shl .u64 a1 (ji8)) = j_ := ⟨_, rfl⟩
      replace H : (if ((ji10) / 4294967296) = 0 then (none) else (Qau.l0 k ji10 ji8 ((ji10) / 4294967296) (Go.bits .and .u64 (ji10) 4294967295) (Go.bits .or .u64 (ji12) (ji15)) ((ji17) / 4294967296) (Go.bits .and .u64 (ji17) 4294967295) (IntKind.u64.wrap (Int.tdiv (Go.bits .or .u64 (ji12) (ji15)) ((ji10) / 4294967296))) (IntKind.u64.wrap ((Go.bits .or .u64 (ji12) (ji15)) - (IntKind.u64.wrap ((IntKind.u64.wrap (Int.tdiv (Go.bits .or .u64 (ji12) (ji15)) ((ji10) / 4294967296))) * ((ji10) / 4294967296))))))) = some (r1, r2) := by first | (rw [hji17] at H; exact H) | (simp only [hji17] at H ⊢; exact H)
      (try rw [hji17] at A7)
      have hji17_ : (IntKind.u64.wrap (a1 * 2 ^ min (ji8).toNat 64)) = ji17 := hji17
      have hji17z : (ji8) ≤ 64 → (IntKind.u64.wrap (a1 * 2 ^ (ji8).toNat)) = ji17 := QcH hji17
      by_cases c18 : ((ji10) / 4294967296) = 0
      ·rw [if_pos c18] at H
       exact absurd H (by simp)
      ·rw [if_neg c18] at H
       have c18b0 : (((ji10) / 4294967296) == 0) = false := beq_eq_false_iff_ne.mpr c18
       have c18b1 : (((ji10) / 4294967296) != 0) = true := bne_iff_ne.mpr c18
       have HC19 := Aside0.mk H
       clear H
       go_enter Try.func90, Try.ntmps90
       go_upto_block 0 with (first | (go_at_call 117; (with_reducible refine (Qbk.calls a2 t118 _ A7.out).mono ?_); rintro e w' ⟨rfl, ⟨nd, rfl⟩⟩; (try first | exact ⟨rfl, _, World.drewN_drewN _ _ _⟩ | exact ⟨rfl, _, Eq.trans (World.drewN_drewN _ _ _) (congrArg (World.drewN _) (Nat.add_assoc _ _ _))⟩)))
       repeat (go_quiet (first | (go_at_call 117; (with_reducible refine (Qbk.calls a2 t118 _ A7.out).mono ?_); rintro e w' ⟨rfl, ⟨nd, rfl⟩⟩; (try first | exact ⟨rfl, _, World.drewN_drewN _ _ _⟩ | exact ⟨rfl, _, Eq.trans (World.drewN_drewN _ _ _) (congrArg (World.drewN _) (Nat.add_assoc _ _ _))⟩))); go_upto_block 0 with (first | (go_at_call 117; (with_reducible refine (Qbk.calls a2 t118 _ A7.out).mono ?_); rintro e w' ⟨rfl, ⟨nd, rfl⟩⟩; (try first | exact ⟨rfl, _, World.drewN_drewN _ _ _⟩ | exact ⟨rfl, _, Eq.trans (World.drewN_drewN _ _ _) (congrArg (World.drewN _) (Nat.add_assoc _ _ _))⟩))))
       (try simp only [Act.put, List.setIfInBounds_toArray, List.set_cons_zero, List.set_cons_succ])
       go_cut [15] (fun v15 wc => ∃ (kq : Nat) (x15_18 : Int), v15 = .int .u64 x15_18 ∧ Aside0 (Qau.j2 kq ji10 ji8 ((ji10) / 4294967296) (Go.bits .and .u64 (ji10) 4294967295) (Go.bits .or .u64 (ji12) (ji15)) ((ji17) / 4294967296) (Go.bits .and .u64 (ji17) 4294967295) x15_18 = some (r1, r2)) ∧ Aside0 (kq ≤ k) ∧ Drawn0 w wc)
       case first =>
        have H := HC19.out
        clear HC19
        have H' := Aside0.mk H
        clear H
        go_wp2
        repeat (go_quiet (fail); try go_wp2)
        go_loopg [15, 16] k (fun kq v15 v16 w' => ∃ (x15_1 : Int) (x16_1 : Int), v15 = .int .u64 x15_1 ∧ v16 = .int .u64 x16_1 ∧ Aside0 (Qau.l0 kq ji10 ji8 ((ji10) / 4294967296) (Go.bits .and .u64 (ji10) 4294967295) (Go.bits .or .u64 (ji12) (ji15)) ((ji17) / 4294967296) (Go.bits .and .u64 (ji17) 4294967295) x15_1 x16_1 = some (r1, r2)) ∧ Aside0 (kq ≤ k) ∧ Drawn0 w w')
        case atStart => exact ⟨(IntKind.u64.wrap (Int.tdiv (Go.bits .or .u64 (ji12) (ji15)) ((ji10) / 4294967296))), (IntKind.u64.wrap ((Go.bits .or .u64 (ji12) (ji15)) - (IntKind.u64.wrap ((IntKind.u64.wrap (Int.tdiv (Go.bits .or .u64 (ji12) (ji15)) ((ji10) / 4294967296))) * ((ji10) / 4294967296))))), (by first | rfl | (simp; done) | (simp only [← hji10, ← hji12, ← hji15] <;> (first | rfl | simp)) | (simp [*]; done)), (by first | rfl | (simp; done) | (simp only [← hji10, ← hji12, ← hji15] <;> (first | rfl | simp)) | (simp [*]; done)), H', ⟨Nat.le_refl _⟩, by repeat (first | exact Drawn0.refl _ | apply Drawn0.step)⟩
        case round =>
         clear H'
         try clear c1
         try clear p2
         try clear c4
         try clear c4b0
         try clear c4b1
         try clear c5
         try clear c5b0
         try clear c6
         try clear c6b0
         try clear c6b1
         try clear c9
         try clear c9b0
         try clear c9b1
         try clear c11
         try clear c11b0
         try clear c14
         try clear c14b0
         try clear c14b1
         try clear c16
         try clear c16b0
         try clear c18
         try clear c18b0
         try clear c18b1
         obtain ⟨x15_1, x16_1, rfl, rfl, HA, HK1, ⟨m1, rfl⟩⟩ := hrel
         cases gk with
         | zero => exact absurd HA.out (by simp [Qau.l0])
         | succ k1 =>
          have H := HA.out
          clear HA
          simp only [Qau.l0] at H
          have HC20 := Aside0.mk H
          clear H
          go_upto_region 17 with (fail)
          repeat (go_quiet (fail); go_upto_region 17 with (fail))
          go_cut [78] (fun v78 wc => ∃ (kq : Nat) (x78_19 : Bool), v78 = .bool x78_19 ∧ Aside0 (Qau.j1 kq ji10 ji8 ((ji10) / 4294967296) (Go.bits .and .u64 (ji10) 4294967295) (Go.bits .or .u64 (ji12) (ji15)) ((ji17) / 4294967296) (Go.bits .and .u64 (ji17) 4294967295) x15_1 x16_1 x78_19 = some (r1, r2)) ∧ Aside0 (kq ≤ k1) ∧ Drawn0 w wc)
          case first =>
           have H := HC20.out
           clear HC20
           by_cases c21 : x15_1 ≥ 4294967296
           ·rw [if_pos c21] at H
            have c21b0 : decide (4294967296 ≤ x15_1) = true := decide_eq_true c21
            clear c21
            have H' := Aside0.mk H
            clear H
            go_wp2
            repeat (go_quiet (fail); try go_wp2)
            go_meet
            case rel => exact ⟨_, (true), (Zs), H', ⟨by have := HK1.out; first | omega | exact Nat.le_refl _⟩, by repeat (first | exact Drawn0.refl _ | apply Drawn0.step)⟩
           ·rw [if_neg c21] at H
            have c21b0 : decide (4294967296 ≤ x15_1) = false := decide_eq_false c21
            clear c21
            have H' := Aside0.mk H
            clear H
            go_wp2
            repeat (go_quiet (fail); try go_wp2)
            go_meet
            case rel => exact ⟨_, (decide ((IntKind.u64.wrap (x15_1 * (Go.bits .and .u64 (ji10) 4294967295))) > (IntKind.u64.wrap ((IntKind.u64.wrap (4294967296 * x16_1)) + ((ji17) / 4294967296))))), (by first | rfl | (simp; done) | (simp only [← hji10, ← hji17] <;> (first | rfl | simp)) | (simp [*]; done)), H', ⟨by have := HK1.out; first | omega | exact Nat.le_refl _⟩, by repeat (first | exact Drawn0.refl _ | apply Drawn0.step)⟩
          case rest =>
           clear HC20
           try clear c1
           try clear c2
           try clear p2
           try clear c4
           try clear c4b0
           try clear c4b1
           try clear c5
           try clear c5b0
           try clear c6
           try clear c6b0
           try clear c6b1
           try clear c9
           try clear c9b0
           try clear c9b1
           try clear c11
           try clear c11b0
           try clear c14
           try clear c14b0
           try clear c14b1
           try clear c16
           try clear c16b0
           try clear c18
           try clear c18b0
           try clear c18b1
           try clear c21
           try clear c21b0
           try clear p2
           obtain ⟨kq, x78_19, rfl, HA, HJ19, ⟨mc19, rfl⟩⟩ := hcut
           cases kq with
           | zero => exact absurd HA.out (by simp [Qau.j1])
           | succ kj19 =>
            have H := HA.out
            clear HA
            simp only [Qau.j1] at H
            by_cases c22 : x78_19 = true
            ·subst c22
             have H1 : (if (IntKind.u64.wrap (x16_1 + ((ji10) / 4294967296))) ≥ 4294967296 then (Qau.j2 kj19 ji10 ji8 ((ji10) / 4294967296) (Go.bits .and .u64 (ji10) 4294967295) (Go.bits .or .u64 (ji12) (ji15)) ((ji17) / 4294967296) (Go.bits .and .u64 (ji17) 4294967295) (IntKind.u64.wrap (x15_1 - 1))) else (Qau.l0 kj19 ji10 ji8 ((ji10) / 4294967296) (Go.bits .and .u64 (ji10) 4294967295) (Go.bits .or .u64 (ji12) (ji15)) ((ji17) / 4294967296) (Go.bits .and .u64 (ji17) 4294967295) (IntKind.u64.wrap (x15_1 - 1)) (IntKind.u64.wrap (x16_1 + ((ji10) / 4294967296))))) = some (r1, r2) := by rw [if_pos rfl] at H; exact H
             clear H
             have H := H1
             clear H1
             by_cases c23 : (IntKind.u64.wrap (x16_1 + ((ji10) / 4294967296))) ≥ 4294967296
             ·rw [if_pos c23] at H
              have c23b0 : decide (4294967296 ≤ (IntKind.u64.wrap (x16_1 + ((ji10) / 4294967296)))) = true := decide_eq_true c23
              clear c23
              (try simp only [c23b0])
              have H' := Aside0.mk H
              clear H
              go_wp2
              repeat (go_quiet (fail); try go_wp2)
              go_meet
              case rel => exact ⟨_, (IntKind.u64.wrap (x15_1 - 1)), (Zs), H', ⟨by have := HK1.out; have := HJ19.out; first | omega | exact Nat.le_refl _⟩, by repeat (first | exact Drawn0.refl _ | apply Drawn0.step)⟩
             ·rw [if_neg c23] at H
              have c23b0 : decide (4294967296 ≤ (IntKind.u64.wrap (x16_1 + ((ji10) / 4294967296)))) = false := decide_eq_false c23
              clear c23
              (try simp only [c23b0])
              have H' := Aside0.mk H
              clear H
              go_wp2
              repeat (go_quiet (fail); try go_wp2)
              go_roundg kj19
              case measure => have := HK1.out; have := HJ19.out; omega
              case rel => exact ⟨(IntKind.u64.wrap (x15_1 - 1)), (IntKind.u64.wrap (x16_1 + ((ji10) / 4294967296))), (Zs), (by first | rfl | (simp; done) | (simp only [← hji10] <;> (first | rfl | simp)) | (simp [*]; done)), H', ⟨by have := HK1.out; have := HJ19.out; omega⟩, by repeat (first | exact Drawn0.refl _ | apply Drawn0.step)⟩
            ·replace c22 := Bool.eq_false_iff.mpr c22
             subst c22
             have H1 : (Qau.j2 kj19 ji10 ji8 ((ji10) / 4294967296) (Go.bits .and .u64 (ji10) 4294967295) (Go.bits .or .u64 (ji12) (ji15)) ((ji17) / 4294967296) (Go.bits .and .u64 (ji17) 4294967295) x15_1) = some (r1, r2) := by rw [if_neg (show ¬ (false = true) by decide)] at H; exact H
             clear H
             have H := H1
             clear H1
             have H' := Aside0.mk H
             clear H
             go_wp2
             repeat (go_quiet (fail); try go_wp2)
             go_meet
             case rel => exact ⟨_, (x15_1), (Zs), H', ⟨by have := HK1.out; have := HJ19.out; first | omega | exact Nat.le_refl _⟩, by repeat (first | exact Drawn0.refl _ | apply Drawn0.step)⟩
       case rest =>
        clear HC19
        try clear c1
        try clear c2
        try clear p2
        try clear c4
        try clear c4b0
        try clear c4b1
        try clear c5
        try clear c5b0
        try clear c6
        try clear c6b0
        try clear c6b1
        try clear c9
        try clear c9b0
        try clear c9b1
        try clear c11
        try clear c11b0
        try clear c14
        try clear c14b0
        try clear c14b1
        try clear c16
        try clear c16b0
        try clear c18
        try clear c18b0
        try clear c18b1
        try clear c19
        try clear c21
        try clear c21b0
        try clear c22
        try clear c23
        try clear c23b0
        try clear p2
        obtain ⟨kq, x15_18, rfl, HA, HJ18, ⟨mc18, rfl⟩⟩ := hcut
        cases kq with
        | zero => exact absurd HA.out (by simp [Qau.j2])
        | succ kj18 =>
         have H := HA.out
         clear HA
         simp only [Qau.j2] at H
         by_cases c24 : ((ji10) / 4294967296) = 0
         ·rw [if_pos c24] at H
          exact absurd H (by simp)
         ·rw [if_neg c24] at H
          have c24b0 : (((ji10) / 4294967296) == 0) = false := beq_eq_false_iff_ne.mpr c24
          have c24b1 : (((ji10) / 4294967296) != 0) = true := bne_iff_ne.mpr c24
          have H' := Aside0.mk H
          clear H
          go_wp2
          repeat (go_quiet (fail); try go_wp2)
          go_loopg [16, 18] kj18 (fun kq v16 v18 w' => ∃ (x16_2 : Int) (x18_2 : Int), v16 = .int .u64 x16_2 ∧ v18 = .int .u64 x18_2 ∧ Aside0 (Qau.l1 kq ji10 ji8 ((ji10) / 4294967296) (Go.bits .and .u64 (ji10) 4294967295) (Go.bits .and .u64 (ji17) 4294967295) x15_18 x16_2 (IntKind.u64.wrap ((IntKind.u64.wrap ((IntKind.u64.wrap ((Go.bits .or .u64 (ji12) (ji15)) * 4294967296)) + ((ji17) / 4294967296))) - (IntKind.u64.wrap (x15_18 * ji10)))) x18_2 = some (r1, r2)) ∧ Aside0 (kq ≤ kj18) ∧ Drawn0 w w')
          case atStart => exact ⟨(IntKind.u64.wrap ((IntKind.u64.wrap ((IntKind.u64.wrap ((IntKind.u64.wrap ((Go.bits .or .u64 (ji12) (ji15)) * 4294967296)) + ((ji17) / 4294967296))) - (IntKind.u64.wrap (x15_18 * ji10)))) - (IntKind.u64.wrap ((IntKind.u64.wrap (Int.tdiv (IntKind.u64.wrap ((IntKind.u64.wrap ((IntKind.u64.wrap ((Go.bits .or .u64 (ji12) (ji15)) * 4294967296)) + ((ji17) / 4294967296))) - (IntKind.u64.wrap (x15_18 * ji10)))) ((ji10) / 4294967296))) * ((ji10) / 4294967296))))), (IntKind.u64.wrap (Int.tdiv (IntKind.u64.wrap ((IntKind.u64.wrap ((IntKind.u64.wrap ((Go.bits .or .u64 (ji12) (ji15)) * 4294967296)) + ((ji17) / 4294967296))) - (IntKind.u64.wrap (x15_18 * ji10)))) ((ji10) / 4294967296))), (by first | rfl | (simp; done) | (simp only [← hji10, ← hji12, ← hji15, ← hji17] <;> (first | rfl | simp)) | (simp [*]; done)), (by first | rfl | (simp; done) | (simp only [← hji10, ← hji12, ← hji15, ← hji17] <;> (first | rfl | simp)) | (simp [*]; done)), H', ⟨Nat.le_refl _⟩, by repeat (first | exact Drawn0.refl _ | apply Drawn0.step)⟩
          case round =>
           clear H'
           try clear c1
           try clear c2
           try clear p2
           try clear c4
           try clear c4b0
           try clear c4b1
           try clear c5
           try clear c5b0
           try clear c6
           try clear c6b0
           try clear c6b1
           try clear c9
           try clear c9b0
           try clear c9b1
           try clear c11
           try clear c11b0
           try clear c14
           try clear c14b0
           try clear c14b1
           try clear c16
           try clear c16b0
           try clear c18
           try clear c18b0
           try clear c18b1
           try clear c19
           try clear c21
           try clear c21b0
           try clear c22
           try clear c23
           try clear c23b0
           try clear c24
           try clear c24b0
           try clear c24b1
           try clear p2
           obtain ⟨x16_2, x18_2, rfl, rfl, HA, HK2, ⟨m2, rfl⟩⟩ := hrel
           cases gk with
           | zero => exact absurd HA.out (by simp [Qau.l1])
           | succ k2 =>
            have H := HA.out
            clear HA
            simp only [Qau.l1] at H
            have HC25 := Aside0.mk H
            clear H
            go_upto_region 24 with (fail)
            repeat (go_quiet (fail); go_upto_region 24 with (fail))
            go_cut [113] (fun v113 wc => ∃ (kq : Nat) (x113_24 : Bool), v113 = .bool x113_24 ∧ Aside0 (Qau.j4 kq ji10 ji8 ((ji10) / 4294967296) (Go.bits .and .u64 (ji10) 4294967295) (Go.bits .and .u64 (ji17) 4294967295) x15_18 x16_2 (IntKind.u64.wrap ((IntKind.u64.wrap ((IntKind.u64.wrap ((Go.bits .or .u64 (ji12) (ji15)) * 4294967296)) + ((ji17) / 4294967296))) - (IntKind.u64.wrap (x15_18 * ji10)))) x18_2 x113_24 = some (r1, r2)) ∧ Aside0 (kq ≤ k2) ∧ Drawn0 w wc)
            case first =>
             have H := HC25.out
             clear HC25
             by_cases c26 : x18_2 ≥ 4294967296
             ·rw [if_pos c26] at H
              have c26b0 : decide (4294967296 ≤ x18_2) = true := decide_eq_true c26
              clear c26
              have H' := Aside0.mk H
              clear H
              go_wp2
              repeat (go_quiet (fail); try go_wp2)
              go_meet
              case rel => exact ⟨_, (true), (Zs), H', ⟨by have := HJ18.out; have := HK2.out; first | omega | exact Nat.le_refl _⟩, by repeat (first | exact Drawn0.refl _ | apply Drawn0.step)⟩
             ·rw [if_neg c26] at H
              have c26b0 : decide (4294967296 ≤ x18_2) = false := decide_eq_false c26
              clear c26
              have H' := Aside0.mk H
              clear H
              go_wp2
              repeat (go_quiet (fail); try go_wp2)
              go_meet
              case rel => exact ⟨_, (decide ((IntKind.u64.wrap (x18_2 * (Go.bits .and .u64 (ji10) 4294967295))) > (IntKind.u64.wrap ((IntKind.u64.wrap (4294967296 * x16_2)) + (Go.bits .and .u64 (ji17) 4294967295))))), (by first | rfl | (simp; done) | (simp only [← hji10, ← hji17] <;> (first | rfl | simp)) | (simp [*]; done)), H', ⟨by have := HJ18.out; have := HK2.out; first | omega | exact Nat.le_refl _⟩, by repeat (first | exact Drawn0.refl _ | apply Drawn0.step)⟩
            case rest =>
             clear HC25
             try clear c1
             try clear c2
             try clear p2
             try clear c4
             try clear c4b0
             try clear c4b1
             try clear c5
             try clear c5b0
             try clear c6
             try clear c6b0
             try clear c6b1
             try clear c9
             try clear c9b0
             try clear c9b1
             try clear c11
             try clear c11b0
             try clear c14
             try clear c14b0
             try clear c14b1
             try clear c16
             try clear c16b0
             try clear c18
             try clear c18b0
             try clear c18b1
             try clear c19
             try clear c21
             try clear c21b0
             try clear c22
             try clear c23
             try clear c23b0
             try clear c24
             try clear c24b0
             try clear c24b1
             try clear c26
             try clear c26b0
             try clear p2
             obtain ⟨kq, x113_24, rfl, HA, HJ24, ⟨mc24, rfl⟩⟩ := hcut
             cases kq with
             | zero => exact absurd HA.out (by simp [Qau.j4])
             | succ kj24 =>
              have H := HA.out
              clear HA
              simp only [Qau.j4] at H
              by_cases c27 : x113_24 = true
              ·subst c27
               have H1 : (if (IntKind.u64.wrap (x16_2 + ((ji10) / 4294967296))) ≥ 4294967296 then (if 0 ≤ ji8 then (some (IntKind.u64.wrap ((IntKind.u64.wrap (x15_18 * 4294967296)) + (IntKind.u64.wrap (x18_2 - 1))), shr .u64 (IntKind.u64.wrap ((IntKind.u64.wrap ((IntKind.u64.wrap ((IntKind.u64.wrap ((IntKind.u64.wrap ((IntKind.u64.wrap ((Go.bits .or .u64 (ji12) (ji15)) * 4294967296)) + ((ji17) / 4294967296))) - (IntKind.u64.wrap (x15_18 * ji10)))) * 4294967296)) + (Go.bits .and .u64 (ji17) 4294967295))) - (IntKind.u64.wrap ((IntKind.u64.wrap (x18_2 - 1)) * ji10)))) ji8)) else (none)) else (Qau.l1 kj24 ji10 ji8 ((ji10) / 4294967296) (Go.bits .and .u64 (ji10) 4294967295) (Go.bits .and .u64 (ji17) 4294967295) x15_18 (IntKind.u64.wrap (x16_2 + ((ji10) / 4294967296))) (IntKind.u64.wrap ((IntKind.u64.wrap ((IntKind.u64.wrap ((Go.bits .or .u64 (ji12) (ji15)) * 4294967296)) + ((ji17) / 4294967296))) - (IntKind.u64.wrap (x15_18 * ji10)))) (IntKind.u64.wrap (x18_2 - 1)))) = some (r1, r2) := by rw [if_pos rfl] at H; exact H
               clear H
               have H := H1
               clear H1
               by_cases c28 : (IntKind.u64.wrap (x16_2 + ((ji10) / 4294967296))) ≥ 4294967296
               ·rw [if_pos c28] at H
                have c28b0 : decide (4294967296 ≤ (IntKind.u64.wrap (x16_2 + ((ji10) / 4294967296)))) = true := decide_eq_true c28
                clear c28
                (try simp only [c28b0])
                by_cases c29 : 0 ≤ ji8
                ·rw [if_pos c29] at H
                 have c29b0 := eq_true c29
                 have c29b1 : decide (0 ≤ ji8) = true := decide_eq_true c29
                 clear c29
                 obtain ⟨ji30, hji30⟩ : ∃ j_ : Int, (shr .u64 (IntKind.u64.wrap ((IntKind.u64.wrap ((IntKind.u64.wrap ((IntKind.u64.wrap ((IntKind.u64.wrap ((IntKind.u64.wrap ((Go.bits .or .u64 (ji12) (ji15)) * 4294967296)) + ((ji17) / 4294967296))) - (IntKind.u64.wrap (x15_18 * ji10)))) * 4294967296)) + (Go.bits .and .u64 (ji17) 4294967295))) - (IntKind.u64.wrap ((IntKind.u64.wrap (x18_2 - 1)) * ji10)))) ji8) = j_ := ⟨_, rfl⟩
                 replace H : (some (IntKind.u64.wrap ((IntKind.u64.wrap (x15_18 * 4294967296)) + (IntKind.u64.wrap (x18_2 - 1))), ji30)) = some (r1, r2) := by first | (rw [hji30] at H; exact H) | (simp only [hji30] at H ⊢; exact H)
                 have hji30_ : ((IntKind.u64.wrap ((IntKind.u64.wrap ((IntKind.u64.wrap ((IntKind.u64.wrap ((IntKind.u64.wrap ((IntKind.u64.wrap ((Go.bits .or .u64 (ji12) (ji15)) * 4294967296)) + ((ji17) / 4294967296))) - (IntKind.u64.wrap (x15_18 * ji10)))) * 4294967296)) + (Go.bits .and .u64 (ji17) 4294967295))) - (IntKind.u64.wrap ((IntKind.u64.wrap (x18_2 - 1)) * ji10)))) / 2 ^ min ji8.toNat 64) = ji30 := hji30
                 have hji30z : ji8 ≤ 64 → ((IntKind.u64.wrap ((IntKind.u64.wrap ((IntKind.u64.wrap ((IntKind.u64.wrap ((IntKind.u64.wrap ((IntKind.u64.wrap ((Go.bits .or .u64 (ji12) (ji15)) * 4294967296)) + ((ji17) / 4294967296))) - (IntKind.u64.wrap (x15_18 * ji10)))) * 4294967296)) + (Go.bits .and .u64 (ji17) 4294967295))) - (IntKind.u64.wrap ((IntKind.u64.wrap (x18_2 - 1)) * ji10)))) / 2 ^ ji8.toNat) = ji30 := QcI hji30
                 simp only [Option.some.injEq, Prod.mk.injEq] at H
                 obtain ⟨rfl, rfl⟩ := H
                 go_wp2
                 repeat (go_quiet (fail); try go_wp2)
                 go_ret2
                 exact ⟨by first | rfl | (simp; done) | (simp only [← hji8, ← hji10, ← hji12, ← hji13, ← hji15, ← hji17, ← hji30] <;> (first | rfl | simp)) | (simp [*]; done), by repeat (first | exact Drawn0.refl _ | apply Drawn0.step)⟩
                ·rw [if_neg c29] at H
                 exact absurd H (by simp)
               ·rw [if_neg c28] at H
                have c28b0 : decide (4294967296 ≤ (IntKind.u64.wrap (x16_2 + ((ji10) / 4294967296)))) = false := decide_eq_false c28
                clear c28
                (try simp only [c28b0])
                have H' := Aside0.mk H
                clear H
                go_wp2
                repeat (go_quiet (fail); try go_wp2)
                go_roundg kj24
                case measure => have := HJ18.out; have := HK2.out; have := HJ24.out; omega
                case rel => exact ⟨(IntKind.u64.wrap (x16_2 + ((ji10) / 4294967296))), (IntKind.u64.wrap (x18_2 - 1)), (by first | rfl | (simp; done) | (simp only [← hji10] <;> (first | rfl | simp)) | (simp [*]; done)), (Zs), H', ⟨by have := HJ18.out; have := HK2.out; have := HJ24.out; omega⟩, by repeat (first | exact Drawn0.refl _ | apply Drawn0.step)⟩
              ·replace c27 := Bool.eq_false_iff.mpr c27
               subst c27
               have H1 : (if 0 ≤ ji8 then (some (IntKind.u64.wrap ((IntKind.u64.wrap (x15_18 * 4294967296)) + x18_2), shr .u64 (IntKind.u64.wrap ((IntKind.u64.wrap ((IntKind.u64.wrap ((IntKind.u64.wrap ((IntKind.u64.wrap ((IntKind.u64.wrap ((Go.bits .or .u64 (ji12) (ji15)) * 4294967296)) + ((ji17) / 4294967296))) - (IntKind.u64.wrap (x15_18 * ji10)))) * 4294967296)) + (Go.bits .and .u64 (ji17) 4294967295))) - (IntKind.u64.wrap (x18_2 * ji10)))) ji8)) else (none)) = some (r1, r2) := by rw [if_neg (show ¬ (false = true) by decide)] at H; exact H
               clear H
               have H := H1
               clear H1
               by_cases c31 : 0 ≤ ji8
               ·rw [if_pos c31] at H
                have c31b0 := eq_true c31
                have c31b1 : decide (0 ≤ ji8) = true := decide_eq_true c31
                clear c31
                obtain ⟨ji32, hji32⟩ : ∃ j_ : Int, (shr .u64 (IntKind.u64.wrap ((IntKind.u64.wrap ((IntKind.u64.wrap ((IntKind.u64.wrap ((IntKind.u64.wrap ((IntKind.u64.wrap ((Go.bits .or .u64 (ji12) (ji15)) * 4294967296)) + ((ji17) / 4294967296))) - (IntKind.u64.wrap (x15_18 * ji10)))) * 4294967296)) + (Go.bits .and .u64 (ji17) 4294967295))) - (IntKind.u64.wrap (x18_2 * ji10)))) ji8) = j_ := ⟨_, rfl⟩
                replace H : (some (IntKind.u64.wrap ((IntKind.u64.wrap (x15_18 * 4294967296)) + x18_2), ji32)) = some (r1, r2) := by first | (rw [hji32] at H; exact H) | (simp only [hji32] at H ⊢; exact H)
                have hji32_ : ((IntKind.u64.wrap ((IntKind.u64.wrap ((IntKind.u64.wrap ((IntKind.u64.wrap ((IntKind.u64.wrap ((IntKind.u64.wrap ((Go.bits .or .u64 (ji12) (ji15)) * 4294967296)) + ((ji17) / 4294967296))) - (IntKind.u64.wrap (x15_18 * ji10)))) * 4294967296)) + (Go.bits .and .u64 (ji17) 4294967295))) - (IntKind.u64.wrap (x18_2 * ji10)))) / 2 ^ min ji8.toNat 64) = ji32 := hji32
                have hji32z : ji8 ≤ 64 → ((IntKind.u64.wrap ((IntKind.u64.wrap ((IntKind.u64.wrap ((IntKind.u64.wrap ((IntKind.u64.wrap ((IntKind.u64.wrap ((Go.bits .or .u64 (ji12) (ji15)) * 4294967296)) + ((ji17) / 4294967296))) - (IntKind.u64.wrap (x15_18 * ji10)))) * 4294967296)) + (Go.bits .and .u64 (ji17) 4294967295))) - (IntKind.u64.wrap (x18_2 * ji10)))) / 2 ^ ji8.toNat) = ji32 := QcI hji32
                simp only [Option.some.injEq, Prod.mk.injEq] at H
                obtain ⟨rfl, rfl⟩ := H
                go_wp2
                repeat (go_quiet (fail); try go_wp2)
                go_ret2
                exact ⟨by first | rfl | (simp; done) | (simp only [← hji8, ← hji10, ← hji12, ← hji13, ← hji15, ← hji17, ← hji32] <;> (first | rfl | simp)) | (simp [*]; done), by repeat (first | exact Drawn0.refl _ | apply Drawn0.step)⟩
               ·rw [if_neg c31] at H
                exact absurd H (by simp)
     ·rw [if_neg c14] at H
      exact absurd H (by simp)
    ·rw [if_neg c9] at H
     exact absurd H (by simp)
theorem d64_wr (x : Int) : IntKind.u64.wrap x = x % 18446744073709551616 := IntKind.wrap_u64 x
theorem QdI (U y q1 : Int) (hy : 0 < y) (h : q1 * y ≤ U) : q1 ≤ U / y := (Int.le_ediv_iff_mul_le hy).2 h
theorem QdJ (U y q1 : Int) (hy : 0 < y) (h : U < q1 * y) : U / y < q1 := (Int.ediv_lt_iff_lt_mul hy).2 h
theorem Qch (q yn1 yn0 : Int) : q * (yn1 * 4294967296 + yn0) = q * yn1 * 4294967296 + q * yn0 := by grind
structure QbP (y yn1 yn0 un32 un1 q1 rhat : Int) : Prop where
 hy : y = yn1 * 4294967296 + yn0
 h1 : 2147483648 ≤ yn1
 h1' : yn1 < 4294967296
 h0 : 0 ≤ yn0
 h0' : yn0 < 4294967296
 hu : 0 ≤ un32
 hu' : un32 < y
 hn : 0 ≤ un1
 hn' : un1 < 4294967296
 hr : 0 ≤ rhat
 hr' : rhat < 4294967296
 hq : q1 * yn1 + rhat = un32
 hle : (un32 * 4294967296 + un1) / y ≤ q1
 hub : q1 ≤ 4294967297
theorem Qc4 {y un32 un1 : Int} (hy : 0 < y) (hu : un32 < y) (hn : un1 < 4294967296) : (un32 * 4294967296 + un1) / y < 4294967296 := QdJ _ _ _ hy (by omega)
theorem Qb2 {y un32 un1 : Int} (hy : 0 < y) (hu : 0 ≤ un32) (hn : 0 ≤ un1) : 0 ≤ (un32 * 4294967296 + un1) / y := Int.ediv_nonneg (by omega) (by omega)
theorem Qde {a b A B : Int} (ha : 0 ≤ a) (hb : 0 ≤ b) (hA : a ≤ A) (hB : b ≤ B) : 0 ≤ a * b ∧ a * b ≤ A * B := ⟨Int.mul_nonneg ha hb, Int.mul_le_mul hA hB hb (by omega)⟩
theorem Qcw {y yn1 yn0 un32 un1 q1 rhat : Int} (I : QbP y yn1 yn0 un32 un1 q1 rhat) (h : 4294967296 ≤ q1 ∨ 4294967296 * rhat + un1 < q1 * yn0) : (un32 * 4294967296 + un1) / y ≤ q1 - 1 := by
 obtain ⟨hy, h1, h1', h0, h0', hu, hu', hn, hn', hr, hr', hq, hle, hub⟩ := I
 rcases h with h | h
 ·have := Qc4 (y := y) (un32 := un32) (un1 := un1) (by omega) hu' hn'
  omega
 ·have e := Qch q1 yn1 yn0
  have := QdJ (un32 * 4294967296 + un1) y q1 (by omega) (by rw [hy, e]; omega)
  omega
theorem QdV {y yn1 yn0 un32 un1 q1 rhat : Int} (I : QbP y yn1 yn0 un32 un1 q1 rhat) (h : q1 * yn0 ≤ 4294967296 * rhat + un1) : (un32 * 4294967296 + un1) / y = q1 := by
 obtain ⟨hy, h1, h1', h0, h0', hu, hu', hn, hn', hr, hr', hq, hle, hub⟩ := I
 have e := Qch q1 yn1 yn0
 have := QdI (un32 * 4294967296 + un1) y q1 (by omega) (by rw [hy, e]; omega)
 omega
theorem Qeh {y yn1 yn0 un32 un1 q1 rhat : Int} (I : QbP y yn1 yn0 un32 un1 q1 rhat) (h : (un32 * 4294967296 + un1) / y ≤ q1 - 1) (hb : 4294967296 ≤ rhat + yn1) : (un32 * 4294967296 + un1) / y = q1 - 1 := by
 obtain ⟨hy, h1, h1', h0, h0', hu, hu', hn, hn', hr, hr', hq, hle, hub⟩ := I
 have e := Qch (q1 - 1) yn1 yn0
 have e2 : (q1 - 1) * yn1 = q1 * yn1 - yn1 := by grind
 have hq0 := Qb2 (y := y) (un32 := un32) (un1 := un1) (by omega) hu hn
 have hm := (Qde (a := q1 - 1) (b := yn0) (A := 4294967296) (B := 4294967295) (by omega) h0 (by omega) (by omega)).2
 have := QdI (un32 * 4294967296 + un1) y (q1 - 1) (by omega) (by rw [hy, e, e2]; omega)
 omega
theorem QdU {y yn1 yn0 un32 un1 q1 rhat : Int} (I : QbP y yn1 yn0 un32 un1 q1 rhat) (h : (un32 * 4294967296 + un1) / y ≤ q1 - 1) (hb : rhat + yn1 < 4294967296) : QbP y yn1 yn0 un32 un1 (q1 - 1) (rhat + yn1) := by
 obtain ⟨hy, h1, h1', h0, h0', hu, hu', hn, hn', hr, hr', hq, hle, hub⟩ := I
 exact ⟨hy, h1, h1', h0, h0', hu, hu', hn, hn', by omega, hb, by grind, h, by omega⟩
theorem QdH {y yn1 yn0 un32 un1 : Int} (hy : y = yn1 * 4294967296 + yn0) (h1 : 2147483648 ≤ yn1) (h1' : yn1 < 4294967296) (h0 : 0 ≤ yn0) (h0' : yn0 < 4294967296) (hu : 0 ≤ un32) (hu' : un32 < y) (hn : 0 ≤ un1) (hn' : un1 < 4294967296) :
  QbP y yn1 yn0 un32 un1 (un32 / yn1) (un32 % yn1) := by
 have a := Int.emod_nonneg un32 (b := yn1) (by omega)
 have b := Int.emod_lt_of_pos un32 (b := yn1) (by omega)
 have c := Int.mul_ediv_add_emod un32 yn1
 have c' : un32 / yn1 * yn1 = yn1 * (un32 / yn1) := Int.mul_comm _ _
 refine ⟨hy, h1, h1', h0, h0', hu, hu', hn, hn', a, by omega, by omega, ?_, ?_⟩
 ·have hy0 : 0 < y := by omega
  have hq0 := Qb2 (y := y) (un32 := un32) (un1 := un1) hy0 hu hn
  generalize hq : (un32 * 4294967296 + un1) / y = q at *
  have h := Int.ediv_mul_le (un32 * 4294967296 + un1) (b := y) (by omega)
  rw [hq, hy, Qch] at h
  have hz := Int.mul_nonneg hq0 h0
  exact (Int.le_ediv_iff_mul_le (by omega)).2 (by omega)
 ·have : un32 / yn1 < 4294967298 := (Int.ediv_lt_iff_lt_mul (by omega)).2 (by omega)
  omega
theorem Qce {y yn1 yn0 un32 un1 q1 rhat : Int} (I : QbP y yn1 yn0 un32 un1 q1 rhat) (hq : ¬ 4294967296 ≤ q1) :
  IntKind.u64.wrap (q1 * yn0) = q1 * yn0 ∧ IntKind.u64.wrap (IntKind.u64.wrap (4294967296 * rhat) + un1) = 4294967296 * rhat + un1 := by
 obtain ⟨hy, h1, h1', h0, h0', hu, hu', hn, hn', hr, hr', hqq, hle, hub⟩ := I
 have hq0 := Qb2 (y := y) (un32 := un32) (un1 := un1) (by omega) hu hn
 have hm := Qde (a := q1) (b := yn0) (A := 4294967295) (B := 4294967295) (by omega) h0 (by omega) (by omega)
 simp only [d64_wr]
 omega
theorem QeP (K : Nat) (ans : Option (Int × Int)) {y s yn1 yn0 un32 un1 un0 : Int} (hans : ∀ k, K ≤ k → Qau.j2 k y s yn1 yn0 un32 un1 un0 ((un32 * 4294967296 + un1) / y) = ans) :
  ∀ (n : Nat) (q1 rhat : Int) (k : Nat), QbP y yn1 yn0 un32 un1 q1 rhat → 4294967296 - rhat ≤ n * 2147483648 → K + 2 * n + 2 ≤ k → Qau.l0 k y s yn1 yn0 un32 un1 un0 q1 rhat = ans := by
 intro n
 induction n with
 | zero => intro q1 rhat k I hm; have := I.hr'; omega
 | succ n ih =>
  intro q1 rhat k I hm hk
  obtain ⟨k, rfl⟩ : ∃ m, k = m + 2 := ⟨k - 2, by omega⟩
  have hq0 := Qb2 (y := y) (un32 := un32) (un1 := un1) (by have := I.hy; have := I.h1; have := I.h0; omega) I.hu I.hn
  have hub := I.hub
  have hle := I.hle
  have hr := I.hr
  have hr' := I.hr'
  have h1 := I.h1
  have h1' := I.h1'
  have w1 : IntKind.u64.wrap (rhat + yn1) = rhat + yn1 := by rw [d64_wr]; omega
  have yes : (un32 * 4294967296 + un1) / y ≤ q1 - 1 → Qau.j1 (k + 1) y s yn1 yn0 un32 un1 un0 q1 rhat true = ans := by
   intro h
   have w2 : IntKind.u64.wrap (q1 - 1) = q1 - 1 := by rw [d64_wr]; omega
   simp only [Qau.j1, if_true]
   rw [w1, w2]
   by_cases c : rhat + yn1 ≥ 4294967296
   ·rw [if_pos c, ← Qeh I h c]
    exact hans k (by omega)
   ·rw [if_neg c]
    exact ih (q1 - 1) (rhat + yn1) k (QdU I h (by omega)) (by omega) (by omega)
  simp only [Qau.l0]
  by_cases c : q1 ≥ 4294967296
  ·rw [if_pos c]
   exact yes (Qcw I (.inl c))
  ·rw [if_neg c, (Qce I c).1, (Qce I c).2]
   by_cases d : q1 * yn0 > 4294967296 * rhat + un1
   ·rw [decide_eq_true d]
    exact yes (Qcw I (.inr d))
   ·rw [decide_eq_false d]
    simp only [Qau.j1, Bool.false_eq_true, if_false]
    rw [← QdV I (by omega)]
    exact hans k (by omega)
theorem QeQ {y s yn1 yn0 un21 un0 : Int} (q1 : Int) (hs : 0 ≤ s) (hq1 : 0 ≤ q1) (hq1' : q1 < 4294967296) (hyb : y < 18446744073709551616) :
  ∀ (n : Nat) (q0 rhat : Int) (k : Nat), QbP y yn1 yn0 un21 un0 q0 rhat → 4294967296 - rhat ≤ n * 2147483648 → 2 * n + 2 ≤ k →
   Qau.l1 k y s yn1 yn0 un0 q1 rhat un21 q0 = some (q1 * 4294967296 + (un21 * 4294967296 + un0) / y, shr .u64 ((un21 * 4294967296 + un0) % y) s) := by
 intro n
 induction n with
 | zero => intro q1 rhat k I hm; have := I.hr'; omega
 | succ n ih =>
  intro q0 rhat k I hm hk
  obtain ⟨k, rfl⟩ : ∃ m, k = m + 2 := ⟨k - 2, by omega⟩
  have hy0 : 0 < y := by have := I.hy; have := I.h1; have := I.h0; omega
  have hq0 := Qb2 (y := y) (un32 := un21) (un1 := un0) hy0 I.hu I.hn
  have hql := Qc4 (y := y) (un32 := un21) (un1 := un0) hy0 I.hu' I.hn'
  have hub := I.hub
  have hle := I.hle
  have hr := I.hr
  have hr' := I.hr'
  have h1 := I.h1
  have h1' := I.h1'
  have w1 : IntKind.u64.wrap (rhat + yn1) = rhat + yn1 := by rw [d64_wr]; omega
  have e1 := Int.emod_nonneg (un21 * 4294967296 + un0) (b := y) (by omega)
  have e2 := Int.emod_lt_of_pos (un21 * 4294967296 + un0) hy0
  have e3 := Int.mul_ediv_add_emod (un21 * 4294967296 + un0) y
  have e4 : (un21 * 4294967296 + un0) / y * y = y * ((un21 * 4294967296 + un0) / y) := Int.mul_comm _ _
  have fin : IntKind.u64.wrap (IntKind.u64.wrap (q1 * 4294967296) + (un21 * 4294967296 + un0) / y) = q1 * 4294967296 + (un21 * 4294967296 + un0) / y := by
   simp only [d64_wr]; omega
  have fin2 : IntKind.u64.wrap (IntKind.u64.wrap (IntKind.u64.wrap (un21 * 4294967296) + un0) - IntKind.u64.wrap ((un21 * 4294967296 + un0) / y * y)) = (un21 * 4294967296 + un0) % y := by
   simp only [d64_wr]; omega
  have yes : (un21 * 4294967296 + un0) / y ≤ q0 - 1 → Qau.j4 (k + 1) y s yn1 yn0 un0 q1 rhat un21 q0 true = some (q1 * 4294967296 + (un21 * 4294967296 + un0) / y, shr .u64 ((un21 * 4294967296 + un0) % y) s) := by
   intro h
   have w2 : IntKind.u64.wrap (q0 - 1) = q0 - 1 := by rw [d64_wr]; omega
   simp only [Qau.j4, if_true]
   rw [w1, w2]
   by_cases c : rhat + yn1 ≥ 4294967296
   ·rw [if_pos c, if_pos hs, ← Qeh I h c, fin, fin2]
   ·rw [if_neg c]
    exact ih (q0 - 1) (rhat + yn1) k (QdU I h (by omega)) (by omega) (by omega)
  simp only [Qau.l1]
  by_cases c : q0 ≥ 4294967296
  ·rw [if_pos c]
   exact yes (Qcw I (.inl c))
  ·rw [if_neg c, (Qce I c).1, (Qce I c).2]
   by_cases d : q0 * yn0 > 4294967296 * rhat + un0
   ·rw [decide_eq_true d]
    exact yes (Qcw I (.inr d))
   ·rw [decide_eq_false d]
    simp only [Qau.j4, Bool.false_eq_true, if_false]
    rw [if_pos hs, ← QdV I (by omega), fin, fin2]
theorem Qcp {a b : Int} (h : 0 ≤ a) : Int.tdiv a b = a / b := Int.tdiv_eq_ediv_of_nonneg h
theorem Qc3 {y s yn1 yn0 un32 un1 un0 : Int} (hy : y = yn1 * 4294967296 + yn0) (h1 : 2147483648 ≤ yn1) (h1' : yn1 < 4294967296) (h0 : 0 ≤ yn0) (h0' : yn0 < 4294967296) (hu : 0 ≤ un32) (hu' : un32 < y) (hn : 0 ≤ un1) (hn' : un1 < 4294967296) (hm : 0 ≤ un0) (hm' : un0 < 4294967296) (hs : 0 ≤ s) (k : Nat) (hk : 20 ≤ k) :
  Qau.l0 k y s yn1 yn0 un32 un1 un0 (un32 / yn1) (un32 % yn1) = some ((un32 * 18446744073709551616 + un1 * 4294967296 + un0) / y, shr .u64 ((un32 * 18446744073709551616 + un1 * 4294967296 + un0) % y) s) := by
 have hy0 : 0 < y := by omega
 have hyb : y < 18446744073709551616 := by omega
 have f1 := Qb2 (y := y) (un32 := un32) (un1 := un1) hy0 hu hn
 have f2 := Qc4 (y := y) (un32 := un32) (un1 := un1) hy0 hu' hn'
 have e1 := Int.emod_nonneg (un32 * 4294967296 + un1) (b := y) (by omega)
 have e2 := Int.emod_lt_of_pos (un32 * 4294967296 + un1) hy0
 have e3 := Int.mul_ediv_add_emod (un32 * 4294967296 + un1) y
 have e4 : (un32 * 4294967296 + un1) / y * y = y * ((un32 * 4294967296 + un1) / y) := Int.mul_comm _ _
 refine QeP 12 _ ?_ 2 _ _ k (QdH hy h1 h1' h0 h0' hu hu' hn hn') (by have := Int.emod_nonneg un32 (b := yn1) (by omega); omega) (by omega)
 intro k hk
 obtain ⟨k, rfl⟩ : ∃ m, k = m + 1 := ⟨k - 1, by omega⟩
 simp only [Qau.j2]
 rw [if_neg (by omega)]
 have g1 : IntKind.u64.wrap (IntKind.u64.wrap (IntKind.u64.wrap (un32 * 4294967296) + un1) - IntKind.u64.wrap ((un32 * 4294967296 + un1) / y * y)) = (un32 * 4294967296 + un1) % y := by
  simp only [d64_wr]; omega
 rw [g1, Qcp e1]
 generalize hr : (un32 * 4294967296 + un1) % y = r at *
 generalize hq : (un32 * 4294967296 + un1) / y = q at *
 have c := Int.mul_ediv_add_emod r yn1
 have c' : r / yn1 * yn1 = yn1 * (r / yn1) := Int.mul_comm _ _
 have a := Int.emod_nonneg r (b := yn1) (by omega)
 have b := Int.emod_lt_of_pos r (b := yn1) (by omega)
 have d0 : 0 ≤ r / yn1 := Int.ediv_nonneg e1 (by omega)
 have d1 : r / yn1 ≤ r := Int.ediv_le_self _ e1
 have g2 : IntKind.u64.wrap (r / yn1) = r / yn1 := by rw [d64_wr]; omega
 have g3 : IntKind.u64.wrap (r - IntKind.u64.wrap (r / yn1 * yn1)) = r % yn1 := by simp only [d64_wr]; omega
 rw [g2, g3]
 rw [QeQ q hs f1 f2 hyb 2 _ _ k (QdH hy h1 h1' h0 h0' e1 e2 hm hm') (by omega) (by omega)]
 have h5 : un32 * 18446744073709551616 + un1 * 4294967296 + un0 = (r * 4294967296 + un0) + (q * 4294967296) * y := by
  have : (q * 4294967296) * y = 4294967296 * (y * q) := by grind
  omega
 rw [h5, Int.add_mul_ediv_right _ _ (by omega), Int.add_mul_emod_self_right]
 rw [Int.add_comm]
theorem QcT (a : Int) (h : 0 ≤ a) (h' : a < 18446744073709551616) : Go.bits .and .u64 a 4294967295 = a % 4294967296 := by
 obtain ⟨n, rfl⟩ := Int.eq_ofNat_of_zero_le h
 have h2 := bits_and_u64_nat n 4294967295 (by omega) (by omega)
 have e : n &&& 4294967295 = n % 4294967296 := Nat.and_two_pow_sub_one_eq_mod n 32
 rw [e] at h2
 rw [show ((4294967295 : Nat) : Int) = 4294967295 from rfl] at h2
 rw [h2]
 omega
theorem Qev (a b S : Nat) (hb : b < 2 ^ S) (h : a * 2 ^ S + b < 18446744073709551616) : Go.bits .or .u64 ((a * 2 ^ S : Nat) : Int) (b : Int) = ((a * 2 ^ S + b : Nat) : Int) := by
 rw [bits_or_u64_nat _ _ (by omega) (by omega)]
 have e := Nat.shiftLeft_add_eq_or_of_lt hb a
 rw [Nat.shiftLeft_eq] at e
 rw [e]
theorem Qcd (S : Nat) : (2 : Int) ^ S = ((2 ^ S : Nat) : Int) := by simp
theorem Qco (x S : Nat) (hS : S ≤ 64) : shl .u64 (x : Int) (S : Int) = ((x * 2 ^ S % 18446744073709551616 : Nat) : Int) := by
 unfold shl
 rw [Int.toNat_natCast, Nat.min_eq_left (by exact hS), Qcd, d64_wr]
 omega
theorem Qea (x S : Nat) (hS : S ≤ 64) : shr .u64 (x : Int) (S : Int) = ((x / 2 ^ S : Nat) : Int) := by
 unfold shr
 rw [Int.toNat_natCast, Nat.min_eq_left (by exact hS), Qcd]
 omega
theorem Qfd (y : Nat) (h0 : y ≠ 0) (h : y < 18446744073709551616) : 1 ≤ Lib.bitLen y ∧ Lib.bitLen y ≤ 64 ∧ 9223372036854775808 ≤ y * 2 ^ (64 - Lib.bitLen y) ∧ y * 2 ^ (64 - Lib.bitLen y) < 18446744073709551616 := by
 obtain ⟨a, b, c⟩ := Lib.bitLenAux_bounds 64 y h h0
 have d := Lib.bitLen_le y 64 (by omega) h
 change 1 ≤ Lib.bitLen y at a
 change 2 ^ (Lib.bitLen y - 1) ≤ y at b
 change y < 2 ^ Lib.bitLen y at c
 generalize Lib.bitLen y = L at *
 refine ⟨a, d, ?_, ?_⟩
 ·have := Nat.mul_le_mul_right (2 ^ (64 - L)) b
  rw [← Nat.pow_add, show L - 1 + (64 - L) = 63 by omega] at this
  omega
 ·have := Nat.mul_lt_mul_of_pos_right c (Nat.two_pow_pos (64 - L))
  rw [← Nat.pow_add, show L + (64 - L) = 64 by omega] at this
  omega
theorem Qau.eq (hi lo y : Int) (h0 : 0 ≤ hi) (h1 : hi < y) (hy : y < 18446744073709551616) (hl : 0 ≤ lo) (hl' : lo < 18446744073709551616) (k : Nat) (hk : 20 ≤ k) :
  Qau.f k hi lo y = some ((hi * 18446744073709551616 + lo) / y, (hi * 18446744073709551616 + lo) % y) := by
 unfold Qau.f
 rw [if_neg (by omega), if_neg (by omega)]
 by_cases c : hi = 0
 ·rw [if_pos c]
  subst c
  have a := Int.ediv_nonneg hl (show 0 ≤ y by omega)
  have b := Int.ediv_le_self y hl
  rw [Qcp hl, Int.tmod_eq_emod_of_nonneg hl, d64_wr, show (0 : Int) * 18446744073709551616 + lo = lo by omega, Int.emod_eq_of_lt a (by omega)]
 rw [if_neg c]
 obtain ⟨H, rfl⟩ := Int.eq_ofNat_of_zero_le h0
 obtain ⟨Lo, rfl⟩ := Int.eq_ofNat_of_zero_le hl
 obtain ⟨Y, rfl⟩ := Int.eq_ofNat_of_zero_le (show 0 ≤ y by omega)
 obtain ⟨n1, n2, n3, n4⟩ := Qfd Y (by omega) (by omega)
 unfold Qbk.f Qbc.f
 rw [if_pos (by omega), Int.toNat_natCast]
 simp only [Option.bind_some]
 generalize Lib.bitLen Y = L at *
 obtain ⟨S, hS, hS63⟩ : ∃ S : Nat, S = 64 - L ∧ S ≤ 63 := ⟨64 - L, rfl, by omega⟩
 have e1 : IntKind.u64.wrap (wrap64 (64 - (L : Int))) = (S : Int) := by rw [d64_wr]; unfold wrap64; omega
 have e2 : IntKind.u64.wrap (64 - (S : Int)) = ((64 - S : Nat) : Int) := by rw [d64_wr]; omega
 rw [e1, e2, if_pos (by omega), if_pos (by omega)]
 rw [← hS] at n3 n4
 have hHS : H * 2 ^ S + 2 ^ S ≤ Y * 2 ^ S := by
  have := Nat.mul_le_mul_right (2 ^ S) (show H + 1 ≤ Y by omega)
  rw [Nat.add_mul] at this
  omega
 have hp : 2 ^ (64 - S) * 2 ^ S = 18446744073709551616 := by rw [← Nat.pow_add, show 64 - S + S = 64 by omega]
 have hd : Lo * 2 ^ S / 18446744073709551616 = Lo / 2 ^ (64 - S) := by rw [← hp, Nat.mul_div_mul_right _ _ (Nat.two_pow_pos S)]
 have hpos := Nat.two_pow_pos S
 have hlow : Lo / 2 ^ (64 - S) < 2 ^ S := by
  rw [Nat.div_lt_iff_lt_mul (Nat.two_pow_pos _), Nat.mul_comm, hp]
  omega
 rw [Qco Y S (by omega), Qco H S (by omega), Qco Lo S (by omega), Qea Lo (64 - S) (by omega)]
 rw [Nat.mod_eq_of_lt n4, Nat.mod_eq_of_lt (show H * 2 ^ S < 18446744073709551616 by omega)]
 rw [Qev H _ S hlow (by omega)]
 rw [QcT _ (by omega) (by omega), QcT _ (by omega) (by omega)]
 have hmod := Nat.div_add_mod (Lo * 2 ^ S) 18446744073709551616
 rw [hd] at hmod
 have key : (H * 2 ^ S + Lo / 2 ^ (64 - S)) * 18446744073709551616 + Lo * 2 ^ S % 18446744073709551616 = (H * 18446744073709551616 + Lo) * 2 ^ S := by
  have t1 : (H * 18446744073709551616 + Lo) * 2 ^ S = (H * 2 ^ S) * 18446744073709551616 + Lo * 2 ^ S := by grind
  omega
 generalize hP : 2 ^ S = P at *
 generalize hA : H * P + Lo / 2 ^ (64 - S) = un32 at *
 generalize hB : Lo * P % 18446744073709551616 = un10 at *
 have hun32 : un32 < Y * P := by omega
 have hun10 : un10 < 18446744073709551616 := by omega
 rw [if_neg (by omega)]
 have t0 : (0 : Int) ≤ (un32 : Int) := by omega
 rw [Qcp t0]
 have q0 : (0 : Int) ≤ (un32 : Int) / (((Y * P : Nat) : Int) / 4294967296) := Int.ediv_nonneg t0 (by omega)
 have q1 := Int.ediv_le_self (((Y * P : Nat) : Int) / 4294967296) t0
 have m1 := Int.mul_ediv_add_emod (un32 : Int) (((Y * P : Nat) : Int) / 4294967296)
 have m2 := Int.emod_nonneg (un32 : Int) (b := ((Y * P : Nat) : Int) / 4294967296) (by omega)
 have m3 := Int.emod_lt_of_pos (un32 : Int) (b := ((Y * P : Nat) : Int) / 4294967296) (by omega)
 have m4 : (un32 : Int) / (((Y * P : Nat) : Int) / 4294967296) * (((Y * P : Nat) : Int) / 4294967296) = (((Y * P : Nat) : Int) / 4294967296) * ((un32 : Int) / (((Y * P : Nat) : Int) / 4294967296)) := Int.mul_comm _ _
 have g2 : IntKind.u64.wrap ((un32 : Int) / (((Y * P : Nat) : Int) / 4294967296)) = (un32 : Int) / (((Y * P : Nat) : Int) / 4294967296) := by rw [d64_wr]; omega
 have g3 : IntKind.u64.wrap ((un32 : Int) - IntKind.u64.wrap ((un32 : Int) / (((Y * P : Nat) : Int) / 4294967296) * (((Y * P : Nat) : Int) / 4294967296))) = (un32 : Int) % (((Y * P : Nat) : Int) / 4294967296) := by simp only [d64_wr]; omega
 rw [g2, g3]
 rw [Qc3 (by omega) (by omega) (by omega) (by omega) (by omega) (by omega) (by omega) (by omega) (by omega) (by omega) (by omega) (by omega) k hk]
 have key2 : (un32 : Int) * 18446744073709551616 + (un10 : Int) / 4294967296 * 4294967296 + (un10 : Int) % 4294967296 = ((H : Int) * 18446744073709551616 + (Lo : Int)) * (P : Int) := by
  have := congrArg (fun z : Nat => (z : Int)) key
  simp only [Int.natCast_add, Int.natCast_mul, show ((18446744073709551616 : Nat) : Int) = 18446744073709551616 from rfl] at this
  omega
 have hP0 : (0 : Int) < (P : Int) := by omega
 have r2 : ((H : Int) * 18446744073709551616 + (Lo : Int)) * (P : Int) % ((Y : Int) * (P : Int)) = ((H : Int) * 18446744073709551616 + (Lo : Int)) % (Y : Int) * (P : Int) := by
  rw [Int.mul_comm _ (P : Int), Int.mul_comm (Y : Int) (P : Int), Int.mul_emod_mul_of_pos _ _ hP0, Int.mul_comm]
 rw [key2, Int.natCast_mul, Int.mul_ediv_mul_of_pos_left _ _ hP0, r2]
 have f1 : shr .u64 (((H : Int) * 18446744073709551616 + (Lo : Int)) % (Y : Int) * (P : Int)) (S : Int) = ((H : Int) * 18446744073709551616 + (Lo : Int)) % (Y : Int) := by
  unfold shr
  rw [Int.toNat_natCast, Nat.min_eq_left (show S ≤ IntKind.u64.bits by show S ≤ 64; omega), Qcd, hP, Int.mul_ediv_cancel _ (by omega)]
 rw [f1]
def Qa8.f (a0 : Int) (a1 : Bool) : Option (Int × Int) := if a0 > 1152921504606846976 then (some (0, 3)) else (if a1 = true then (some (wrap64 (-(wrap64 (a0))), 0)) else (some (wrap64 (a0), 0)))
set_option maxHeartbeats 8000000 in
set_option maxRecDepth 100000 in
theorem Qa8.calls (a0 : Int) (a1 : Bool) (r1 : Int) (r2 : Int) (w : World) (h : Qa8.f a0 a1 = some (r1, r2)) :
  Calls Try.prog 92 #[.int .u64 a0, .bool a1] w fun e w' => e = .returned (.tuple #[.int .i64 r1, .int .i64 r2]) ∧ Drawn0 w w' := by
 have H : (if a0 > 1152921504606846976 then (some (0, 3)) else (if a1 = true then (some (wrap64 (-(wrap64 (a0))), 0)) else (some (wrap64 (a0), 0)))) = some (r1, r2) := h
 clear h
 by_cases c3 : a0 > 1152921504606846976
 ·rw [if_pos c3] at H
  have c3b0 : decide (1152921504606846976 < a0) = true := decide_eq_true c3
  clear c3
  simp only [Option.some.injEq, Prod.mk.injEq] at H
  obtain ⟨rfl, rfl⟩ := H
  go_enter Try.func92, Try.ntmps92
  go_wp2
  go_ret2
  exact ⟨Zs, by repeat (first | exact Drawn0.refl _ | apply Drawn0.step)⟩
 ·rw [if_neg c3] at H
  have c3b0 : decide (1152921504606846976 < a0) = false := decide_eq_false c3
  clear c3
  by_cases c4 : a1 = true
  ·subst c4
   have H1 : (some (wrap64 (-(wrap64 (a0))), 0)) = some (r1, r2) := by rw [if_pos rfl] at H; exact H
   clear H
   have H := H1
   clear H1
   simp only [Option.some.injEq, Prod.mk.injEq] at H
   obtain ⟨rfl, rfl⟩ := H
   go_enter Try.func92, Try.ntmps92
   go_wp2
   go_ret2
   exact ⟨Zs, by repeat (first | exact Drawn0.refl _ | apply Drawn0.step)⟩
  ·replace c4 := Bool.eq_false_iff.mpr c4
   subst c4
   have H1 : (some (wrap64 (a0), 0)) = some (r1, r2) := by rw [if_neg (show ¬ (false = true) by decide)] at H; exact H
   clear H
   have H := H1
   clear H1
   simp only [Option.some.injEq, Prod.mk.injEq] at H
   obtain ⟨rfl, rfl⟩ := H
   go_enter Try.func92, Try.ntmps92
   go_wp2
   go_ret2
   exact ⟨Zs, by repeat (first | exact Drawn0.refl _ | apply Drawn0.step)⟩
def Qbb.f (a0 : Int) : Option (Bool) := if a0 ≥ 0 then (some (decide (a0 ≤ 1000))) else (some false)
set_option maxHeartbeats 8000000 in
set_option maxRecDepth 100000 in
theorem Qbb.calls (a0 : Int) (r : Bool) (w : World) (h : Qbb.f a0 = some r) :
  Calls Try.prog 109 #[.int .i64 a0] w fun e w' => e = .returned (.bool r) ∧ Drawn0 w w' := by
 have H : (if a0 ≥ 0 then (some (decide (a0 ≤ 1000))) else (some false)) = some r := h
 clear h
 by_cases c2 : a0 ≥ 0
 ·rw [if_pos c2] at H
  have c2b0 : decide (0 ≤ a0) = true := decide_eq_true c2
  clear c2
  obtain rfl := Option.some.inj H
  go_enter Try.func109, Try.ntmps109
  go_wp2
  go_ret
  exact ⟨Zs, by repeat (first | exact Drawn0.refl _ | apply Drawn0.step)⟩
 ·rw [if_neg c2] at H
  have c2b0 : decide (0 ≤ a0) = false := decide_eq_false c2
  clear c2
  obtain rfl := Option.some.inj H
  go_enter Try.func109, Try.ntmps109
  go_wp2
  go_ret
  exact ⟨Zs, by repeat (first | exact Drawn0.refl _ | apply Drawn0.step)⟩
def QbA.f (a0 : Int) : Option (Bool) := if a0 ≥ 0 then (some (decide (a0 ≤ 1152921504606846976))) else (some false)
set_option maxHeartbeats 8000000 in
set_option maxRecDepth 100000 in
theorem QbA.calls (a0 : Int) (r : Bool) (w : World) (h : QbA.f a0 = some r) :
  Calls Try.prog 80 #[.int .i64 a0] w fun e w' => e = .returned (.bool r) ∧ Drawn0 w w' := by
 have H : (if a0 ≥ 0 then (some (decide (a0 ≤ 1152921504606846976))) else (some false)) = some r := h
 clear h
 by_cases c2 : a0 ≥ 0
 ·rw [if_pos c2] at H
  have c2b0 : decide (0 ≤ a0) = true := decide_eq_true c2
  clear c2
  obtain rfl := Option.some.inj H
  go_enter Try.func80, Try.ntmps80
  go_wp2
  go_ret
  exact ⟨Zs, by repeat (first | exact Drawn0.refl _ | apply Drawn0.step)⟩
 ·rw [if_neg c2] at H
  have c2b0 : decide (0 ≤ a0) = false := decide_eq_false c2
  clear c2
  obtain rfl := Option.some.inj H
  go_enter Try.func80, Try.ntmps80
  go_wp2
  go_ret
  exact ⟨Zs, by repeat (first | exact Drawn0.refl _ | apply Drawn0.step)⟩
def QaY.j0 : Nat → Int → Int → Bool → Option (Int × Int)
 | 0, _, _, _ => none
 | k + 1, x0, x1, x15 => if x15 = true then (some (0, 2)) else ((Qba.f x0).bind fun t130 => ((Qba.f x1).bind fun t131 => ((Qbe.f t130 t131).bind fun bt132 => (if bt132.1 > 0 then (some (0, 3)) else ((Qa8.f bt132.2 (!((decide (x0 < 0)) == (decide (x1 < 0))))).bind fun bt134 => (some (bt134.1, bt134.2)))))))
def QaY.f (k : Nat) (a0 : Int) (a1 : Int) : Option (Int × Int) := (Qbh.f a0).bind fun t128 => (if t128 = true then ((Qbh.f a1).bind fun t129 => (QaY.j0 k a0 a1 (!t129))) else (QaY.j0 k a0 a1 true))
theorem QaY.mono_l : ∀ k, (∀ y0 y1 y2, LeO (QaY.j0 k y0 y1 y2) (QaY.j0 (k + 1) y0 y1 y2))
 | 0 => fun _ _ _ r h => by simp [QaY.j0] at h
 | k + 1 => by
  have ih0 := QaY.mono_l k
  ·intro y0 y1 y2
   unfold QaY.j0
   repeat' first
   | (with_reducible exact ih0 _ _ _)
   | (with_reducible exact LeO.refl _)
   | (with_reducible exact LeO.none _)
   | (with_reducible refine LeO.ite ?_ ?_)
   | (with_reducible refine LeO.bind ?_ (fun _ => ?_))
   | exact ih0 _ _ _
   | exact LeO.none _
   | refine LeO.ite ?_ ?_
   | refine LeO.bind ?_ (fun _ => ?_)
theorem QaY.mono : ∀ a0 a1 k, LeO (QaY.f k a0 a1) (QaY.f (k + 1) a0 a1) := by
 intro a0 a1 k
 have ih0 := QaY.mono_l k
 unfold QaY.f
 repeat' first
   | (with_reducible exact ih0 _ _ _)
   | (with_reducible exact LeO.refl _)
   | (with_reducible exact LeO.none _)
   | (with_reducible refine LeO.ite ?_ ?_)
   | (with_reducible refine LeO.bind ?_ (fun _ => ?_))
   | exact ih0 _ _ _
   | exact LeO.none _
   | refine LeO.ite ?_ ?_
   | refine LeO.bind ?_ (fun _ => ?_)
set_option maxHeartbeats 8000000 in
set_option maxRecDepth 100000 in
theorem QaY.calls (k : Nat) (a0 : Int) (a1 : Int) (r1 : Int) (r2 : Int) (w : World) (h : QaY.f k a0 a1 = some (r1, r2)) :
  Calls Try.prog 125 #[.int .i64 a0, .int .i64 a1] w fun e w' => e = .returned (.tuple #[.int .i64 r1, .int .i64 r2]) ∧ Drawn0 w w' := by
 have H : ((Qbh.f a0).bind fun t128 => (if t128 = true then ((Qbh.f a1).bind fun t129 => (QaY.j0 k a0 a1 (!t129))) else (QaY.j0 k a0 a1 true))) = some (r1, r2) := h
 clear h
 have HC3 := Aside0.mk H
 clear H
 go_enter Try.func125, Try.ntmps125
 go_upto_region 1 with (fail)
 go_cut [15] (fun v15 wc => ∃ (kq : Nat) (x15_2 : Bool), v15 = .bool x15_2 ∧ Aside0 (QaY.j0 kq a0 a1 x15_2 = some (r1, r2)) ∧ Aside0 (kq ≤ k) ∧ Drawn0 w wc)
 case first =>
  have H := HC3.out
  clear HC3
  replace H := Option.bind_eq_some_iff.mp H
  obtain ⟨t128, A40, H⟩ := H
  replace H : (if t128 = true then ((Qbh.f a1).bind fun t129 => (QaY.j0 k a0 a1 (!t129))) else (QaY.j0 k a0 a1 true)) = some (r1, r2) := H
  have A4 := Aside0.mk A40
  clear A40
  by_cases c5 : t128 = true
  ·subst c5
   have H1 : ((Qbh.f a1).bind fun t129 => (QaY.j0 k a0 a1 (!t129))) = some (r1, r2) := by rw [if_pos rfl] at H; exact H
   clear H
   have H := H1
   clear H1
   replace H := Option.bind_eq_some_iff.mp H
   obtain ⟨t129, A60, H⟩ := H
   replace H : (QaY.j0 k a0 a1 (!t129)) = some (r1, r2) := H
   have A6 := Aside0.mk A60
   clear A60
   have H' := Aside0.mk H
   clear H
   go_wp2_with (first | ((with_reducible refine Qay (f := 87) rfl ?_); refine goesL_ (some 9) rfl rfl Try.func87 (by kernel_rfl) rfl #[.int .i64 a0] rfl (Zl) ?_; (with_reducible refine (Qbh.calls a0 true _ A4.out).mono ?_); rintro e w' ⟨rfl, ⟨nd, rfl⟩⟩; refine ⟨_, rfl, ?_⟩) | (go_at_call 87; (with_reducible refine (Qbh.calls a1 t129 _ A6.out).mono ?_); rintro e w' ⟨rfl, ⟨nd, rfl⟩⟩))
   go_meet
   case rel => exact ⟨_, (!t129), (Zs), H', ⟨by first | omega | exact Nat.le_refl _⟩, by repeat (first | exact Drawn0.refl _ | apply Drawn0.step)⟩
  ·replace c5 := Bool.eq_false_iff.mpr c5
   subst c5
   have H1 : (QaY.j0 k a0 a1 true) = some (r1, r2) := by rw [if_neg (show ¬ (false = true) by decide)] at H; exact H
   clear H
   have H := H1
   clear H1
   have H' := Aside0.mk H
   clear H
   go_wp2_with (first | ((with_reducible refine Qay (f := 87) rfl ?_); refine goesL_ (some 9) rfl rfl Try.func87 (by kernel_rfl) rfl #[.int .i64 a0] rfl (Zl) ?_; (with_reducible refine (Qbh.calls a0 false _ A4.out).mono ?_); rintro e w' ⟨rfl, ⟨nd, rfl⟩⟩; refine ⟨_, rfl, ?_⟩))
   go_meet
   case rel => exact ⟨_, (true), (Zs), H', ⟨by first | omega | exact Nat.le_refl _⟩, by repeat (first | exact Drawn0.refl _ | apply Drawn0.step)⟩
 case rest =>
  clear HC3
  try clear c1
  try clear p2
  try clear c5
  obtain ⟨kq, x15_2, rfl, HA, HJ2, ⟨mc2, rfl⟩⟩ := hcut
  cases kq with
  | zero => exact absurd HA.out (by simp [QaY.j0])
  | succ kj2 =>
   have H := HA.out
   clear HA
   simp only [QaY.j0] at H
   by_cases c7 : x15_2 = true
   ·subst c7
    have H1 : (some (0, 2)) = some (r1, r2) := by rw [if_pos rfl] at H; exact H
    clear H
    have H := H1
    clear H1
    simp only [Option.some.injEq, Prod.mk.injEq] at H
    obtain ⟨rfl, rfl⟩ := H
    go_wp2
    go_ret2
    exact ⟨Zs, by repeat (first | exact Drawn0.refl _ | apply Drawn0.step)⟩
   ·replace c7 := Bool.eq_false_iff.mpr c7
    subst c7
    have H1 : ((Qba.f a0).bind fun t130 => ((Qba.f a1).bind fun t131 => ((Qbe.f t130 t131).bind fun bt132 => (if bt132.1 > 0 then (some (0, 3)) else ((Qa8.f bt132.2 (!((decide (a0 < 0)) == (decide (a1 < 0))))).bind fun bt134 => (some (bt134.1, bt134.2))))))) = some (r1, r2) := by rw [if_neg (show ¬ (false = true) by decide)] at H; exact H
    clear H
    have H := H1
    clear H1
    replace H := Option.bind_eq_some_iff.mp H
    obtain ⟨t130, A80, H⟩ := H
    replace H : ((Qba.f a1).bind fun t131 => ((Qbe.f t130 t131).bind fun bt132 => (if bt132.1 > 0 then (some (0, 3)) else ((Qa8.f bt132.2 (!((decide (a0 < 0)) == (decide (a1 < 0))))).bind fun bt134 => (some (bt134.1, bt134.2)))))) = some (r1, r2) := H
    have A8 := Aside0.mk A80
    clear A80
    replace H := Option.bind_eq_some_iff.mp H
    obtain ⟨t131, A90, H⟩ := H
    replace H : ((Qbe.f t130 t131).bind fun bt132 => (if bt132.1 > 0 then (some (0, 3)) else ((Qa8.f bt132.2 (!((decide (a0 < 0)) == (decide (a1 < 0))))).bind fun bt134 => (some (bt134.1, bt134.2))))) = some (r1, r2) := H
    have A9 := Aside0.mk A90
    clear A90
    replace H := Option.bind_eq_some_iff.mp H
    obtain ⟨⟨t132, t133⟩, A100, H⟩ := H
    replace H : (if t132 > 0 then (some (0, 3)) else ((Qa8.f t133 (!((decide (a0 < 0)) == (decide (a1 < 0))))).bind fun bt134 => (some (bt134.1, bt134.2)))) = some (r1, r2) := H
    have A10 := Aside0.mk A100
    clear A100
    go_upto_if 25 with (first | ((with_reducible refine Qay (f := 89) rfl ?_); refine goesL_ (some 18) rfl rfl Try.func89 (by kernel_rfl) rfl #[.int .i64 a0] rfl (Zl) ?_; (with_reducible refine (Qba.calls a0 t130 _ A8.out).mono ?_); rintro e w' ⟨rfl, ⟨nd, rfl⟩⟩; refine ⟨_, rfl, ?_⟩) | ((with_reducible refine Qay (f := 89) rfl ?_); refine goesL_ (some 20) rfl rfl Try.func89 (by kernel_rfl) rfl #[.int .i64 a1] rfl (Zl) ?_; (with_reducible refine (Qba.calls a1 t131 _ A9.out).mono ?_); rintro e w' ⟨rfl, ⟨nd, rfl⟩⟩; refine ⟨_, rfl, ?_⟩) | ((with_reducible refine Qay (f := 88) rfl ?_); refine goesL_ (some 21) rfl rfl Try.func88 (by kernel_rfl) rfl #[.int .u64 t130, .int .u64 t131] rfl (Zl) ?_; (with_reducible refine (Qbe.calls t130 t131 t132 t133 _ A10.out).mono ?_); rintro e w' ⟨rfl, ⟨nd, rfl⟩⟩; refine ⟨_, rfl, ?_⟩))
    (try simp only [Act.put, List.setIfInBounds_toArray, List.set_cons_zero, List.set_cons_succ])
    by_cases c11 : t132 > 0
    ·rw [if_pos c11] at H
     have c11b0 : decide (0 < t132) = true := decide_eq_true c11
     clear c11
     (try simp only [c11b0])
     simp only [Option.some.injEq, Prod.mk.injEq] at H
     obtain ⟨rfl, rfl⟩ := H
     go_wp2
     go_ret2
     exact ⟨Zs, by repeat (first | exact Drawn0.refl _ | apply Drawn0.step)⟩
    ·rw [if_neg c11] at H
     have c11b0 : decide (0 < t132) = false := decide_eq_false c11
     clear c11
     (try simp only [c11b0])
     replace H := Option.bind_eq_some_iff.mp H
     obtain ⟨⟨t134, t135⟩, A120, H⟩ := H
     replace H : (some (t134, t135)) = some (r1, r2) := H
     have A12 := Aside0.mk A120
     clear A120
     simp only [Option.some.injEq, Prod.mk.injEq] at H
     obtain ⟨rfl, rfl⟩ := H
     go_wp2_with (first | ((with_reducible refine Qay (f := 92) rfl ?_); refine goesL_ (some 32) rfl rfl Try.func92 (by kernel_rfl) rfl #[.int .u64 t133, .bool (!((decide (a0 < 0)) == (decide (a1 < 0))))] rfl (Zl) ?_; (with_reducible refine (Qa8.calls t133 (!((decide (a0 < 0)) == (decide (a1 < 0)))) t134 t135 _ A12.out).mono ?_); rintro e w' ⟨rfl, ⟨nd, rfl⟩⟩; refine ⟨_, rfl, ?_⟩))
     go_ret2
     exact ⟨Zs, by repeat (first | exact Drawn0.refl _ | apply Drawn0.step)⟩
def Qbm.f (k : Nat) (a0_0 : ByteArray) (a0_1 : Int) : Option (Bool) := (QaA.f k a0_0).bind fun t143 => (some (!t143))
theorem Qbm.mono : ∀ a0 a1 k, LeO (Qbm.f k a0 a1) (Qbm.f (k + 1) a0 a1) := by
 intro a0 a1 k
 unfold Qbm.f
 repeat' first
   | (with_reducible exact QaA.mono _ _)
   | (with_reducible exact LeO.refl _)
   | (with_reducible exact LeO.none _)
   | (with_reducible refine LeO.ite ?_ ?_)
   | (with_reducible refine LeO.bind ?_ (fun _ => ?_))
   | exact QaA.mono _ _
   | exact LeO.none _
   | refine LeO.ite ?_ ?_
   | refine LeO.bind ?_ (fun _ => ?_)
set_option maxHeartbeats 8000000 in
set_option maxRecDepth 100000 in
theorem Qbm.calls (k : Nat) (a0_0 : ByteArray) (a0_1 : Int) (r : Bool) (w : World) (h : Qbm.f k a0_0 a0_1 = some r) :
  Calls Try.prog 111 #[.agg #[.string a0_0, .int .i64 a0_1]] w fun e w' => e = .returned (.bool r) ∧ Below w.heap.size w w' := by
 have hu98 := Try.underlying98
 have HB := Aside0.mk (Below.refl w.heap.size w)
 have H : ((QaA.f k a0_0).bind fun t143 => (some (!t143))) = some r := h
 clear h
 replace H := Option.bind_eq_some_iff.mp H
 obtain ⟨t143, A20, H⟩ := H
 replace H : (some (!t143)) = some r := H
 have A2 := Aside0.mk A20
 clear A20
 obtain rfl := Option.some.inj H
 go_enter Try.func111, Try.ntmps111
 go_wp2_with (first | ((with_reducible refine QaD (N := 1) rfl ?_); refine QaL ?hg (N := 1) ?hd (cs := #[.string a0_0, .int .i64 a0_1]) (t := 98) ?hr ?_; (case hd => rfl); (case hg => rfl); (case hr => first | (go_simp; done) | (go_simp; rfl)); intro gb142 hg w3 hbox hb; have n0_ := Aside0.mk (Qaq (Zb) hb); have n1_ := Aside0.mk (hbox); have n2_ := Aside0.mk ((by rw [hg]; exact (Qan (Zb)) : w.heap.size ≤ gb142)); have n3_ := Aside0.mk ((by rw [hg]; exact (Qan (Zb)) : w.heap.size ≤ gb142)); clear HB; have HB := n0_; have BK142 := n1_; have GW142 := n2_; have GE142 := n3_; clear n0_ n1_ n2_ n3_; clear hb hbox hg; have hcz4_0 : w3.cell? ⟨gb142, 0, none⟩ = some (.string a0_0) := (Qah BK142.out 0).trans rfl; have hcz4_1 : w3.cell? ⟨gb142, 1, none⟩ = some (.int .i64 a0_1) := (Qah BK142.out 1).trans rfl; have hfz4_0 := Qaf BK142.out 0; have hfz4_1 := Qaf BK142.out 1) | ((with_reducible refine Qay (f := 108) rfl ?_); refine goesL_ (some 5) rfl rfl Try.func108 (by kernel_rfl) rfl #[.string a0_0] rfl (Zl) ?_; (with_reducible refine (QaA.calls k a0_0 t143 _ A2.out).mono ?_); rintro e w' ⟨rfl, ⟨nd, rfl⟩⟩; refine ⟨_, rfl, ?_⟩))
 go_ret
 exact ⟨Zq, Zc1 GE142.out⟩
def QbM.f (a0_0 : ByteArray) (a0_1 : Int) : Option (Bool) := if a0_1 < 1 then (some true) else (some (decide (a0_1 > 1000000000000)))
set_option maxHeartbeats 8000000 in
set_option maxRecDepth 100000 in
theorem QbM.calls (a0_0 : ByteArray) (a0_1 : Int) (r : Bool) (w : World) (h : QbM.f a0_0 a0_1 = some r) :
  Calls Try.prog 113 #[.agg #[.string a0_0, .int .i64 a0_1]] w fun e w' => e = .returned (.bool r) ∧ Below w.heap.size w w' := by
 have hu98 := Try.underlying98
 have HB := Aside0.mk (Below.refl w.heap.size w)
 have H : (if a0_1 < 1 then (some true) else (some (decide (a0_1 > 1000000000000)))) = some r := h
 clear h
 go_enter Try.func113, Try.ntmps113
 go_upto_region 1 with (first | ((with_reducible refine QaD (N := 1) rfl ?_); refine QaL ?hg (N := 1) ?hd (cs := #[.string a0_0, .int .i64 a0_1]) (t := 98) ?hr ?_; (case hd => rfl); (case hg => rfl); (case hr => first | (go_simp; done) | (go_simp; rfl)); intro gb147 hg w2 hbox hb; have n0_ := Aside0.mk (Qaq (Zb) hb); have n1_ := Aside0.mk (hbox); have n2_ := Aside0.mk ((by rw [hg]; exact (Qan (Zb)) : w.heap.size ≤ gb147)); have n3_ := Aside0.mk ((by rw [hg]; exact (Qan (Zb)) : w.heap.size ≤ gb147)); clear HB; have HB := n0_; have BK147 := n1_; have GW147 := n2_; have GE147 := n3_; clear n0_ n1_ n2_ n3_; clear hb hbox hg))
 (try simp only [Act.put, List.setIfInBounds_toArray, List.set_cons_zero, List.set_cons_succ])
 by_cases c3 : a0_1 < 1
 ·rw [if_pos c3] at H
  have c3b0 : decide (a0_1 < 1) = true := decide_eq_true c3
  clear c3
  (try simp only [c3b0])
  obtain rfl := Option.some.inj H
  have hcz4_0 : w2.cell? ⟨gb147, 0, none⟩ = some (.string a0_0) := (Qah BK147.out 0).trans rfl
  have hcz4_1 : w2.cell? ⟨gb147, 1, none⟩ = some (.int .i64 a0_1) := (Qah BK147.out 1).trans rfl
  have hfz4_0 := Qaf BK147.out 0
  have hfz4_1 := Qaf BK147.out 1
  go_wp2
  go_ret
  exact ⟨Zq, Zc1 GE147.out⟩
 ·rw [if_neg c3] at H
  have c3b0 : decide (a0_1 < 1) = false := decide_eq_false c3
  clear c3
  (try simp only [c3b0])
  obtain rfl := Option.some.inj H
  have hcz5_0 : w2.cell? ⟨gb147, 0, none⟩ = some (.string a0_0) := (Qah BK147.out 0).trans rfl
  have hcz5_1 : w2.cell? ⟨gb147, 1, none⟩ = some (.int .i64 a0_1) := (Qah BK147.out 1).trans rfl
  have hfz5_0 := Qaf BK147.out 0
  have hfz5_1 := Qaf BK147.out 1
  go_wp2
  go_ret
  exact ⟨Zq, Zc1 GE147.out⟩
theorem eqA50 (d : Nat) (w : World) (x0 y0 : ByteArray) (x1 y1 : ByteArray) (x2 y2 : Int) (x3 y3 : Int) (x4 y4 : Int) :
  (Op.equalIn (d + 3) 50 (.agg #[.string x0, .string x1, .int .i64 x2, .int .i64 x3, .int .i64 x4]) (.agg #[.string y0, .string y1, .int .i64 y2, .int .i64 y3, .int .i64 y4])).run Try.prog w = .ok ((x0.toList == y0.toList && (x1.toList == y1.toList)) && (x2 == y2 && (x3 == y3 && (x4 == y4)))) w := by
 refine eqA_of Try.underlying50 (by kernel_rfl) ?_
 refine Qcy (by rfl) (by go_simp) (by go_simp) (eqA44 (d + 0) w _ _ _ _) ?_
 refine Qcy (by rfl) (by go_simp; rfl) (by go_simp; rfl) (by go_simp) ?_
 refine Qcy (by rfl) (by go_simp; rfl) (by go_simp; rfl) (by go_simp) ?_
 exact QdW (by rfl) (by go_simp; rfl) (by go_simp; rfl) (by go_simp)
end Go.Proofs.Ytfcaaefdmabkhaa.Pr
