/- Functions' values and contracts, as the print wrote them. -/
import Derived.Test.YtaiekjimdjlgbaaQ8F2P0
namespace Go.Proofs.Ytaiekjimdjlgbaa.Pr
open Go.RowKit Go.Proofs.YtaiekjimdjlgbaaW.PrintWords Go.Proofs.YtaiekjimdjlgbaaW.PrintLast Go.Proofs.YtaiekjimdjlgbaaW.PrintMore
attribute [local go_sem] max2_int min2_int max_two min_two max_three min_three max_four min_four   -- for this text's walks alone
set_option linter.unusedVariables false
set_option linter.unusedSimpArgs false
mutual
def contangoref28_Charge.j0 : Nat → Int → List (S103) → Bool → Option (Int × Int)
  | 0, _, _, _ => none
  | k + 1, x0, x1, x23 => if x23 = true then (some (0, 18)) else (contangoref28_Charge.l0 k x0 x1 0 0 0)
def contangoref28_Charge.l0 : Nat → Int → List (S103) → Int → Int → Int → Option (Int × Int)
  | 0, _, _, _, _, _ => none
  | k + 1, x0, x1, x7, x8, x9 => if x9 < (x1.length : Int) then (if x9 < (wrap64 ((x1.length : Int) - 1)) then (if 0 ≤ x9 then (contangoref28_Charge.j2 k x0 x1 x7 x8 x9 (mn x0 ((rd_T103 x1 x9).f0))) else (none)) else (contangoref28_Charge.j2 k x0 x1 x7 x8 x9 x0)) else (some (x7, 0))
def contangoref28_Charge.j2 : Nat → Int → List (S103) → Int → Int → Int → Int → Option (Int × Int)
  | 0, _, _, _, _, _, _ => none
  | k + 1, x0, x1, x7, x8, x9, x10 => if x10 ≤ x8 then (some (x7, 0)) else (if 0 ≤ x9 then (if x9 < (x1.length : Int) then ((contangoref01_Mul.f k (wrap64 (x10 - x8)) ((rd_T103 x1 x9).f1)).bind fun bt343 => (if bt343.2 = 0 then ((contangoref01_Add.f k x7 bt343.1).bind fun bt345 => (if bt345.2 = 0 then (contangoref28_Charge.l0 k x0 x1 bt345.1 x10 (wrap64 (x9 + 1))) else (some (0, 3)))) else (some (0, 3)))) else (none)) else (none))
end
def contangoref28_Charge.f (k : Nat) (a0 : Int) (l1 : List (S103)) : Option (Int × Int) := (contangoref28_Check.f k l1).bind fun t340 => (if t340 = 0 then (if a0 < 0 then (contangoref28_Charge.j0 k a0 l1 true) else (contangoref28_Charge.j0 k a0 l1 (decide (a0 > 1152921504606846976)))) else (some (0, t340)))
theorem contangoref28_Charge.mono_l : ∀ k, (∀ y0 y1 y2, LeO (contangoref28_Charge.j0 k y0 y1 y2) (contangoref28_Charge.j0 (k + 1) y0 y1 y2)) ∧ (∀ y0 y1 y2 y3 y4, LeO (contangoref28_Charge.l0 k y0 y1 y2 y3 y4) (contangoref28_Charge.l0 (k + 1) y0 y1 y2 y3 y4)) ∧ (∀ y0 y1 y2 y3 y4 y5, LeO (contangoref28_Charge.j2 k y0 y1 y2 y3 y4 y5) (contangoref28_Charge.j2 (k + 1) y0 y1 y2 y3 y4 y5))
  | 0 => ⟨fun _ _ _ r h => by simp [contangoref28_Charge.j0] at h, fun _ _ _ _ _ r h => by simp [contangoref28_Charge.l0] at h, fun _ _ _ _ _ _ r h => by simp [contangoref28_Charge.j2] at h⟩
  | k + 1 => by
    obtain ⟨ih0, ih1, ih2⟩ := contangoref28_Charge.mono_l k
    refine ⟨?_, ?_, ?_⟩
    · intro y0 y1 y2
      unfold contangoref28_Charge.j0
      repeat' first
      | (with_reducible exact ih0 _ _ _)
      | (with_reducible exact ih1 _ _ _ _ _)
      | (with_reducible exact ih2 _ _ _ _ _ _)
      | (with_reducible exact contangoref01_Add.mono _ _ _)
      | (with_reducible exact contangoref01_Mul.mono _ _ _)
      | (with_reducible exact contangoref28_Check.mono _ _)
      | (with_reducible exact LeO.refl _)
      | (with_reducible exact LeO.none _)
      | (with_reducible refine LeO.ite ?_ ?_)
      | (with_reducible refine LeO.bind ?_ (fun _ => ?_))
      | exact ih0 _ _ _
      | exact ih1 _ _ _ _ _
      | exact ih2 _ _ _ _ _ _
      | exact contangoref01_Add.mono _ _ _
      | exact contangoref01_Mul.mono _ _ _
      | exact contangoref28_Check.mono _ _
      | exact LeO.none _
      | refine LeO.ite ?_ ?_
      | refine LeO.bind ?_ (fun _ => ?_)
    · intro y0 y1 y2 y3 y4
      unfold contangoref28_Charge.l0
      repeat' first
      | (with_reducible exact ih0 _ _ _)
      | (with_reducible exact ih1 _ _ _ _ _)
      | (with_reducible exact ih2 _ _ _ _ _ _)
      | (with_reducible exact contangoref01_Add.mono _ _ _)
      | (with_reducible exact contangoref01_Mul.mono _ _ _)
      | (with_reducible exact contangoref28_Check.mono _ _)
      | (with_reducible exact LeO.refl _)
      | (with_reducible exact LeO.none _)
      | (with_reducible refine LeO.ite ?_ ?_)
      | (with_reducible refine LeO.bind ?_ (fun _ => ?_))
      | exact ih0 _ _ _
      | exact ih1 _ _ _ _ _
      | exact ih2 _ _ _ _ _ _
      | exact contangoref01_Add.mono _ _ _
      | exact contangoref01_Mul.mono _ _ _
      | exact contangoref28_Check.mono _ _
      | exact LeO.none _
      | refine LeO.ite ?_ ?_
      | refine LeO.bind ?_ (fun _ => ?_)
    · intro y0 y1 y2 y3 y4 y5
      unfold contangoref28_Charge.j2
      repeat' first
      | (with_reducible exact ih0 _ _ _)
      | (with_reducible exact ih1 _ _ _ _ _)
      | (with_reducible exact ih2 _ _ _ _ _ _)
      | (with_reducible exact contangoref01_Add.mono _ _ _)
      | (with_reducible exact contangoref01_Mul.mono _ _ _)
      | (with_reducible exact contangoref28_Check.mono _ _)
      | (with_reducible exact LeO.refl _)
      | (with_reducible exact LeO.none _)
      | (with_reducible refine LeO.ite ?_ ?_)
      | (with_reducible refine LeO.bind ?_ (fun _ => ?_))
      | exact ih0 _ _ _
      | exact ih1 _ _ _ _ _
      | exact ih2 _ _ _ _ _ _
      | exact contangoref01_Add.mono _ _ _
      | exact contangoref01_Mul.mono _ _ _
      | exact contangoref28_Check.mono _ _
      | exact LeO.none _
      | refine LeO.ite ?_ ?_
      | refine LeO.bind ?_ (fun _ => ?_)
theorem contangoref28_Charge.mono : ∀ a0 a1 k, LeO (contangoref28_Charge.f k a0 a1) (contangoref28_Charge.f (k + 1) a0 a1) := by
  intro a0 a1 k
  obtain ⟨ih0, ih1, ih2⟩ := contangoref28_Charge.mono_l k
  unfold contangoref28_Charge.f
  repeat' first
      | (with_reducible exact ih0 _ _ _)
      | (with_reducible exact ih1 _ _ _ _ _)
      | (with_reducible exact ih2 _ _ _ _ _ _)
      | (with_reducible exact contangoref01_Add.mono _ _ _)
      | (with_reducible exact contangoref01_Mul.mono _ _ _)
      | (with_reducible exact contangoref28_Check.mono _ _)
      | (with_reducible exact LeO.refl _)
      | (with_reducible exact LeO.none _)
      | (with_reducible refine LeO.ite ?_ ?_)
      | (with_reducible refine LeO.bind ?_ (fun _ => ?_))
      | exact ih0 _ _ _
      | exact ih1 _ _ _ _ _
      | exact ih2 _ _ _ _ _ _
      | exact contangoref01_Add.mono _ _ _
      | exact contangoref01_Mul.mono _ _ _
      | exact contangoref28_Check.mono _ _
      | exact LeO.none _
      | refine LeO.ite ?_ ?_
      | refine LeO.bind ?_ (fun _ => ?_)
set_option maxHeartbeats 8000000 in
set_option maxRecDepth 100000 in
theorem contangoref28_Charge.calls (k : Nat) (a0 : Int) (A1 : Option Addr) (c1 : Nat) (l1 : List (S103)) (r1 : Int) (r2 : Int) (w : World) (hr1 : Kd.C k103 w A1 l1.length l1) (hc1 : l1.length ≤ c1) (h : contangoref28_Charge.f k a0 l1 = some (r1, r2)) :
    Calls Try.prog 31 #[.int .i64 a0, .slice A1 l1.length c1] w fun e w' => e = .returned (.tuple #[.int .i64 r1, .int .i64 r2]) ∧ Below w.heap.size w w' := by
  have HR1 := Aside0.mk hr1
  have HC1 := Aside0.mk hc1
  clear hr1 hc1
  have HB := Aside0.mk (Below.refl w.heap.size w)
  have H : ((contangoref28_Check.f k l1).bind fun t340 => (if t340 = 0 then (if a0 < 0 then (contangoref28_Charge.j0 k a0 l1 true) else (contangoref28_Charge.j0 k a0 l1 (decide (a0 > 1152921504606846976)))) else (some (0, t340)))) = some (r1, r2) := h
  clear h
  replace H := Option.bind_eq_some_iff.mp H
  obtain ⟨t340, A30, H⟩ := H
  replace H : (if t340 = 0 then (if a0 < 0 then (contangoref28_Charge.j0 k a0 l1 true) else (contangoref28_Charge.j0 k a0 l1 (decide (a0 > 1152921504606846976)))) else (some (0, t340))) = some (r1, r2) := H
  have A3 := Aside0.mk A30
  clear A30
  go_enter Try.func31, Try.ntmps31
  go_upto_if 16 with (first | ((with_reducible refine gate_callee (f := 33) rfl ?_); refine goesL_ (some 14) rfl rfl Try.func33 (by kernel_rfl) rfl #[.slice A1 l1.length c1] rfl (by (try simp only [List.map_toArray, List.map_cons, List.map_nil]); first | done | rfl | (simp only [List.length_drop, List.length_take]; rfl)) ?_; (with_reducible refine (contangoref28_Check.calls k _ _ l1 t340 _ ?side1 ?side2 A3.out).mono ?_); (case side1 => repeat (first | exact HR1.out | (with_reducible refine Kd.C_alloc ?_ _) | (with_reducible refine Kd.C_drewN ?_ _) | (with_reducible refine Kd.C_drew ?_))); (case side2 => exact HC1.out); rintro e w4 ⟨rfl, hb⟩; refine ⟨_, rfl, ?_⟩; have n0_ := Aside0.mk (below_step (by repeat (first | (with_reducible first | exact HB.out | apply below_alloc | apply pw_below_drewN | apply below_drew1) | exact HB.out)) hb); clear HB; have HB := n0_; clear n0_; (try clear hb); (try clear hb2); (try clear hk); (try clear hi)))
  (try simp only [Act.put, List.setIfInBounds_toArray, List.set_cons_zero, List.set_cons_succ])
  by_cases c5 : t340 = 0
  · rw [if_pos c5] at H
    have c5b0 : (t340 == 0) = true := beq_iff_eq.mpr c5
    have c5b1 : (t340 != 0) = false := bne_eq_false_iff_eq.mpr c5
    clear c5
    (try simp only [c5b0, c5b1])
    have HC6 := Aside0.mk H
    clear H
    go_upto_region 4 with (fail)
    go_cut [23] (fun v23 wc => ∃ (kq : Nat) (x23_5 : Bool), v23 = .bool x23_5 ∧ Aside0 (contangoref28_Charge.j0 kq a0 l1 x23_5 = some (r1, r2)) ∧ Aside0 (kq ≤ k) ∧ Aside0 (Below w.heap.size w wc))
    case first =>
      have H := HC6.out
      clear HC6
      by_cases c7 : a0 < 0
      · rw [if_pos c7] at H
        have c7b0 : decide (a0 < 0) = true := decide_eq_true c7
        clear c7
        have H' := Aside0.mk H
        clear H
        go_wp2
        go_meet
        case rel => exact ⟨_, (true), (by first | rfl | (simp; done) | (simp [*]; done)), H', ⟨by first | omega | exact Nat.le_refl _⟩, ⟨by repeat (first | (with_reducible first | exact HB.out | apply below_alloc | apply pw_below_drewN | apply below_drew1) | exact HB.out)⟩⟩
      · rw [if_neg c7] at H
        have c7b0 : decide (a0 < 0) = false := decide_eq_false c7
        clear c7
        have H' := Aside0.mk H
        clear H
        go_wp2
        go_meet
        case rel => exact ⟨_, (decide (a0 > 1152921504606846976)), (by first | rfl | (simp; done) | (simp [*]; done)), H', ⟨by first | omega | exact Nat.le_refl _⟩, ⟨by repeat (first | (with_reducible first | exact HB.out | apply below_alloc | apply pw_below_drewN | apply below_drew1) | exact HB.out)⟩⟩
    case rest =>
      clear HC6
      try clear c1
      try clear p2
      try clear c3
      try clear c5
      try clear c5b0
      try clear c5b1
      try clear c7
      try clear c7b0
      obtain ⟨kq, x23_5, rfl, HA, HJ5, HB⟩ := hcut
      cases kq with
      | zero => exact absurd HA.out (by simp [contangoref28_Charge.j0])
      | succ kj5 =>
        have H := HA.out
        clear HA
        simp only [contangoref28_Charge.j0] at H
        by_cases c8 : x23_5 = true
        · subst c8
          have H1 : (some (0, 18)) = some (r1, r2) := by rw [if_pos rfl] at H; exact H
          clear H
          have H := H1
          clear H1
          simp only [Option.some.injEq, Prod.mk.injEq] at H
          obtain ⟨rfl, rfl⟩ := H
          go_wp2
          go_ret2
          exact ⟨by first | rfl | (simp [errW_none, errW_some] <;> rfl) | (simp [*, errW_none, errW_some] <;> rfl), by repeat (first | (with_reducible first | exact HB.out | apply below_alloc | apply pw_below_drewN | apply below_drew1) | exact HB.out)⟩
        · replace c8 := Bool.eq_false_iff.mpr c8
          subst c8
          have H1 : (contangoref28_Charge.l0 kj5 a0 l1 0 0 0) = some (r1, r2) := by rw [if_neg (show ¬ (false = true) by decide)] at H; exact H
          clear H
          have H := H1
          clear H1
          have H' := Aside0.mk H
          clear H
          go_wp2
          go_loopg [7, 8, 9] kj5 (fun kq v7 v8 v9 w' => ∃ (x7_2 : Int) (x8_2 : Int) (x9_2 : Int), v7 = .int .i64 x7_2 ∧ v8 = .int .i64 x8_2 ∧ v9 = .int .i64 x9_2 ∧ Aside0 (contangoref28_Charge.l0 kq a0 l1 x7_2 x8_2 x9_2 = some (r1, r2)) ∧ Aside0 (kq ≤ kj5) ∧ Aside0 (Below w.heap.size w w'))
          case atStart => exact ⟨(0), (0), (0), (by first | rfl | (simp; done) | (simp [*]; done)), (by first | rfl | (simp; done) | (simp [*]; done)), (by first | rfl | (simp; done) | (simp [*]; done)), H', ⟨Nat.le_refl _⟩, ⟨by repeat (first | (with_reducible first | exact HB.out | apply below_alloc | apply pw_below_drewN | apply below_drew1) | exact HB.out)⟩⟩
          case round =>
            clear H'
            try clear c1
            try clear p2
            try clear c3
            try clear c5
            try clear c5b0
            try clear c5b1
            try clear c7
            try clear c7b0
            try clear c8
            try clear p2
            obtain ⟨x7_2, x8_2, x9_2, rfl, rfl, rfl, HA, HK2, HB⟩ := hrel
            cases gk with
            | zero => exact absurd HA.out (by simp [contangoref28_Charge.l0])
            | succ k2 =>
              have H := HA.out
              clear HA
              simp only [contangoref28_Charge.l0] at H
              by_cases c9 : x9_2 < (l1.length : Int)
              · rw [if_pos c9] at H
                have c9b0 : decide (x9_2 < (l1.length : Int)) = true := decide_eq_true c9
                clear c9
                (try simp only [c9b0])
                have HC10 := Aside0.mk H
                clear H
                go_upto_if 35 with (fail)
                go_cut [10] (fun v10 wc => ∃ (kq : Nat) (x10_9 : Int), v10 = .int .i64 x10_9 ∧ Aside0 (contangoref28_Charge.j2 kq a0 l1 x7_2 x8_2 x9_2 x10_9 = some (r1, r2)) ∧ Aside0 (kq ≤ k2) ∧ Aside0 (Below w.heap.size w wc))
                case first =>
                  have H := HC10.out
                  clear HC10
                  by_cases c11 : x9_2 < (wrap64 ((l1.length : Int) - 1))
                  · rw [if_pos c11] at H
                    have c11b0 : decide (x9_2 < (wrap64 ((l1.length : Int) - 1))) = true := decide_eq_true c11
                    clear c11
                    (try simp only [c11b0])
                    by_cases c12 : 0 ≤ x9_2
                    · rw [if_pos c12] at H
                      have c12b0 : decide (0 ≤ x9_2) = true := decide_eq_true c12
                      clear c12
                      obtain ⟨ji13, hji13⟩ : ∃ j_ : Int, (mn a0 ((rd_T103 l1 x9_2).f0)) = j_ := ⟨_, rfl⟩
                      replace H : (contangoref28_Charge.j2 k2 a0 l1 x7_2 x8_2 x9_2 ji13) = some (r1, r2) := by first | (rw [hji13] at H; exact H) | (simp only [hji13] at H ⊢; exact H)
                      have hji13_ : (if ((rd_T103 l1 x9_2).f0) < a0 then ((rd_T103 l1 x9_2).f0) else a0) = ji13 := hji13
                      have H' := Aside0.mk H
                      clear H
                      have p341 : 0 ≤ (x9_2 : Int) := of_decide_eq_true (by first | (with_reducible assumption) | assumption)
                      have q341 : x9_2 < (l1.length : Int) := of_decide_eq_true (by first | (with_reducible assumption) | assumption)
                      obtain ⟨ad341, e341, hx341_0, hx341_1⟩ := at_T103 HR1.out x9_2 p341 q341
                      cases e341
                      replace hx341_0 := (HB.out.cell (World.block_lt_of_cell? w _ hx341_0)).trans hx341_0
                      replace hx341_1 := (HB.out.cell (World.block_lt_of_cell? w _ hx341_1)).trans hx341_1
                      replace p341 := eq_true p341
                      replace q341 := eq_true q341
                      go_wp2
                      go_meet
                      case rel => exact ⟨_, (ji13), (by first | rfl | (simp; done) | (simp only [← hji13] <;> (first | rfl | simp)) | (simp [*]; done)), H', ⟨by have := HJ5.out; have := HK2.out; first | omega | exact Nat.le_refl _⟩, ⟨by repeat (first | (with_reducible first | exact HB.out | apply below_alloc | apply pw_below_drewN | apply below_drew1) | exact HB.out)⟩⟩
                    · rw [if_neg c12] at H
                      exact absurd H (by simp)
                  · rw [if_neg c11] at H
                    have c11b0 : decide (x9_2 < (wrap64 ((l1.length : Int) - 1))) = false := decide_eq_false c11
                    clear c11
                    (try simp only [c11b0])
                    have H' := Aside0.mk H
                    clear H
                    go_wp2
                    go_meet
                    case rel => exact ⟨_, (a0), (by first | rfl | (simp; done) | (simp [*]; done)), H', ⟨by have := HJ5.out; have := HK2.out; first | omega | exact Nat.le_refl _⟩, ⟨by repeat (first | (with_reducible first | exact HB.out | apply below_alloc | apply pw_below_drewN | apply below_drew1) | exact HB.out)⟩⟩
                case rest =>
                  clear HC10
                  try clear c1
                  try clear p2
                  try clear c3
                  try clear p3
                  try clear q3
                  try clear hx3
                  try clear c5
                  try clear c5b0
                  try clear c5b1
                  try clear p6
                  try clear c7
                  try clear c7b0
                  try clear c8
                  try clear c9
                  try clear c9b0
                  try clear c11
                  try clear c11b0
                  try clear c12
                  try clear c12b0
                  try clear hx341_0
                  try clear hx341_1
                  try clear p2
                  try clear p341
                  try clear q341
                  obtain ⟨kq, x10_9, rfl, HA, HJ9, HB⟩ := hcut
                  cases kq with
                  | zero => exact absurd HA.out (by simp [contangoref28_Charge.j2])
                  | succ kj9 =>
                    have H := HA.out
                    clear HA
                    simp only [contangoref28_Charge.j2] at H
                    by_cases c14 : x10_9 ≤ x8_2
                    · rw [if_pos c14] at H
                      have c14b0 : decide (x10_9 ≤ x8_2) = true := decide_eq_true c14
                      clear c14
                      (try simp only [c14b0])
                      simp only [Option.some.injEq, Prod.mk.injEq] at H
                      obtain ⟨rfl, rfl⟩ := H
                      go_wp2
                      go_ret2
                      exact ⟨by first | rfl | (simp [errW_none, errW_some] <;> rfl) | (simp [*, errW_none, errW_some] <;> rfl), by repeat (first | (with_reducible first | exact HB.out | apply below_alloc | apply pw_below_drewN | apply below_drew1) | exact HB.out)⟩
                    · rw [if_neg c14] at H
                      have c14b0 : decide (x10_9 ≤ x8_2) = false := decide_eq_false c14
                      clear c14
                      (try simp only [c14b0])
                      by_cases c15 : 0 ≤ x9_2
                      · rw [if_pos c15] at H
                        have c15b0 : decide (0 ≤ x9_2) = true := decide_eq_true c15
                        clear c15
                        by_cases c16 : x9_2 < (l1.length : Int)
                        · rw [if_pos c16] at H
                          have c16b0 : decide (x9_2 < (l1.length : Int)) = true := decide_eq_true c16
                          clear c16
                          replace H := Option.bind_eq_some_iff.mp H
                          obtain ⟨⟨t343, t344⟩, A170, H⟩ := H
                          replace H : (if t344 = 0 then ((contangoref01_Add.f kj9 x7_2 t343).bind fun bt345 => (if bt345.2 = 0 then (contangoref28_Charge.l0 kj9 a0 l1 bt345.1 x10_9 (wrap64 (x9_2 + 1))) else (some (0, 3)))) else (some (0, 3))) = some (r1, r2) := H
                          have A17 := Aside0.mk A170
                          clear A170
                          have p342 : 0 ≤ (x9_2 : Int) := of_decide_eq_true (by first | (with_reducible assumption) | assumption)
                          have q342 : x9_2 < (l1.length : Int) := of_decide_eq_true (by first | (with_reducible assumption) | assumption)
                          obtain ⟨ad342, e342, hx342_0, hx342_1⟩ := at_T103 HR1.out x9_2 p342 q342
                          cases e342
                          replace hx342_0 := (HB.out.cell (World.block_lt_of_cell? w _ hx342_0)).trans hx342_0
                          replace hx342_1 := (HB.out.cell (World.block_lt_of_cell? w _ hx342_1)).trans hx342_1
                          replace p342 := eq_true p342
                          replace q342 := eq_true q342
                          go_upto_if 59 with (first | ((with_reducible refine gate_callee (f := 53) rfl ?_); refine goesL_ (some 55) rfl rfl Try.func53 (by kernel_rfl) rfl #[.int .i64 (wrap64 (x10_9 - x8_2)), .int .i64 ((rd_T103 l1 x9_2).f1)] rfl (by (try simp only [List.map_toArray, List.map_cons, List.map_nil]); first | done | rfl | (simp only [List.length_drop, List.length_take]; rfl)) ?_; (with_reducible refine (contangoref01_Mul.calls kj9 (wrap64 (x10_9 - x8_2)) ((rd_T103 l1 x9_2).f1) t343 t344 _ A17.out).mono ?_); rintro e w' ⟨rfl, ⟨nd, rfl⟩⟩; refine ⟨_, rfl, ?_⟩))
                          (try simp only [Act.put, List.setIfInBounds_toArray, List.set_cons_zero, List.set_cons_succ])
                          by_cases c18 : t344 = 0
                          · rw [if_pos c18] at H
                            have c18b0 : (t344 == 0) = true := beq_iff_eq.mpr c18
                            have c18b1 : (t344 != 0) = false := bne_eq_false_iff_eq.mpr c18
                            clear c18
                            (try simp only [c18b0, c18b1])
                            replace H := Option.bind_eq_some_iff.mp H
                            obtain ⟨⟨t345, t346⟩, A190, H⟩ := H
                            replace H : (if t346 = 0 then (contangoref28_Charge.l0 kj9 a0 l1 t345 x10_9 (wrap64 (x9_2 + 1))) else (some (0, 3))) = some (r1, r2) := H
                            have A19 := Aside0.mk A190
                            clear A190
                            go_upto_if 67 with (first | ((with_reducible refine gate_callee (f := 68) rfl ?_); refine goesL_ (some 63) rfl rfl Try.func68 (by kernel_rfl) rfl #[.int .i64 x7_2, .int .i64 t343] rfl (by (try simp only [List.map_toArray, List.map_cons, List.map_nil]); first | done | rfl | (simp only [List.length_drop, List.length_take]; rfl)) ?_; (with_reducible refine (contangoref01_Add.calls kj9 x7_2 t343 t345 t346 _ A19.out).mono ?_); rintro e w' ⟨rfl, ⟨nd, rfl⟩⟩; refine ⟨_, rfl, ?_⟩))
                            (try simp only [Act.put, List.setIfInBounds_toArray, List.set_cons_zero, List.set_cons_succ])
                            by_cases c20 : t346 = 0
                            · rw [if_pos c20] at H
                              have c20b0 : (t346 == 0) = true := beq_iff_eq.mpr c20
                              have c20b1 : (t346 != 0) = false := bne_eq_false_iff_eq.mpr c20
                              clear c20
                              (try simp only [c20b0, c20b1])
                              have H' := Aside0.mk H
                              clear H
                              go_wp2
                              go_roundg kj9
                              case measure => have := HJ5.out; have := HK2.out; have := HJ9.out; omega
                              case rel => exact ⟨(t345), (x10_9), (wrap64 (x9_2 + 1)), (by first | rfl | (simp; done) | (simp [*]; done)), (by first | rfl | (simp; done) | (simp [*]; done)), (by first | rfl | (simp; done) | (simp [*]; done)), H', ⟨by have := HJ5.out; have := HK2.out; have := HJ9.out; omega⟩, ⟨by repeat (first | (with_reducible first | exact HB.out | apply below_alloc | apply pw_below_drewN | apply below_drew1) | exact HB.out)⟩⟩
                            · rw [if_neg c20] at H
                              have c20b0 : (t346 == 0) = false := beq_eq_false_iff_ne.mpr c20
                              have c20b1 : (t346 != 0) = true := bne_iff_ne.mpr c20
                              (try simp only [c20b0, c20b1])
                              simp only [Option.some.injEq, Prod.mk.injEq] at H
                              obtain ⟨rfl, rfl⟩ := H
                              go_wp2
                              go_ret2
                              exact ⟨by first | rfl | (simp [errW_none, errW_some] <;> rfl) | (simp [*, errW_none, errW_some] <;> rfl), by repeat (first | (with_reducible first | exact HB.out | apply below_alloc | apply pw_below_drewN | apply below_drew1) | exact HB.out)⟩
                          · rw [if_neg c18] at H
                            have c18b0 : (t344 == 0) = false := beq_eq_false_iff_ne.mpr c18
                            have c18b1 : (t344 != 0) = true := bne_iff_ne.mpr c18
                            (try simp only [c18b0, c18b1])
                            simp only [Option.some.injEq, Prod.mk.injEq] at H
                            obtain ⟨rfl, rfl⟩ := H
                            go_wp2
                            go_ret2
                            exact ⟨by first | rfl | (simp [errW_none, errW_some] <;> rfl) | (simp [*, errW_none, errW_some] <;> rfl), by repeat (first | (with_reducible first | exact HB.out | apply below_alloc | apply pw_below_drewN | apply below_drew1) | exact HB.out)⟩
                        · rw [if_neg c16] at H
                          exact absurd H (by simp)
                      · rw [if_neg c15] at H
                        exact absurd H (by simp)
              · rw [if_neg c9] at H
                have c9b0 : decide (x9_2 < (l1.length : Int)) = false := decide_eq_false c9
                clear c9
                (try simp only [c9b0])
                simp only [Option.some.injEq, Prod.mk.injEq] at H
                obtain ⟨rfl, rfl⟩ := H
                go_wp2
                go_ret2
                exact ⟨by first | rfl | (simp [errW_none, errW_some] <;> rfl) | (simp [*, errW_none, errW_some] <;> rfl), by repeat (first | (with_reducible first | exact HB.out | apply below_alloc | apply pw_below_drewN | apply below_drew1) | exact HB.out)⟩
  · rw [if_neg c5] at H
    have c5b0 : (t340 == 0) = false := beq_eq_false_iff_ne.mpr c5
    have c5b1 : (t340 != 0) = true := bne_iff_ne.mpr c5
    (try simp only [c5b0, c5b1])
    simp only [Option.some.injEq, Prod.mk.injEq] at H
    obtain ⟨rfl, rfl⟩ := H
    go_wp2
    go_ret2
    exact ⟨by first | rfl | (simp [errW_none, errW_some] <;> rfl) | (simp [*, errW_none, errW_some] <;> rfl), by repeat (first | (with_reducible first | exact HB.out | apply below_alloc | apply pw_below_drewN | apply below_drew1) | exact HB.out)⟩
mutual
def bits_Div64.j2 : Nat → Int → Int → Int → Int → Int → Int → Int → Int → Option (Int × Int)
  | 0, _, _, _, _, _, _, _, _ => none
  | k + 1, x2, x8, x9, x10, x11, x13, x14, x15 => if x9 = 0 then (none) else (bits_Div64.l1 k x2 x8 x9 x10 x14 x15 (IntKind.u64.wrap ((IntKind.u64.wrap ((IntKind.u64.wrap ((IntKind.u64.wrap (x11 * 4294967296)) + x13)) - (IntKind.u64.wrap (x15 * x2)))) - (IntKind.u64.wrap ((IntKind.u64.wrap (Int.tdiv (IntKind.u64.wrap ((IntKind.u64.wrap ((IntKind.u64.wrap (x11 * 4294967296)) + x13)) - (IntKind.u64.wrap (x15 * x2)))) x9)) * x9)))) (IntKind.u64.wrap ((IntKind.u64.wrap ((IntKind.u64.wrap (x11 * 4294967296)) + x13)) - (IntKind.u64.wrap (x15 * x2)))) (IntKind.u64.wrap (Int.tdiv (IntKind.u64.wrap ((IntKind.u64.wrap ((IntKind.u64.wrap (x11 * 4294967296)) + x13)) - (IntKind.u64.wrap (x15 * x2)))) x9)))
def bits_Div64.l1 : Nat → Int → Int → Int → Int → Int → Int → Int → Int → Int → Option (Int × Int)
  | 0, _, _, _, _, _, _, _, _, _ => none
  | k + 1, x2, x8, x9, x10, x14, x15, x16, x17, x18 => if x18 ≥ 4294967296 then (bits_Div64.j4 k x2 x8 x9 x10 x14 x15 x16 x17 x18 true) else (bits_Div64.j4 k x2 x8 x9 x10 x14 x15 x16 x17 x18 (decide ((IntKind.u64.wrap (x18 * x10)) > (IntKind.u64.wrap ((IntKind.u64.wrap (4294967296 * x16)) + x14)))))
def bits_Div64.j4 : Nat → Int → Int → Int → Int → Int → Int → Int → Int → Int → Bool → Option (Int × Int)
  | 0, _, _, _, _, _, _, _, _, _, _ => none
  | k + 1, x2, x8, x9, x10, x14, x15, x16, x17, x18, x113 => if x113 = true then (if (IntKind.u64.wrap (x16 + x9)) ≥ 4294967296 then (if 0 ≤ x8 then (some (IntKind.u64.wrap ((IntKind.u64.wrap (x15 * 4294967296)) + (IntKind.u64.wrap (x18 - 1))), shr .u64 (IntKind.u64.wrap ((IntKind.u64.wrap ((IntKind.u64.wrap (x17 * 4294967296)) + x14)) - (IntKind.u64.wrap ((IntKind.u64.wrap (x18 - 1)) * x2)))) x8)) else (none)) else (bits_Div64.l1 k x2 x8 x9 x10 x14 x15 (IntKind.u64.wrap (x16 + x9)) x17 (IntKind.u64.wrap (x18 - 1)))) else (if 0 ≤ x8 then (some (IntKind.u64.wrap ((IntKind.u64.wrap (x15 * 4294967296)) + x18), shr .u64 (IntKind.u64.wrap ((IntKind.u64.wrap ((IntKind.u64.wrap (x17 * 4294967296)) + x14)) - (IntKind.u64.wrap (x18 * x2)))) x8)) else (none))
def bits_Div64.l0 : Nat → Int → Int → Int → Int → Int → Int → Int → Int → Int → Option (Int × Int)
  | 0, _, _, _, _, _, _, _, _, _ => none
  | k + 1, x2, x8, x9, x10, x11, x13, x14, x15, x16 => if x15 ≥ 4294967296 then (bits_Div64.j1 k x2 x8 x9 x10 x11 x13 x14 x15 x16 true) else (bits_Div64.j1 k x2 x8 x9 x10 x11 x13 x14 x15 x16 (decide ((IntKind.u64.wrap (x15 * x10)) > (IntKind.u64.wrap ((IntKind.u64.wrap (4294967296 * x16)) + x13)))))
def bits_Div64.j1 : Nat → Int → Int → Int → Int → Int → Int → Int → Int → Int → Bool → Option (Int × Int)
  | 0, _, _, _, _, _, _, _, _, _, _ => none
  | k + 1, x2, x8, x9, x10, x11, x13, x14, x15, x16, x78 => if x78 = true then (if (IntKind.u64.wrap (x16 + x9)) ≥ 4294967296 then (bits_Div64.j2 k x2 x8 x9 x10 x11 x13 x14 (IntKind.u64.wrap (x15 - 1))) else (bits_Div64.l0 k x2 x8 x9 x10 x11 x13 x14 (IntKind.u64.wrap (x15 - 1)) (IntKind.u64.wrap (x16 + x9)))) else (bits_Div64.j2 k x2 x8 x9 x10 x11 x13 x14 x15)
end
def bits_Div64.f (k : Nat) (a0 : Int) (a1 : Int) (a2 : Int) : Option (Int × Int) := if a2 = 0 then (none) else (if a2 ≤ a0 then (none) else (if a0 = 0 then (some (IntKind.u64.wrap (Int.tdiv a1 a2), Int.tmod a1 a2)) else ((bits_LeadingZeros64.f a2).bind fun t142 => (if 0 ≤ (IntKind.u64.wrap (t142)) then (if 0 ≤ (IntKind.u64.wrap (64 - (IntKind.u64.wrap (t142)))) then (if ((shl .u64 a2 (IntKind.u64.wrap (t142))) / 4294967296) = 0 then (none) else (bits_Div64.l0 k (shl .u64 a2 (IntKind.u64.wrap (t142))) (IntKind.u64.wrap (t142)) ((shl .u64 a2 (IntKind.u64.wrap (t142))) / 4294967296) (Go.bits .and .u64 (shl .u64 a2 (IntKind.u64.wrap (t142))) 4294967295) (Go.bits .or .u64 (shl .u64 a0 (IntKind.u64.wrap (t142))) (shr .u64 a1 (IntKind.u64.wrap (64 - (IntKind.u64.wrap (t142)))))) ((shl .u64 a1 (IntKind.u64.wrap (t142))) / 4294967296) (Go.bits .and .u64 (shl .u64 a1 (IntKind.u64.wrap (t142))) 4294967295) (IntKind.u64.wrap (Int.tdiv (Go.bits .or .u64 (shl .u64 a0 (IntKind.u64.wrap (t142))) (shr .u64 a1 (IntKind.u64.wrap (64 - (IntKind.u64.wrap (t142)))))) ((shl .u64 a2 (IntKind.u64.wrap (t142))) / 4294967296))) (IntKind.u64.wrap ((Go.bits .or .u64 (shl .u64 a0 (IntKind.u64.wrap (t142))) (shr .u64 a1 (IntKind.u64.wrap (64 - (IntKind.u64.wrap (t142)))))) - (IntKind.u64.wrap ((IntKind.u64.wrap (Int.tdiv (Go.bits .or .u64 (shl .u64 a0 (IntKind.u64.wrap (t142))) (shr .u64 a1 (IntKind.u64.wrap (64 - (IntKind.u64.wrap (t142)))))) ((shl .u64 a2 (IntKind.u64.wrap (t142))) / 4294967296))) * ((shl .u64 a2 (IntKind.u64.wrap (t142))) / 4294967296))))))) else (none)) else (none)))))
theorem bits_Div64.mono_l : ∀ k, (∀ y0 y1 y2 y3 y4 y5 y6 y7, LeO (bits_Div64.j2 k y0 y1 y2 y3 y4 y5 y6 y7) (bits_Div64.j2 (k + 1) y0 y1 y2 y3 y4 y5 y6 y7)) ∧ (∀ y0 y1 y2 y3 y4 y5 y6 y7 y8, LeO (bits_Div64.l1 k y0 y1 y2 y3 y4 y5 y6 y7 y8) (bits_Div64.l1 (k + 1) y0 y1 y2 y3 y4 y5 y6 y7 y8)) ∧ (∀ y0 y1 y2 y3 y4 y5 y6 y7 y8 y9, LeO (bits_Div64.j4 k y0 y1 y2 y3 y4 y5 y6 y7 y8 y9) (bits_Div64.j4 (k + 1) y0 y1 y2 y3 y4 y5 y6 y7 y8 y9)) ∧ (∀ y0 y1 y2 y3 y4 y5 y6 y7 y8, LeO (bits_Div64.l0 k y0 y1 y2 y3 y4 y5 y6 y7 y8) (bits_Div64.l0 (k + 1) y0 y1 y2 y3 y4 y5 y6 y7 y8)) ∧ (∀ y0 y1 y2 y3 y4 y5 y6 y7 y8 y9, LeO (bits_Div64.j1 k y0 y1 y2 y3 y4 y5 y6 y7 y8 y9) (bits_Div64.j1 (k + 1) y0 y1 y2 y3 y4 y5 y6 y7 y8 y9))
  | 0 => ⟨fun _ _ _ _ _ _ _ _ r h => by simp [bits_Div64.j2] at h, fun _ _ _ _ _ _ _ _ _ r h => by simp [bits_Div64.l1] at h, fun _ _ _ _ _ _ _ _ _ _ r h => by simp [bits_Div64.j4] at h, fun _ _ _ _ _ _ _ _ _ r h => by simp [bits_Div64.l0] at h, fun _ _ _ _ _ _ _ _ _ _ r h => by simp [bits_Div64.j1] at h⟩
  | k + 1 => by
    obtain ⟨ih0, ih1, ih2, ih3, ih4⟩ := bits_Div64.mono_l k
    refine ⟨?_, ?_, ?_, ?_, ?_⟩
    · intro y0 y1 y2 y3 y4 y5 y6 y7
      unfold bits_Div64.j2
      repeat' first
      | (with_reducible exact ih0 _ _ _ _ _ _ _ _)
      | (with_reducible exact ih1 _ _ _ _ _ _ _ _ _)
      | (with_reducible exact ih2 _ _ _ _ _ _ _ _ _ _)
      | (with_reducible exact ih3 _ _ _ _ _ _ _ _ _)
      | (with_reducible exact ih4 _ _ _ _ _ _ _ _ _ _)
      | (with_reducible exact LeO.refl _)
      | (with_reducible exact LeO.none _)
      | (with_reducible refine LeO.ite ?_ ?_)
      | (with_reducible refine LeO.bind ?_ (fun _ => ?_))
      | exact ih0 _ _ _ _ _ _ _ _
      | exact ih1 _ _ _ _ _ _ _ _ _
      | exact ih2 _ _ _ _ _ _ _ _ _ _
      | exact ih3 _ _ _ _ _ _ _ _ _
      | exact ih4 _ _ _ _ _ _ _ _ _ _
      | exact LeO.none _
      | refine LeO.ite ?_ ?_
      | refine LeO.bind ?_ (fun _ => ?_)
    · intro y0 y1 y2 y3 y4 y5 y6 y7 y8
      unfold bits_Div64.l1
      repeat' first
      | (with_reducible exact ih0 _ _ _ _ _ _ _ _)
      | (with_reducible exact ih1 _ _ _ _ _ _ _ _ _)
      | (with_reducible exact ih2 _ _ _ _ _ _ _ _ _ _)
      | (with_reducible exact ih3 _ _ _ _ _ _ _ _ _)
      | (with_reducible exact ih4 _ _ _ _ _ _ _ _ _ _)
      | (with_reducible exact LeO.refl _)
      | (with_reducible exact LeO.none _)
      | (with_reducible refine LeO.ite ?_ ?_)
      | (with_reducible refine LeO.bind ?_ (fun _ => ?_))
      | exact ih0 _ _ _ _ _ _ _ _
      | exact ih1 _ _ _ _ _ _ _ _ _
      | exact ih2 _ _ _ _ _ _ _ _ _ _
      | exact ih3 _ _ _ _ _ _ _ _ _
      | exact ih4 _ _ _ _ _ _ _ _ _ _
      | exact LeO.none _
      | refine LeO.ite ?_ ?_
      | refine LeO.bind ?_ (fun _ => ?_)
    · intro y0 y1 y2 y3 y4 y5 y6 y7 y8 y9
      unfold bits_Div64.j4
      repeat' first
      | (with_reducible exact ih0 _ _ _ _ _ _ _ _)
      | (with_reducible exact ih1 _ _ _ _ _ _ _ _ _)
      | (with_reducible exact ih2 _ _ _ _ _ _ _ _ _ _)
      | (with_reducible exact ih3 _ _ _ _ _ _ _ _ _)
      | (with_reducible exact ih4 _ _ _ _ _ _ _ _ _ _)
      | (with_reducible exact LeO.refl _)
      | (with_reducible exact LeO.none _)
      | (with_reducible refine LeO.ite ?_ ?_)
      | (with_reducible refine LeO.bind ?_ (fun _ => ?_))
      | exact ih0 _ _ _ _ _ _ _ _
      | exact ih1 _ _ _ _ _ _ _ _ _
      | exact ih2 _ _ _ _ _ _ _ _ _ _
      | exact ih3 _ _ _ _ _ _ _ _ _
      | exact ih4 _ _ _ _ _ _ _ _ _ _
      | exact LeO.none _
      | refine LeO.ite ?_ ?_
      | refine LeO.bind ?_ (fun _ => ?_)
    · intro y0 y1 y2 y3 y4 y5 y6 y7 y8
      unfold bits_Div64.l0
      repeat' first
      | (with_reducible exact ih0 _ _ _ _ _ _ _ _)
      | (with_reducible exact ih1 _ _ _ _ _ _ _ _ _)
      | (with_reducible exact ih2 _ _ _ _ _ _ _ _ _ _)
      | (with_reducible exact ih3 _ _ _ _ _ _ _ _ _)
      | (with_reducible exact ih4 _ _ _ _ _ _ _ _ _ _)
      | (with_reducible exact LeO.refl _)
      | (with_reducible exact LeO.none _)
      | (with_reducible refine LeO.ite ?_ ?_)
      | (with_reducible refine LeO.bind ?_ (fun _ => ?_))
      | exact ih0 _ _ _ _ _ _ _ _
      | exact ih1 _ _ _ _ _ _ _ _ _
      | exact ih2 _ _ _ _ _ _ _ _ _ _
      | exact ih3 _ _ _ _ _ _ _ _ _
      | exact ih4 _ _ _ _ _ _ _ _ _ _
      | exact LeO.none _
      | refine LeO.ite ?_ ?_
      | refine LeO.bind ?_ (fun _ => ?_)
    · intro y0 y1 y2 y3 y4 y5 y6 y7 y8 y9
      unfold bits_Div64.j1
      repeat' first
      | (with_reducible exact ih0 _ _ _ _ _ _ _ _)
      | (with_reducible exact ih1 _ _ _ _ _ _ _ _ _)
      | (with_reducible exact ih2 _ _ _ _ _ _ _ _ _ _)
      | (with_reducible exact ih3 _ _ _ _ _ _ _ _ _)
      | (with_reducible exact ih4 _ _ _ _ _ _ _ _ _ _)
      | (with_reducible exact LeO.refl _)
      | (with_reducible exact LeO.none _)
      | (with_reducible refine LeO.ite ?_ ?_)
      | (with_reducible refine LeO.bind ?_ (fun _ => ?_))
      | exact ih0 _ _ _ _ _ _ _ _
      | exact ih1 _ _ _ _ _ _ _ _ _
      | exact ih2 _ _ _ _ _ _ _ _ _ _
      | exact ih3 _ _ _ _ _ _ _ _ _
      | exact ih4 _ _ _ _ _ _ _ _ _ _
      | exact LeO.none _
      | refine LeO.ite ?_ ?_
      | refine LeO.bind ?_ (fun _ => ?_)
theorem bits_Div64.mono : ∀ a0 a1 a2 k, LeO (bits_Div64.f k a0 a1 a2) (bits_Div64.f (k + 1) a0 a1 a2) := by
  intro a0 a1 a2 k
  obtain ⟨ih0, ih1, ih2, ih3, ih4⟩ := bits_Div64.mono_l k
  unfold bits_Div64.f
  repeat' first
      | (with_reducible exact ih0 _ _ _ _ _ _ _ _)
      | (with_reducible exact ih1 _ _ _ _ _ _ _ _ _)
      | (with_reducible exact ih2 _ _ _ _ _ _ _ _ _ _)
      | (with_reducible exact ih3 _ _ _ _ _ _ _ _ _)
      | (with_reducible exact ih4 _ _ _ _ _ _ _ _ _ _)
      | (with_reducible exact LeO.refl _)
      | (with_reducible exact LeO.none _)
      | (with_reducible refine LeO.ite ?_ ?_)
      | (with_reducible refine LeO.bind ?_ (fun _ => ?_))
      | exact ih0 _ _ _ _ _ _ _ _
      | exact ih1 _ _ _ _ _ _ _ _ _
      | exact ih2 _ _ _ _ _ _ _ _ _ _
      | exact ih3 _ _ _ _ _ _ _ _ _
      | exact ih4 _ _ _ _ _ _ _ _ _ _
      | exact LeO.none _
      | refine LeO.ite ?_ ?_
      | refine LeO.bind ?_ (fun _ => ?_)
set_option maxHeartbeats 8000000 in
set_option maxRecDepth 100000 in
theorem bits_Div64.calls (k : Nat) (a0 : Int) (a1 : Int) (a2 : Int) (r1 : Int) (r2 : Int) (w : World) (h : bits_Div64.f k a0 a1 a2 = some (r1, r2)) :
    Calls Try.prog 93 #[.int .u64 a0, .int .u64 a1, .int .u64 a2] w fun e w' => e = .returned (.tuple #[.int .u64 r1, .int .u64 r2]) ∧ Drawn0 w w' := by
  have H : (if a2 = 0 then (none) else (if a2 ≤ a0 then (none) else (if a0 = 0 then (some (IntKind.u64.wrap (Int.tdiv a1 a2), Int.tmod a1 a2)) else ((bits_LeadingZeros64.f a2).bind fun t142 => (if 0 ≤ (IntKind.u64.wrap (t142)) then (if 0 ≤ (IntKind.u64.wrap (64 - (IntKind.u64.wrap (t142)))) then (if ((shl .u64 a2 (IntKind.u64.wrap (t142))) / 4294967296) = 0 then (none) else (bits_Div64.l0 k (shl .u64 a2 (IntKind.u64.wrap (t142))) (IntKind.u64.wrap (t142)) ((shl .u64 a2 (IntKind.u64.wrap (t142))) / 4294967296) (Go.bits .and .u64 (shl .u64 a2 (IntKind.u64.wrap (t142))) 4294967295) (Go.bits .or .u64 (shl .u64 a0 (IntKind.u64.wrap (t142))) (shr .u64 a1 (IntKind.u64.wrap (64 - (IntKind.u64.wrap (t142)))))) ((shl .u64 a1 (IntKind.u64.wrap (t142))) / 4294967296) (Go.bits .and .u64 (shl .u64 a1 (IntKind.u64.wrap (t142))) 4294967295) (IntKind.u64.wrap (Int.tdiv (Go.bits .or .u64 (shl .u64 a0 (IntKind.u64.wrap (t142))) (shr .u64 a1 (IntKind.u64.wrap (64 - (IntKind.u64.wrap (t142)))))) ((shl .u64 a2 (IntKind.u64.wrap (t142))) / 4294967296))) (IntKind.u64.wrap ((Go.bits .or .u64 (shl .u64 a0 (IntKind.u64.wrap (t142))) (shr .u64 a1 (IntKind.u64.wrap (64 - (IntKind.u64.wrap (t142)))))) - (IntKind.u64.wrap ((IntKind.u64.wrap (Int.tdiv (Go.bits .or .u64 (shl .u64 a0 (IntKind.u64.wrap (t142))) (shr .u64 a1 (IntKind.u64.wrap (64 - (IntKind.u64.wrap (t142)))))) ((shl .u64 a2 (IntKind.u64.wrap (t142))) / 4294967296))) * ((shl .u64 a2 (IntKind.u64.wrap (t142))) / 4294967296))))))) else (none)) else (none)))))) = some (r1, r2) := h
  clear h
  by_cases c4 : a2 = 0
  · rw [if_pos c4] at H
    exact absurd H (by simp)
  · rw [if_neg c4] at H
    have c4b0 : (a2 == 0) = false := beq_eq_false_iff_ne.mpr c4
    have c4b1 : (a2 != 0) = true := bne_iff_ne.mpr c4
    by_cases c5 : a2 ≤ a0
    · rw [if_pos c5] at H
      exact absurd H (by simp)
    · rw [if_neg c5] at H
      have c5b0 : decide (a2 ≤ a0) = false := decide_eq_false c5
      clear c5
      by_cases c6 : a0 = 0
      · rw [if_pos c6] at H
        have c6b0 : (a0 == 0) = true := beq_iff_eq.mpr c6
        have c6b1 : (a0 != 0) = false := bne_eq_false_iff_eq.mpr c6
        clear c6
        simp only [Option.some.injEq, Prod.mk.injEq] at H
        obtain ⟨rfl, rfl⟩ := H
        go_enter Try.func93, Try.ntmps93
        go_wp2
        repeat (go_quiet (fail); try go_wp2)
        go_ret2
        exact ⟨by first | rfl | (simp; done) | (simp [*]; done), by repeat (first | exact Drawn0.refl _ | apply Drawn0.step)⟩
      · rw [if_neg c6] at H
        have c6b0 : (a0 == 0) = false := beq_eq_false_iff_ne.mpr c6
        have c6b1 : (a0 != 0) = true := bne_iff_ne.mpr c6
        replace H := Option.bind_eq_some_iff.mp H
        obtain ⟨t142, A70, H⟩ := H
        replace H : (if 0 ≤ (IntKind.u64.wrap (t142)) then (if 0 ≤ (IntKind.u64.wrap (64 - (IntKind.u64.wrap (t142)))) then (if ((shl .u64 a2 (IntKind.u64.wrap (t142))) / 4294967296) = 0 then (none) else (bits_Div64.l0 k (shl .u64 a2 (IntKind.u64.wrap (t142))) (IntKind.u64.wrap (t142)) ((shl .u64 a2 (IntKind.u64.wrap (t142))) / 4294967296) (Go.bits .and .u64 (shl .u64 a2 (IntKind.u64.wrap (t142))) 4294967295) (Go.bits .or .u64 (shl .u64 a0 (IntKind.u64.wrap (t142))) (shr .u64 a1 (IntKind.u64.wrap (64 - (IntKind.u64.wrap (t142)))))) ((shl .u64 a1 (IntKind.u64.wrap (t142))) / 4294967296) (Go.bits .and .u64 (shl .u64 a1 (IntKind.u64.wrap (t142))) 4294967295) (IntKind.u64.wrap (Int.tdiv (Go.bits .or .u64 (shl .u64 a0 (IntKind.u64.wrap (t142))) (shr .u64 a1 (IntKind.u64.wrap (64 - (IntKind.u64.wrap (t142)))))) ((shl .u64 a2 (IntKind.u64.wrap (t142))) / 4294967296))) (IntKind.u64.wrap ((Go.bits .or .u64 (shl .u64 a0 (IntKind.u64.wrap (t142))) (shr .u64 a1 (IntKind.u64.wrap (64 - (IntKind.u64.wrap (t142)))))) - (IntKind.u64.wrap ((IntKind.u64.wrap (Int.tdiv (Go.bits .or .u64 (shl .u64 a0 (IntKind.u64.wrap (t142))) (shr .u64 a1 (IntKind.u64.wrap (64 - (IntKind.u64.wrap (t142)))))) ((shl .u64 a2 (IntKind.u64.wrap (t142))) / 4294967296))) * ((shl .u64 a2 (IntKind.u64.wrap (t142))) / 4294967296))))))) else (none)) else (none)) = some (r1, r2) := H
        have A7 := Aside0.mk A70
        clear A70
        obtain ⟨ji8, hji8⟩ : ∃ j_ : Int, (IntKind.u64.wrap (t142)) = j_ := ⟨_, rfl⟩
        replace H : (if 0 ≤ (ji8) then (if 0 ≤ (IntKind.u64.wrap (64 - (ji8))) then (if ((shl .u64 a2 (ji8)) / 4294967296) = 0 then (none) else (bits_Div64.l0 k (shl .u64 a2 (ji8)) ji8 ((shl .u64 a2 (ji8)) / 4294967296) (Go.bits .and .u64 (shl .u64 a2 (ji8)) 4294967295) (Go.bits .or .u64 (shl .u64 a0 (ji8)) (shr .u64 a1 (IntKind.u64.wrap (64 - (ji8))))) ((shl .u64 a1 (ji8)) / 4294967296) (Go.bits .and .u64 (shl .u64 a1 (ji8)) 4294967295) (IntKind.u64.wrap (Int.tdiv (Go.bits .or .u64 (shl .u64 a0 (ji8)) (shr .u64 a1 (IntKind.u64.wrap (64 - (ji8))))) ((shl .u64 a2 (ji8)) / 4294967296))) (IntKind.u64.wrap ((Go.bits .or .u64 (shl .u64 a0 (ji8)) (shr .u64 a1 (IntKind.u64.wrap (64 - (ji8))))) - (IntKind.u64.wrap ((IntKind.u64.wrap (Int.tdiv (Go.bits .or .u64 (shl .u64 a0 (ji8)) (shr .u64 a1 (IntKind.u64.wrap (64 - (ji8))))) ((shl .u64 a2 (ji8)) / 4294967296))) * ((shl .u64 a2 (ji8)) / 4294967296))))))) else (none)) else (none)) = some (r1, r2) := by first | (rw [hji8] at H; exact H) | (simp only [hji8] at H ⊢; exact H)
        (try rw [hji8] at A7)
        by_cases c9 : 0 ≤ (ji8)
        · rw [if_pos c9] at H
          have c9b0 := eq_true c9
          have c9b1 : decide (0 ≤ (ji8)) = true := decide_eq_true c9
          clear c9
          obtain ⟨ji10, hji10⟩ : ∃ j_ : Int, (shl .u64 a2 (ji8)) = j_ := ⟨_, rfl⟩
          replace H : (if 0 ≤ (IntKind.u64.wrap (64 - (ji8))) then (if ((ji10) / 4294967296) = 0 then (none) else (bits_Div64.l0 k ji10 ji8 ((ji10) / 4294967296) (Go.bits .and .u64 (ji10) 4294967295) (Go.bits .or .u64 (shl .u64 a0 (ji8)) (shr .u64 a1 (IntKind.u64.wrap (64 - (ji8))))) ((shl .u64 a1 (ji8)) / 4294967296) (Go.bits .and .u64 (shl .u64 a1 (ji8)) 4294967295) (IntKind.u64.wrap (Int.tdiv (Go.bits .or .u64 (shl .u64 a0 (ji8)) (shr .u64 a1 (IntKind.u64.wrap (64 - (ji8))))) ((ji10) / 4294967296))) (IntKind.u64.wrap ((Go.bits .or .u64 (shl .u64 a0 (ji8)) (shr .u64 a1 (IntKind.u64.wrap (64 - (ji8))))) - (IntKind.u64.wrap ((IntKind.u64.wrap (Int.tdiv (Go.bits .or .u64 (shl .u64 a0 (ji8)) (shr .u64 a1 (IntKind.u64.wrap (64 - (ji8))))) ((ji10) / 4294967296))) * ((ji10) / 4294967296))))))) else (none)) = some (r1, r2) := by first | (rw [hji10] at H; exact H) | (simp only [hji10] at H ⊢; exact H)
          (try rw [hji10] at A7)
          have hji10_ : (IntKind.u64.wrap (a2 * 2 ^ min (ji8).toNat 64)) = ji10 := hji10
          have hji10z : (ji8) ≤ 64 → (IntKind.u64.wrap (a2 * 2 ^ (ji8).toNat)) = ji10 := shl_small hji10
          have c11b0 := eq_true (of_decide_eq_true (by first | (with_reducible assumption) | assumption) : 0 ≤ (ji8))
          obtain ⟨ji12, hji12⟩ : ∃ j_ : Int, (shl .u64 a0 (ji8)) = j_ := ⟨_, rfl⟩
          replace H : (if 0 ≤ (IntKind.u64.wrap (64 - (ji8))) then (if ((ji10) / 4294967296) = 0 then (none) else (bits_Div64.l0 k ji10 ji8 ((ji10) / 4294967296) (Go.bits .and .u64 (ji10) 4294967295) (Go.bits .or .u64 (ji12) (shr .u64 a1 (IntKind.u64.wrap (64 - (ji8))))) ((shl .u64 a1 (ji8)) / 4294967296) (Go.bits .and .u64 (shl .u64 a1 (ji8)) 4294967295) (IntKind.u64.wrap (Int.tdiv (Go.bits .or .u64 (ji12) (shr .u64 a1 (IntKind.u64.wrap (64 - (ji8))))) ((ji10) / 4294967296))) (IntKind.u64.wrap ((Go.bits .or .u64 (ji12) (shr .u64 a1 (IntKind.u64.wrap (64 - (ji8))))) - (IntKind.u64.wrap ((IntKind.u64.wrap (Int.tdiv (Go.bits .or .u64 (ji12) (shr .u64 a1 (IntKind.u64.wrap (64 - (ji8))))) ((ji10) / 4294967296))) * ((ji10) / 4294967296))))))) else (none)) = some (r1, r2) := by first | (rw [hji12] at H; exact H) | (simp only [hji12] at H ⊢; exact H)
          (try rw [hji12] at A7)
          have hji12_ : (IntKind.u64.wrap (a0 * 2 ^ min (ji8).toNat 64)) = ji12 := hji12
          have hji12z : (ji8) ≤ 64 → (IntKind.u64.wrap (a0 * 2 ^ (ji8).toNat)) = ji12 := shl_small hji12
          obtain ⟨ji13, hji13⟩ : ∃ j_ : Int, (IntKind.u64.wrap (64 - (ji8))) = j_ := ⟨_, rfl⟩
          replace H : (if 0 ≤ (ji13) then (if ((ji10) / 4294967296) = 0 then (none) else (bits_Div64.l0 k ji10 ji8 ((ji10) / 4294967296) (Go.bits .and .u64 (ji10) 4294967295) (Go.bits .or .u64 (ji12) (shr .u64 a1 (ji13))) ((shl .u64 a1 (ji8)) / 4294967296) (Go.bits .and .u64 (shl .u64 a1 (ji8)) 4294967295) (IntKind.u64.wrap (Int.tdiv (Go.bits .or .u64 (ji12) (shr .u64 a1 (ji13))) ((ji10) / 4294967296))) (IntKind.u64.wrap ((Go.bits .or .u64 (ji12) (shr .u64 a1 (ji13))) - (IntKind.u64.wrap ((IntKind.u64.wrap (Int.tdiv (Go.bits .or .u64 (ji12) (shr .u64 a1 (ji13))) ((ji10) / 4294967296))) * ((ji10) / 4294967296))))))) else (none)) = some (r1, r2) := by first | (rw [hji13] at H; exact H) | (simp only [hji13] at H ⊢; exact H)
          (try rw [hji13] at A7)
          by_cases c14 : 0 ≤ (ji13)
          · rw [if_pos c14] at H
            have c14b0 := eq_true c14
            have c14b1 : decide (0 ≤ (ji13)) = true := decide_eq_true c14
            clear c14
            obtain ⟨ji15, hji15⟩ : ∃ j_ : Int, (shr .u64 a1 (ji13)) = j_ := ⟨_, rfl⟩
            replace H : (if ((ji10) / 4294967296) = 0 then (none) else (bits_Div64.l0 k ji10 ji8 ((ji10) / 4294967296) (Go.bits .and .u64 (ji10) 4294967295) (Go.bits .or .u64 (ji12) (ji15)) ((shl .u64 a1 (ji8)) / 4294967296) (Go.bits .and .u64 (shl .u64 a1 (ji8)) 4294967295) (IntKind.u64.wrap (Int.tdiv (Go.bits .or .u64 (ji12) (ji15)) ((ji10) / 4294967296))) (IntKind.u64.wrap ((Go.bits .or .u64 (ji12) (ji15)) - (IntKind.u64.wrap ((IntKind.u64.wrap (Int.tdiv (Go.bits .or .u64 (ji12) (ji15)) ((ji10) / 4294967296))) * ((ji10) / 4294967296))))))) = some (r1, r2) := by first | (rw [hji15] at H; exact H) | (simp only [hji15] at H ⊢; exact H)
            (try rw [hji15] at A7)
            have hji15_ : (a1 / 2 ^ min (ji13).toNat 64) = ji15 := hji15
            have hji15z : (ji13) ≤ 64 → (a1 / 2 ^ (ji13).toNat) = ji15 := shr_small hji15
            have c16b0 := eq_true (of_decide_eq_true (by first | (with_reducible assumption) | assumption) : 0 ≤ (ji8))
            obtain ⟨ji17, hji17⟩ : ∃ j_ : Int, (shl .u64 a1 (ji8)) = j_ := ⟨_, rfl⟩
            replace H : (if ((ji10) / 4294967296) = 0 then (none) else (bits_Div64.l0 k ji10 ji8 ((ji10) / 4294967296) (Go.bits .and .u64 (ji10) 4294967295) (Go.bits .or .u64 (ji12) (ji15)) ((ji17) / 4294967296) (Go.bits .and .u64 (ji17) 4294967295) (IntKind.u64.wrap (Int.tdiv (Go.bits .or .u64 (ji12) (ji15)) ((ji10) / 4294967296))) (IntKind.u64.wrap ((Go.bits .or .u64 (ji12) (ji15)) - (IntKind.u64.wrap ((IntKind.u64.wrap (Int.tdiv (Go.bits .or .u64 (ji12) (ji15)) ((ji10) / 4294967296))) * ((ji10) / 4294967296))))))) = some (r1, r2) := by first | (rw [hji17] at H; exact H) | (simp only [hji17] at H ⊢; exact H)
            (try rw [hji17] at A7)
            have hji17_ : (IntKind.u64.wrap (a1 * 2 ^ min (ji8).toNat 64)) = ji17 := hji17
            have hji17z : (ji8) ≤ 64 → (IntKind.u64.wrap (a1 * 2 ^ (ji8).toNat)) = ji17 := shl_small hji17
            by_cases c18 : ((ji10) / 4294967296) = 0
            · rw [if_pos c18] at H
              exact absurd H (by simp)
            · rw [if_neg c18] at H
              have c18b0 : (((ji10) / 4294967296) == 0) = false := beq_eq_false_iff_ne.mpr c18
              have c18b1 : (((ji10) / 4294967296) != 0) = true := bne_iff_ne.mpr c18
              have HC19 := Aside0.mk H
              clear H
              go_enter Try.func93, Try.ntmps93
              go_upto_block 0 with (first | (go_at_call 112; (with_reducible refine (bits_LeadingZeros64.calls a2 t142 _ A7.out).mono ?_); rintro e w' ⟨rfl, ⟨nd, rfl⟩⟩; (try first | exact ⟨rfl, _, World.drewN_drewN _ _ _⟩ | exact ⟨rfl, _, Eq.trans (World.drewN_drewN _ _ _) (congrArg (World.drewN _) (Nat.add_assoc _ _ _))⟩)))
              repeat (go_quiet (first | (go_at_call 112; (with_reducible refine (bits_LeadingZeros64.calls a2 t142 _ A7.out).mono ?_); rintro e w' ⟨rfl, ⟨nd, rfl⟩⟩; (try first | exact ⟨rfl, _, World.drewN_drewN _ _ _⟩ | exact ⟨rfl, _, Eq.trans (World.drewN_drewN _ _ _) (congrArg (World.drewN _) (Nat.add_assoc _ _ _))⟩))); go_upto_block 0 with (first | (go_at_call 112; (with_reducible refine (bits_LeadingZeros64.calls a2 t142 _ A7.out).mono ?_); rintro e w' ⟨rfl, ⟨nd, rfl⟩⟩; (try first | exact ⟨rfl, _, World.drewN_drewN _ _ _⟩ | exact ⟨rfl, _, Eq.trans (World.drewN_drewN _ _ _) (congrArg (World.drewN _) (Nat.add_assoc _ _ _))⟩))))
              (try simp only [Act.put, List.setIfInBounds_toArray, List.set_cons_zero, List.set_cons_succ])
              go_cut [15] (fun v15 wc => ∃ (kq : Nat) (x15_18 : Int), v15 = .int .u64 x15_18 ∧ Aside0 (bits_Div64.j2 kq ji10 ji8 ((ji10) / 4294967296) (Go.bits .and .u64 (ji10) 4294967295) (Go.bits .or .u64 (ji12) (ji15)) ((ji17) / 4294967296) (Go.bits .and .u64 (ji17) 4294967295) x15_18 = some (r1, r2)) ∧ Aside0 (kq ≤ k) ∧ Drawn0 w wc)
              case first =>
                have H := HC19.out
                clear HC19
                have H' := Aside0.mk H
                clear H
                go_wp2
                repeat (go_quiet (fail); try go_wp2)
                go_loopg [15, 16] k (fun kq v15 v16 w' => ∃ (x15_1 : Int) (x16_1 : Int), v15 = .int .u64 x15_1 ∧ v16 = .int .u64 x16_1 ∧ Aside0 (bits_Div64.l0 kq ji10 ji8 ((ji10) / 4294967296) (Go.bits .and .u64 (ji10) 4294967295) (Go.bits .or .u64 (ji12) (ji15)) ((ji17) / 4294967296) (Go.bits .and .u64 (ji17) 4294967295) x15_1 x16_1 = some (r1, r2)) ∧ Aside0 (kq ≤ k) ∧ Drawn0 w w')
                case atStart => exact ⟨(IntKind.u64.wrap (Int.tdiv (Go.bits .or .u64 (ji12) (ji15)) ((ji10) / 4294967296))), (IntKind.u64.wrap ((Go.bits .or .u64 (ji12) (ji15)) - (IntKind.u64.wrap ((IntKind.u64.wrap (Int.tdiv (Go.bits .or .u64 (ji12) (ji15)) ((ji10) / 4294967296))) * ((ji10) / 4294967296))))), (by first | rfl | (simp; done) | (simp only [← hji10, ← hji12, ← hji15] <;> (first | rfl | simp)) | (simp [*]; done)), (by first | rfl | (simp; done) | (simp only [← hji10, ← hji12, ← hji15] <;> (first | rfl | simp)) | (simp [*]; done)), H', ⟨Nat.le_refl _⟩, by repeat (first | exact Drawn0.refl _ | apply Drawn0.step)⟩
                case round =>
                  clear H'
                  try clear c1
                  try clear p2
                  try clear c4
                  try clear c4b0
                  try clear c4b1
                  try clear c5
                  try clear c5b0
                  try clear c6
                  try clear c6b0
                  try clear c6b1
                  try clear c9
                  try clear c9b0
                  try clear c9b1
                  try clear c11
                  try clear c11b0
                  try clear c14
                  try clear c14b0
                  try clear c14b1
                  try clear c16
                  try clear c16b0
                  try clear c18
                  try clear c18b0
                  try clear c18b1
                  obtain ⟨x15_1, x16_1, rfl, rfl, HA, HK1, ⟨m1, rfl⟩⟩ := hrel
                  cases gk with
                  | zero => exact absurd HA.out (by simp [bits_Div64.l0])
                  | succ k1 =>
                    have H := HA.out
                    clear HA
                    simp only [bits_Div64.l0] at H
                    have HC20 := Aside0.mk H
                    clear H
                    go_upto_region 17 with (fail)
                    repeat (go_quiet (fail); go_upto_region 17 with (fail))
                    go_cut [78] (fun v78 wc => ∃ (kq : Nat) (x78_19 : Bool), v78 = .bool x78_19 ∧ Aside0 (bits_Div64.j1 kq ji10 ji8 ((ji10) / 4294967296) (Go.bits .and .u64 (ji10) 4294967295) (Go.bits .or .u64 (ji12) (ji15)) ((ji17) / 4294967296) (Go.bits .and .u64 (ji17) 4294967295) x15_1 x16_1 x78_19 = some (r1, r2)) ∧ Aside0 (kq ≤ k1) ∧ Drawn0 w wc)
                    case first =>
                      have H := HC20.out
                      clear HC20
                      by_cases c21 : x15_1 ≥ 4294967296
                      · rw [if_pos c21] at H
                        have c21b0 : decide (4294967296 ≤ x15_1) = true := decide_eq_true c21
                        clear c21
                        have H' := Aside0.mk H
                        clear H
                        go_wp2
                        repeat (go_quiet (fail); try go_wp2)
                        go_meet
                        case rel => exact ⟨_, (true), (by first | rfl | (simp; done) | (simp [*]; done)), H', ⟨by have := HK1.out; first | omega | exact Nat.le_refl _⟩, by repeat (first | exact Drawn0.refl _ | apply Drawn0.step)⟩
                      · rw [if_neg c21] at H
                        have c21b0 : decide (4294967296 ≤ x15_1) = false := decide_eq_false c21
                        clear c21
                        have H' := Aside0.mk H
                        clear H
                        go_wp2
                        repeat (go_quiet (fail); try go_wp2)
                        go_meet
                        case rel => exact ⟨_, (decide ((IntKind.u64.wrap (x15_1 * (Go.bits .and .u64 (ji10) 4294967295))) > (IntKind.u64.wrap ((IntKind.u64.wrap (4294967296 * x16_1)) + ((ji17) / 4294967296))))), (by first | rfl | (simp; done) | (simp only [← hji10, ← hji17] <;> (first | rfl | simp)) | (simp [*]; done)), H', ⟨by have := HK1.out; first | omega | exact Nat.le_refl _⟩, by repeat (first | exact Drawn0.refl _ | apply Drawn0.step)⟩
                    case rest =>
                      clear HC20
                      try clear c1
                      try clear c2
                      try clear p2
                      try clear c4
                      try clear c4b0
                      try clear c4b1
                      try clear c5
                      try clear c5b0
                      try clear c6
                      try clear c6b0
                      try clear c6b1
                      try clear c9
                      try clear c9b0
                      try clear c9b1
                      try clear c11
                      try clear c11b0
                      try clear c14
                      try clear c14b0
                      try clear c14b1
                      try clear c16
                      try clear c16b0
                      try clear c18
                      try clear c18b0
                      try clear c18b1
                      try clear c21
                      try clear c21b0
                      try clear p2
                      obtain ⟨kq, x78_19, rfl, HA, HJ19, ⟨mc19, rfl⟩⟩ := hcut
                      cases kq with
                      | zero => exact absurd HA.out (by simp [bits_Div64.j1])
                      | succ kj19 =>
                        have H := HA.out
                        clear HA
                        simp only [bits_Div64.j1] at H
                        by_cases c22 : x78_19 = true
                        · subst c22
                          have H1 : (if (IntKind.u64.wrap (x16_1 + ((ji10) / 4294967296))) ≥ 4294967296 then (bits_Div64.j2 kj19 ji10 ji8 ((ji10) / 4294967296) (Go.bits .and .u64 (ji10) 4294967295) (Go.bits .or .u64 (ji12) (ji15)) ((ji17) / 4294967296) (Go.bits .and .u64 (ji17) 4294967295) (IntKind.u64.wrap (x15_1 - 1))) else (bits_Div64.l0 kj19 ji10 ji8 ((ji10) / 4294967296) (Go.bits .and .u64 (ji10) 4294967295) (Go.bits .or .u64 (ji12) (ji15)) ((ji17) / 4294967296) (Go.bits .and .u64 (ji17) 4294967295) (IntKind.u64.wrap (x15_1 - 1)) (IntKind.u64.wrap (x16_1 + ((ji10) / 4294967296))))) = some (r1, r2) := by rw [if_pos rfl] at H; exact H
                          clear H
                          have H := H1
                          clear H1
                          by_cases c23 : (IntKind.u64.wrap (x16_1 + ((ji10) / 4294967296))) ≥ 4294967296
                          · rw [if_pos c23] at H
                            have c23b0 : decide (4294967296 ≤ (IntKind.u64.wrap (x16_1 + ((ji10) / 4294967296)))) = true := decide_eq_true c23
                            clear c23
                            (try simp only [c23b0])
                            have H' := Aside0.mk H
                            clear H
                            go_wp2
                            repeat (go_quiet (fail); try go_wp2)
                            go_meet
                            case rel => exact ⟨_, (IntKind.u64.wrap (x15_1 - 1)), (by first | rfl | (simp; done) | (simp [*]; done)), H', ⟨by have := HK1.out; have := HJ19.out; first | omega | exact Nat.le_refl _⟩, by repeat (first | exact Drawn0.refl _ | apply Drawn0.step)⟩
                          · rw [if_neg c23] at H
                            have c23b0 : decide (4294967296 ≤ (IntKind.u64.wrap (x16_1 + ((ji10) / 4294967296)))) = false := decide_eq_false c23
                            clear c23
                            (try simp only [c23b0])
                            have H' := Aside0.mk H
                            clear H
                            go_wp2
                            repeat (go_quiet (fail); try go_wp2)
                            go_roundg kj19
                            case measure => have := HK1.out; have := HJ19.out; omega
                            case rel => exact ⟨(IntKind.u64.wrap (x15_1 - 1)), (IntKind.u64.wrap (x16_1 + ((ji10) / 4294967296))), (by first | rfl | (simp; done) | (simp [*]; done)), (by first | rfl | (simp; done) | (simp only [← hji10] <;> (first | rfl | simp)) | (simp [*]; done)), H', ⟨by have := HK1.out; have := HJ19.out; omega⟩, by repeat (first | exact Drawn0.refl _ | apply Drawn0.step)⟩
                        · replace c22 := Bool.eq_false_iff.mpr c22
                          subst c22
                          have H1 : (bits_Div64.j2 kj19 ji10 ji8 ((ji10) / 4294967296) (Go.bits .and .u64 (ji10) 4294967295) (Go.bits .or .u64 (ji12) (ji15)) ((ji17) / 4294967296) (Go.bits .and .u64 (ji17) 4294967295) x15_1) = some (r1, r2) := by rw [if_neg (show ¬ (false = true) by decide)] at H; exact H
                          clear H
                          have H := H1
                          clear H1
                          have H' := Aside0.mk H
                          clear H
                          go_wp2
                          repeat (go_quiet (fail); try go_wp2)
                          go_meet
                          case rel => exact ⟨_, (x15_1), (by first | rfl | (simp; done) | (simp [*]; done)), H', ⟨by have := HK1.out; have := HJ19.out; first | omega | exact Nat.le_refl _⟩, by repeat (first | exact Drawn0.refl _ | apply Drawn0.step)⟩
              case rest =>
                clear HC19
                try clear c1
                try clear c2
                try clear p2
                try clear c4
                try clear c4b0
                try clear c4b1
                try clear c5
                try clear c5b0
                try clear c6
                try clear c6b0
                try clear c6b1
                try clear c9
                try clear c9b0
                try clear c9b1
                try clear c11
                try clear c11b0
                try clear c14
                try clear c14b0
                try clear c14b1
                try clear c16
                try clear c16b0
                try clear c18
                try clear c18b0
                try clear c18b1
                try clear c19
                try clear c21
                try clear c21b0
                try clear c22
                try clear c23
                try clear c23b0
                try clear p2
                obtain ⟨kq, x15_18, rfl, HA, HJ18, ⟨mc18, rfl⟩⟩ := hcut
                cases kq with
                | zero => exact absurd HA.out (by simp [bits_Div64.j2])
                | succ kj18 =>
                  have H := HA.out
                  clear HA
                  simp only [bits_Div64.j2] at H
                  by_cases c24 : ((ji10) / 4294967296) = 0
                  · rw [if_pos c24] at H
                    exact absurd H (by simp)
                  · rw [if_neg c24] at H
                    have c24b0 : (((ji10) / 4294967296) == 0) = false := beq_eq_false_iff_ne.mpr c24
                    have c24b1 : (((ji10) / 4294967296) != 0) = true := bne_iff_ne.mpr c24
                    have H' := Aside0.mk H
                    clear H
                    go_wp2
                    repeat (go_quiet (fail); try go_wp2)
                    go_loopg [16, 18] kj18 (fun kq v16 v18 w' => ∃ (x16_2 : Int) (x18_2 : Int), v16 = .int .u64 x16_2 ∧ v18 = .int .u64 x18_2 ∧ Aside0 (bits_Div64.l1 kq ji10 ji8 ((ji10) / 4294967296) (Go.bits .and .u64 (ji10) 4294967295) (Go.bits .and .u64 (ji17) 4294967295) x15_18 x16_2 (IntKind.u64.wrap ((IntKind.u64.wrap ((IntKind.u64.wrap ((Go.bits .or .u64 (ji12) (ji15)) * 4294967296)) + ((ji17) / 4294967296))) - (IntKind.u64.wrap (x15_18 * ji10)))) x18_2 = some (r1, r2)) ∧ Aside0 (kq ≤ kj18) ∧ Drawn0 w w')
                    case atStart => exact ⟨(IntKind.u64.wrap ((IntKind.u64.wrap ((IntKind.u64.wrap ((IntKind.u64.wrap ((Go.bits .or .u64 (ji12) (ji15)) * 4294967296)) + ((ji17) / 4294967296))) - (IntKind.u64.wrap (x15_18 * ji10)))) - (IntKind.u64.wrap ((IntKind.u64.wrap (Int.tdiv (IntKind.u64.wrap ((IntKind.u64.wrap ((IntKind.u64.wrap ((Go.bits .or .u64 (ji12) (ji15)) * 4294967296)) + ((ji17) / 4294967296))) - (IntKind.u64.wrap (x15_18 * ji10)))) ((ji10) / 4294967296))) * ((ji10) / 4294967296))))), (IntKind.u64.wrap (Int.tdiv (IntKind.u64.wrap ((IntKind.u64.wrap ((IntKind.u64.wrap ((Go.bits .or .u64 (ji12) (ji15)) * 4294967296)) + ((ji17) / 4294967296))) - (IntKind.u64.wrap (x15_18 * ji10)))) ((ji10) / 4294967296))), (by first | rfl | (simp; done) | (simp only [← hji10, ← hji12, ← hji15, ← hji17] <;> (first | rfl | simp)) | (simp [*]; done)), (by first | rfl | (simp; done) | (simp only [← hji10, ← hji12, ← hji15, ← hji17] <;> (first | rfl | simp)) | (simp [*]; done)), H', ⟨Nat.le_refl _⟩, by repeat (first | exact Drawn0.refl _ | apply Drawn0.step)⟩
                    case round =>
                      clear H'
                      try clear c1
                      try clear c2
                      try clear p2
                      try clear c4
                      try clear c4b0
                      try clear c4b1
                      try clear c5
                      try clear c5b0
                      try clear c6
                      try clear c6b0
                      try clear c6b1
                      try clear c9
                      try clear c9b0
                      try clear c9b1
                      try clear c11
                      try clear c11b0
                      try clear c14
                      try clear c14b0
                      try clear c14b1
                      try clear c16
                      try clear c16b0
                      try clear c18
                      try clear c18b0
                      try clear c18b1
                      try clear c19
                      try clear c21
                      try clear c21b0
                      try clear c22
                      try clear c23
                      try clear c23b0
                      try clear c24
                      try clear c24b0
                      try clear c24b1
                      try clear p2
                      obtain ⟨x16_2, x18_2, rfl, rfl, HA, HK2, ⟨m2, rfl⟩⟩ := hrel
                      cases gk with
                      | zero => exact absurd HA.out (by simp [bits_Div64.l1])
                      | succ k2 =>
                        have H := HA.out
                        clear HA
                        simp only [bits_Div64.l1] at H
                        have HC25 := Aside0.mk H
                        clear H
                        go_upto_region 24 with (fail)
                        repeat (go_quiet (fail); go_upto_region 24 with (fail))
                        go_cut [113] (fun v113 wc => ∃ (kq : Nat) (x113_24 : Bool), v113 = .bool x113_24 ∧ Aside0 (bits_Div64.j4 kq ji10 ji8 ((ji10) / 4294967296) (Go.bits .and .u64 (ji10) 4294967295) (Go.bits .and .u64 (ji17) 4294967295) x15_18 x16_2 (IntKind.u64.wrap ((IntKind.u64.wrap ((IntKind.u64.wrap ((Go.bits .or .u64 (ji12) (ji15)) * 4294967296)) + ((ji17) / 4294967296))) - (IntKind.u64.wrap (x15_18 * ji10)))) x18_2 x113_24 = some (r1, r2)) ∧ Aside0 (kq ≤ k2) ∧ Drawn0 w wc)
                        case first =>
                          have H := HC25.out
                          clear HC25
                          by_cases c26 : x18_2 ≥ 4294967296
                          · rw [if_pos c26] at H
                            have c26b0 : decide (4294967296 ≤ x18_2) = true := decide_eq_true c26
                            clear c26
                            have H' := Aside0.mk H
                            clear H
                            go_wp2
                            repeat (go_quiet (fail); try go_wp2)
                            go_meet
                            case rel => exact ⟨_, (true), (by first | rfl | (simp; done) | (simp [*]; done)), H', ⟨by have := HJ18.out; have := HK2.out; first | omega | exact Nat.le_refl _⟩, by repeat (first | exact Drawn0.refl _ | apply Drawn0.step)⟩
                          · rw [if_neg c26] at H
                            have c26b0 : decide (4294967296 ≤ x18_2) = false := decide_eq_false c26
                            clear c26
                            have H' := Aside0.mk H
                            clear H
                            go_wp2
                            repeat (go_quiet (fail); try go_wp2)
                            go_meet
                            case rel => exact ⟨_, (decide ((IntKind.u64.wrap (x18_2 * (Go.bits .and .u64 (ji10) 4294967295))) > (IntKind.u64.wrap ((IntKind.u64.wrap (4294967296 * x16_2)) + (Go.bits .and .u64 (ji17) 4294967295))))), (by first | rfl | (simp; done) | (simp only [← hji10, ← hji17] <;> (first | rfl | simp)) | (simp [*]; done)), H', ⟨by have := HJ18.out; have := HK2.out; first | omega | exact Nat.le_refl _⟩, by repeat (first | exact Drawn0.refl _ | apply Drawn0.step)⟩
                        case rest =>
                          clear HC25
                          try clear c1
                          try clear c2
                          try clear p2
                          try clear c4
                          try clear c4b0
                          try clear c4b1
                          try clear c5
                          try clear c5b0
                          try clear c6
                          try clear c6b0
                          try clear c6b1
                          try clear c9
                          try clear c9b0
                          try clear c9b1
                          try clear c11
                          try clear c11b0
                          try clear c14
                          try clear c14b0
                          try clear c14b1
                          try clear c16
                          try clear c16b0
                          try clear c18
                          try clear c18b0
                          try clear c18b1
                          try clear c19
                          try clear c21
                          try clear c21b0
                          try clear c22
                          try clear c23
                          try clear c23b0
                          try clear c24
                          try clear c24b0
                          try clear c24b1
                          try clear c26
                          try clear c26b0
                          try clear p2
                          obtain ⟨kq, x113_24, rfl, HA, HJ24, ⟨mc24, rfl⟩⟩ := hcut
                          cases kq with
                          | zero => exact absurd HA.out (by simp [bits_Div64.j4])
                          | succ kj24 =>
                            have H := HA.out
                            clear HA
                            simp only [bits_Div64.j4] at H
                            by_cases c27 : x113_24 = true
                            · subst c27
                              have H1 : (if (IntKind.u64.wrap (x16_2 + ((ji10) / 4294967296))) ≥ 4294967296 then (if 0 ≤ ji8 then (some (IntKind.u64.wrap ((IntKind.u64.wrap (x15_18 * 4294967296)) + (IntKind.u64.wrap (x18_2 - 1))), shr .u64 (IntKind.u64.wrap ((IntKind.u64.wrap ((IntKind.u64.wrap ((IntKind.u64.wrap ((IntKind.u64.wrap ((IntKind.u64.wrap ((Go.bits .or .u64 (ji12) (ji15)) * 4294967296)) + ((ji17) / 4294967296))) - (IntKind.u64.wrap (x15_18 * ji10)))) * 4294967296)) + (Go.bits .and .u64 (ji17) 4294967295))) - (IntKind.u64.wrap ((IntKind.u64.wrap (x18_2 - 1)) * ji10)))) ji8)) else (none)) else (bits_Div64.l1 kj24 ji10 ji8 ((ji10) / 4294967296) (Go.bits .and .u64 (ji10) 4294967295) (Go.bits .and .u64 (ji17) 4294967295) x15_18 (IntKind.u64.wrap (x16_2 + ((ji10) / 4294967296))) (IntKind.u64.wrap ((IntKind.u64.wrap ((IntKind.u64.wrap ((Go.bits .or .u64 (ji12) (ji15)) * 4294967296)) + ((ji17) / 4294967296))) - (IntKind.u64.wrap (x15_18 * ji10)))) (IntKind.u64.wrap (x18_2 - 1)))) = some (r1, r2) := by rw [if_pos rfl] at H; exact H
                              clear H
                              have H := H1
                              clear H1
                              by_cases c28 : (IntKind.u64.wrap (x16_2 + ((ji10) / 4294967296))) ≥ 4294967296
                              · rw [if_pos c28] at H
                                have c28b0 : decide (4294967296 ≤ (IntKind.u64.wrap (x16_2 + ((ji10) / 4294967296)))) = true := decide_eq_true c28
                                clear c28
                                (try simp only [c28b0])
                                by_cases c29 : 0 ≤ ji8
                                · rw [if_pos c29] at H
                                  have c29b0 := eq_true c29
                                  have c29b1 : decide (0 ≤ ji8) = true := decide_eq_true c29
                                  clear c29
                                  obtain ⟨ji30, hji30⟩ : ∃ j_ : Int, (shr .u64 (IntKind.u64.wrap ((IntKind.u64.wrap ((IntKind.u64.wrap ((IntKind.u64.wrap ((IntKind.u64.wrap ((IntKind.u64.wrap ((Go.bits .or .u64 (ji12) (ji15)) * 4294967296)) + ((ji17) / 4294967296))) - (IntKind.u64.wrap (x15_18 * ji10)))) * 4294967296)) + (Go.bits .and .u64 (ji17) 4294967295))) - (IntKind.u64.wrap ((IntKind.u64.wrap (x18_2 - 1)) * ji10)))) ji8) = j_ := ⟨_, rfl⟩
                                  replace H : (some (IntKind.u64.wrap ((IntKind.u64.wrap (x15_18 * 4294967296)) + (IntKind.u64.wrap (x18_2 - 1))), ji30)) = some (r1, r2) := by first | (rw [hji30] at H; exact H) | (simp only [hji30] at H ⊢; exact H)
                                  have hji30_ : ((IntKind.u64.wrap ((IntKind.u64.wrap ((IntKind.u64.wrap ((IntKind.u64.wrap ((IntKind.u64.wrap ((IntKind.u64.wrap ((Go.bits .or .u64 (ji12) (ji15)) * 4294967296)) + ((ji17) / 4294967296))) - (IntKind.u64.wrap (x15_18 * ji10)))) * 4294967296)) + (Go.bits .and .u64 (ji17) 4294967295))) - (IntKind.u64.wrap ((IntKind.u64.wrap (x18_2 - 1)) * ji10)))) / 2 ^ min ji8.toNat 64) = ji30 := hji30
                                  have hji30z : ji8 ≤ 64 → ((IntKind.u64.wrap ((IntKind.u64.wrap ((IntKind.u64.wrap ((IntKind.u64.wrap ((IntKind.u64.wrap ((IntKind.u64.wrap ((Go.bits .or .u64 (ji12) (ji15)) * 4294967296)) + ((ji17) / 4294967296))) - (IntKind.u64.wrap (x15_18 * ji10)))) * 4294967296)) + (Go.bits .and .u64 (ji17) 4294967295))) - (IntKind.u64.wrap ((IntKind.u64.wrap (x18_2 - 1)) * ji10)))) / 2 ^ ji8.toNat) = ji30 := shr_small hji30
                                  simp only [Option.some.injEq, Prod.mk.injEq] at H
                                  obtain ⟨rfl, rfl⟩ := H
                                  go_wp2
                                  repeat (go_quiet (fail); try go_wp2)
                                  go_ret2
                                  exact ⟨by first | rfl | (simp; done) | (simp only [← hji8, ← hji10, ← hji12, ← hji13, ← hji15, ← hji17, ← hji30] <;> (first | rfl | simp)) | (simp [*]; done), by repeat (first | exact Drawn0.refl _ | apply Drawn0.step)⟩
                                · rw [if_neg c29] at H
                                  exact absurd H (by simp)
                              · rw [if_neg c28] at H
                                have c28b0 : decide (4294967296 ≤ (IntKind.u64.wrap (x16_2 + ((ji10) / 4294967296)))) = false := decide_eq_false c28
                                clear c28
                                (try simp only [c28b0])
                                have H' := Aside0.mk H
                                clear H
                                go_wp2
                                repeat (go_quiet (fail); try go_wp2)
                                go_roundg kj24
                                case measure => have := HJ18.out; have := HK2.out; have := HJ24.out; omega
                                case rel => exact ⟨(IntKind.u64.wrap (x16_2 + ((ji10) / 4294967296))), (IntKind.u64.wrap (x18_2 - 1)), (by first | rfl | (simp; done) | (simp only [← hji10] <;> (first | rfl | simp)) | (simp [*]; done)), (by first | rfl | (simp; done) | (simp [*]; done)), H', ⟨by have := HJ18.out; have := HK2.out; have := HJ24.out; omega⟩, by repeat (first | exact Drawn0.refl _ | apply Drawn0.step)⟩
                            · replace c27 := Bool.eq_false_iff.mpr c27
                              subst c27
                              have H1 : (if 0 ≤ ji8 then (some (IntKind.u64.wrap ((IntKind.u64.wrap (x15_18 * 4294967296)) + x18_2), shr .u64 (IntKind.u64.wrap ((IntKind.u64.wrap ((IntKind.u64.wrap ((IntKind.u64.wrap ((IntKind.u64.wrap ((IntKind.u64.wrap ((Go.bits .or .u64 (ji12) (ji15)) * 4294967296)) + ((ji17) / 4294967296))) - (IntKind.u64.wrap (x15_18 * ji10)))) * 4294967296)) + (Go.bits .and .u64 (ji17) 4294967295))) - (IntKind.u64.wrap (x18_2 * ji10)))) ji8)) else (none)) = some (r1, r2) := by rw [if_neg (show ¬ (false = true) by decide)] at H; exact H
                              clear H
                              have H := H1
                              clear H1
                              by_cases c31 : 0 ≤ ji8
                              · rw [if_pos c31] at H
                                have c31b0 := eq_true c31
                                have c31b1 : decide (0 ≤ ji8) = true := decide_eq_true c31
                                clear c31
                                obtain ⟨ji32, hji32⟩ : ∃ j_ : Int, (shr .u64 (IntKind.u64.wrap ((IntKind.u64.wrap ((IntKind.u64.wrap ((IntKind.u64.wrap ((IntKind.u64.wrap ((IntKind.u64.wrap ((Go.bits .or .u64 (ji12) (ji15)) * 4294967296)) + ((ji17) / 4294967296))) - (IntKind.u64.wrap (x15_18 * ji10)))) * 4294967296)) + (Go.bits .and .u64 (ji17) 4294967295))) - (IntKind.u64.wrap (x18_2 * ji10)))) ji8) = j_ := ⟨_, rfl⟩
                                replace H : (some (IntKind.u64.wrap ((IntKind.u64.wrap (x15_18 * 4294967296)) + x18_2), ji32)) = some (r1, r2) := by first | (rw [hji32] at H; exact H) | (simp only [hji32] at H ⊢; exact H)
                                have hji32_ : ((IntKind.u64.wrap ((IntKind.u64.wrap ((IntKind.u64.wrap ((IntKind.u64.wrap ((IntKind.u64.wrap ((IntKind.u64.wrap ((Go.bits .or .u64 (ji12) (ji15)) * 4294967296)) + ((ji17) / 4294967296))) - (IntKind.u64.wrap (x15_18 * ji10)))) * 4294967296)) + (Go.bits .and .u64 (ji17) 4294967295))) - (IntKind.u64.wrap (x18_2 * ji10)))) / 2 ^ min ji8.toNat 64) = ji32 := hji32
                                have hji32z : ji8 ≤ 64 → ((IntKind.u64.wrap ((IntKind.u64.wrap ((IntKind.u64.wrap ((IntKind.u64.wrap ((IntKind.u64.wrap ((IntKind.u64.wrap ((Go.bits .or .u64 (ji12) (ji15)) * 4294967296)) + ((ji17) / 4294967296))) - (IntKind.u64.wrap (x15_18 * ji10)))) * 4294967296)) + (Go.bits .and .u64 (ji17) 4294967295))) - (IntKind.u64.wrap (x18_2 * ji10)))) / 2 ^ ji8.toNat) = ji32 := shr_small hji32
                                simp only [Option.some.injEq, Prod.mk.injEq] at H
                                obtain ⟨rfl, rfl⟩ := H
                                go_wp2
                                repeat (go_quiet (fail); try go_wp2)
                                go_ret2
                                exact ⟨by first | rfl | (simp; done) | (simp only [← hji8, ← hji10, ← hji12, ← hji13, ← hji15, ← hji17, ← hji32] <;> (first | rfl | simp)) | (simp [*]; done), by repeat (first | exact Drawn0.refl _ | apply Drawn0.step)⟩
                              · rw [if_neg c31] at H
                                exact absurd H (by simp)
          · rw [if_neg c14] at H
            exact absurd H (by simp)
        · rw [if_neg c9] at H
          exact absurd H (by simp)
theorem d64_wr (x : Int) : IntKind.u64.wrap x = x % 18446744073709551616 := IntKind.wrap_u64 x
/-- The guess is not below the quotient: what one round of the correction says. -/
theorem d64_le_of (U y q1 : Int) (hy : 0 < y) (h : q1 * y ≤ U) : q1 ≤ U / y := (Int.le_ediv_iff_mul_le hy).2 h
theorem d64_lt_of (U y q1 : Int) (hy : 0 < y) (h : U < q1 * y) : U / y < q1 := (Int.ediv_lt_iff_lt_mul hy).2 h
theorem d64_split (q yn1 yn0 : Int) : q * (yn1 * 4294967296 + yn0) = q * yn1 * 4294967296 + q * yn0 := by grind
structure d64_Inv (y yn1 yn0 un32 un1 q1 rhat : Int) : Prop where
  hy : y = yn1 * 4294967296 + yn0
  h1 : 2147483648 ≤ yn1
  h1' : yn1 < 4294967296
  h0 : 0 ≤ yn0
  h0' : yn0 < 4294967296
  hu : 0 ≤ un32
  hu' : un32 < y
  hn : 0 ≤ un1
  hn' : un1 < 4294967296
  hr : 0 ≤ rhat
  hr' : rhat < 4294967296
  hq : q1 * yn1 + rhat = un32
  hle : (un32 * 4294967296 + un1) / y ≤ q1
  hub : q1 ≤ 4294967297
theorem d64_q_lt {y un32 un1 : Int} (hy : 0 < y) (hu : un32 < y) (hn : un1 < 4294967296) : (un32 * 4294967296 + un1) / y < 4294967296 := d64_lt_of _ _ _ hy (by omega)
theorem d64_q_nn {y un32 un1 : Int} (hy : 0 < y) (hu : 0 ≤ un32) (hn : 0 ≤ un1) : 0 ≤ (un32 * 4294967296 + un1) / y := Int.ediv_nonneg (by omega) (by omega)
theorem d64_mul_bd {a b A B : Int} (ha : 0 ≤ a) (hb : 0 ≤ b) (hA : a ≤ A) (hB : b ≤ B) : 0 ≤ a * b ∧ a * b ≤ A * B := ⟨Int.mul_nonneg ha hb, Int.mul_le_mul hA hB hb (by omega)⟩
/-- The d64_test says yes: one less is still enough. -/
theorem d64_down {y yn1 yn0 un32 un1 q1 rhat : Int} (I : d64_Inv y yn1 yn0 un32 un1 q1 rhat) (h : 4294967296 ≤ q1 ∨ 4294967296 * rhat + un1 < q1 * yn0) : (un32 * 4294967296 + un1) / y ≤ q1 - 1 := by
  obtain ⟨hy, h1, h1', h0, h0', hu, hu', hn, hn', hr, hr', hq, hle, hub⟩ := I
  rcases h with h | h
  · have := d64_q_lt (y := y) (un32 := un32) (un1 := un1) (by omega) hu' hn'
    omega
  · have e := d64_split q1 yn1 yn0
    have := d64_lt_of (un32 * 4294967296 + un1) y q1 (by omega) (by rw [hy, e]; omega)
    omega
/-- It says no: the guess is the quotient. -/
theorem d64_stop {y yn1 yn0 un32 un1 q1 rhat : Int} (I : d64_Inv y yn1 yn0 un32 un1 q1 rhat) (h : q1 * yn0 ≤ 4294967296 * rhat + un1) : (un32 * 4294967296 + un1) / y = q1 := by
  obtain ⟨hy, h1, h1', h0, h0', hu, hu', hn, hn', hr, hr', hq, hle, hub⟩ := I
  have e := d64_split q1 yn1 yn0
  have := d64_le_of (un32 * 4294967296 + un1) y q1 (by omega) (by rw [hy, e]; omega)
  omega
/-- The rest is too great: the guess, less one, is the quotient. -/
theorem d64_brk {y yn1 yn0 un32 un1 q1 rhat : Int} (I : d64_Inv y yn1 yn0 un32 un1 q1 rhat) (h : (un32 * 4294967296 + un1) / y ≤ q1 - 1) (hb : 4294967296 ≤ rhat + yn1) : (un32 * 4294967296 + un1) / y = q1 - 1 := by
  obtain ⟨hy, h1, h1', h0, h0', hu, hu', hn, hn', hr, hr', hq, hle, hub⟩ := I
  have e := d64_split (q1 - 1) yn1 yn0
  have e2 : (q1 - 1) * yn1 = q1 * yn1 - yn1 := by grind
  have hq0 := d64_q_nn (y := y) (un32 := un32) (un1 := un1) (by omega) hu hn
  have hm := (d64_mul_bd (a := q1 - 1) (b := yn0) (A := 4294967296) (B := 4294967295) (by omega) h0 (by omega) (by omega)).2
  have := d64_le_of (un32 * 4294967296 + un1) y (q1 - 1) (by omega) (by rw [hy, e, e2]; omega)
  omega
theorem d64_next {y yn1 yn0 un32 un1 q1 rhat : Int} (I : d64_Inv y yn1 yn0 un32 un1 q1 rhat) (h : (un32 * 4294967296 + un1) / y ≤ q1 - 1) (hb : rhat + yn1 < 4294967296) : d64_Inv y yn1 yn0 un32 un1 (q1 - 1) (rhat + yn1) := by
  obtain ⟨hy, h1, h1', h0, h0', hu, hu', hn, hn', hr, hr', hq, hle, hub⟩ := I
  exact ⟨hy, h1, h1', h0, h0', hu, hu', hn, hn', by omega, hb, by grind, h, by omega⟩
theorem d64_first {y yn1 yn0 un32 un1 : Int} (hy : y = yn1 * 4294967296 + yn0) (h1 : 2147483648 ≤ yn1) (h1' : yn1 < 4294967296) (h0 : 0 ≤ yn0) (h0' : yn0 < 4294967296) (hu : 0 ≤ un32) (hu' : un32 < y) (hn : 0 ≤ un1) (hn' : un1 < 4294967296) :
    d64_Inv y yn1 yn0 un32 un1 (un32 / yn1) (un32 % yn1) := by
  have a := Int.emod_nonneg un32 (b := yn1) (by omega)
  have b := Int.emod_lt_of_pos un32 (b := yn1) (by omega)
  have c := Int.mul_ediv_add_emod un32 yn1
  have c' : un32 / yn1 * yn1 = yn1 * (un32 / yn1) := Int.mul_comm _ _
  refine ⟨hy, h1, h1', h0, h0', hu, hu', hn, hn', a, by omega, by omega, ?_, ?_⟩
  · have hy0 : 0 < y := by omega
    have hq0 := d64_q_nn (y := y) (un32 := un32) (un1 := un1) hy0 hu hn
    generalize hq : (un32 * 4294967296 + un1) / y = q at *
    have h := Int.ediv_mul_le (un32 * 4294967296 + un1) (b := y) (by omega)
    rw [hq, hy, d64_split] at h
    have hz := Int.mul_nonneg hq0 h0
    exact (Int.le_ediv_iff_mul_le (by omega)).2 (by omega)
  · have : un32 / yn1 < 4294967298 := (Int.ediv_lt_iff_lt_mul (by omega)).2 (by omega)
    omega
/-- What d64_both loops' tests come to. -/
theorem d64_test {y yn1 yn0 un32 un1 q1 rhat : Int} (I : d64_Inv y yn1 yn0 un32 un1 q1 rhat) (hq : ¬ 4294967296 ≤ q1) :
    IntKind.u64.wrap (q1 * yn0) = q1 * yn0 ∧ IntKind.u64.wrap (IntKind.u64.wrap (4294967296 * rhat) + un1) = 4294967296 * rhat + un1 := by
  obtain ⟨hy, h1, h1', h0, h0', hu, hu', hn, hn', hr, hr', hqq, hle, hub⟩ := I
  have hq0 := d64_q_nn (y := y) (un32 := un32) (un1 := un1) (by omega) hu hn
  have hm := d64_mul_bd (a := q1) (b := yn0) (A := 4294967295) (B := 4294967295) (by omega) h0 (by omega) (by omega)
  simp only [d64_wr]
  omega
theorem d64_loop0 (K : Nat) (ans : Option (Int × Int)) {y s yn1 yn0 un32 un1 un0 : Int} (hans : ∀ k, K ≤ k → bits_Div64.j2 k y s yn1 yn0 un32 un1 un0 ((un32 * 4294967296 + un1) / y) = ans) :
    ∀ (n : Nat) (q1 rhat : Int) (k : Nat), d64_Inv y yn1 yn0 un32 un1 q1 rhat → 4294967296 - rhat ≤ n * 2147483648 → K + 2 * n + 2 ≤ k → bits_Div64.l0 k y s yn1 yn0 un32 un1 un0 q1 rhat = ans := by
  intro n
  induction n with
  | zero => intro q1 rhat k I hm; have := I.hr'; omega
  | succ n ih =>
    intro q1 rhat k I hm hk
    obtain ⟨k, rfl⟩ : ∃ m, k = m + 2 := ⟨k - 2, by omega⟩
    have hq0 := d64_q_nn (y := y) (un32 := un32) (un1 := un1) (by have := I.hy; have := I.h1; have := I.h0; omega) I.hu I.hn
    have hub := I.hub
    have hle := I.hle
    have hr := I.hr
    have hr' := I.hr'
    have h1 := I.h1
    have h1' := I.h1'
    have w1 : IntKind.u64.wrap (rhat + yn1) = rhat + yn1 := by rw [d64_wr]; omega
    have yes : (un32 * 4294967296 + un1) / y ≤ q1 - 1 → bits_Div64.j1 (k + 1) y s yn1 yn0 un32 un1 un0 q1 rhat true = ans := by
      intro h
      have w2 : IntKind.u64.wrap (q1 - 1) = q1 - 1 := by rw [d64_wr]; omega
      simp only [bits_Div64.j1, if_true]
      rw [w1, w2]
      by_cases c : rhat + yn1 ≥ 4294967296
      · rw [if_pos c, ← d64_brk I h c]
        exact hans k (by omega)
      · rw [if_neg c]
        exact ih (q1 - 1) (rhat + yn1) k (d64_next I h (by omega)) (by omega) (by omega)
    simp only [bits_Div64.l0]
    by_cases c : q1 ≥ 4294967296
    · rw [if_pos c]
      exact yes (d64_down I (.inl c))
    · rw [if_neg c, (d64_test I c).1, (d64_test I c).2]
      by_cases d : q1 * yn0 > 4294967296 * rhat + un1
      · rw [decide_eq_true d]
        exact yes (d64_down I (.inr d))
      · rw [decide_eq_false d]
        simp only [bits_Div64.j1, Bool.false_eq_true, if_false]
        rw [← d64_stop I (by omega)]
        exact hans k (by omega)
theorem d64_loop1 {y s yn1 yn0 un21 un0 : Int} (q1 : Int) (hs : 0 ≤ s) (hq1 : 0 ≤ q1) (hq1' : q1 < 4294967296) (hyb : y < 18446744073709551616) :
    ∀ (n : Nat) (q0 rhat : Int) (k : Nat), d64_Inv y yn1 yn0 un21 un0 q0 rhat → 4294967296 - rhat ≤ n * 2147483648 → 2 * n + 2 ≤ k →
      bits_Div64.l1 k y s yn1 yn0 un0 q1 rhat un21 q0 = some (q1 * 4294967296 + (un21 * 4294967296 + un0) / y, shr .u64 ((un21 * 4294967296 + un0) % y) s) := by
  intro n
  induction n with
  | zero => intro q1 rhat k I hm; have := I.hr'; omega
  | succ n ih =>
    intro q0 rhat k I hm hk
    obtain ⟨k, rfl⟩ : ∃ m, k = m + 2 := ⟨k - 2, by omega⟩
    have hy0 : 0 < y := by have := I.hy; have := I.h1; have := I.h0; omega
    have hq0 := d64_q_nn (y := y) (un32 := un21) (un1 := un0) hy0 I.hu I.hn
    have hql := d64_q_lt (y := y) (un32 := un21) (un1 := un0) hy0 I.hu' I.hn'
    have hub := I.hub
    have hle := I.hle
    have hr := I.hr
    have hr' := I.hr'
    have h1 := I.h1
    have h1' := I.h1'
    have w1 : IntKind.u64.wrap (rhat + yn1) = rhat + yn1 := by rw [d64_wr]; omega
    have e1 := Int.emod_nonneg (un21 * 4294967296 + un0) (b := y) (by omega)
    have e2 := Int.emod_lt_of_pos (un21 * 4294967296 + un0) hy0
    have e3 := Int.mul_ediv_add_emod (un21 * 4294967296 + un0) y
    have e4 : (un21 * 4294967296 + un0) / y * y = y * ((un21 * 4294967296 + un0) / y) := Int.mul_comm _ _
    have fin : IntKind.u64.wrap (IntKind.u64.wrap (q1 * 4294967296) + (un21 * 4294967296 + un0) / y) = q1 * 4294967296 + (un21 * 4294967296 + un0) / y := by
      simp only [d64_wr]; omega
    have fin2 : IntKind.u64.wrap (IntKind.u64.wrap (IntKind.u64.wrap (un21 * 4294967296) + un0) - IntKind.u64.wrap ((un21 * 4294967296 + un0) / y * y)) = (un21 * 4294967296 + un0) % y := by
      simp only [d64_wr]; omega
    have yes : (un21 * 4294967296 + un0) / y ≤ q0 - 1 → bits_Div64.j4 (k + 1) y s yn1 yn0 un0 q1 rhat un21 q0 true = some (q1 * 4294967296 + (un21 * 4294967296 + un0) / y, shr .u64 ((un21 * 4294967296 + un0) % y) s) := by
      intro h
      have w2 : IntKind.u64.wrap (q0 - 1) = q0 - 1 := by rw [d64_wr]; omega
      simp only [bits_Div64.j4, if_true]
      rw [w1, w2]
      by_cases c : rhat + yn1 ≥ 4294967296
      · rw [if_pos c, if_pos hs, ← d64_brk I h c, fin, fin2]
      · rw [if_neg c]
        exact ih (q0 - 1) (rhat + yn1) k (d64_next I h (by omega)) (by omega) (by omega)
    simp only [bits_Div64.l1]
    by_cases c : q0 ≥ 4294967296
    · rw [if_pos c]
      exact yes (d64_down I (.inl c))
    · rw [if_neg c, (d64_test I c).1, (d64_test I c).2]
      by_cases d : q0 * yn0 > 4294967296 * rhat + un0
      · rw [decide_eq_true d]
        exact yes (d64_down I (.inr d))
      · rw [decide_eq_false d]
        simp only [bits_Div64.j4, Bool.false_eq_true, if_false]
        rw [if_pos hs, ← d64_stop I (by omega), fin, fin2]
theorem d64_tdiv_nn {a b : Int} (h : 0 ≤ a) : Int.tdiv a b = a / b := Int.tdiv_eq_ediv_of_nonneg h
/-- Behind the normalizing shift: d64_both digits. -/
theorem d64_both {y s yn1 yn0 un32 un1 un0 : Int} (hy : y = yn1 * 4294967296 + yn0) (h1 : 2147483648 ≤ yn1) (h1' : yn1 < 4294967296) (h0 : 0 ≤ yn0) (h0' : yn0 < 4294967296) (hu : 0 ≤ un32) (hu' : un32 < y) (hn : 0 ≤ un1) (hn' : un1 < 4294967296) (hm : 0 ≤ un0) (hm' : un0 < 4294967296) (hs : 0 ≤ s) (k : Nat) (hk : 20 ≤ k) :
    bits_Div64.l0 k y s yn1 yn0 un32 un1 un0 (un32 / yn1) (un32 % yn1) = some ((un32 * 18446744073709551616 + un1 * 4294967296 + un0) / y, shr .u64 ((un32 * 18446744073709551616 + un1 * 4294967296 + un0) % y) s) := by
  have hy0 : 0 < y := by omega
  have hyb : y < 18446744073709551616 := by omega
  have f1 := d64_q_nn (y := y) (un32 := un32) (un1 := un1) hy0 hu hn
  have f2 := d64_q_lt (y := y) (un32 := un32) (un1 := un1) hy0 hu' hn'
  have e1 := Int.emod_nonneg (un32 * 4294967296 + un1) (b := y) (by omega)
  have e2 := Int.emod_lt_of_pos (un32 * 4294967296 + un1) hy0
  have e3 := Int.mul_ediv_add_emod (un32 * 4294967296 + un1) y
  have e4 : (un32 * 4294967296 + un1) / y * y = y * ((un32 * 4294967296 + un1) / y) := Int.mul_comm _ _
  refine d64_loop0 12 _ ?_ 2 _ _ k (d64_first hy h1 h1' h0 h0' hu hu' hn hn') (by have := Int.emod_nonneg un32 (b := yn1) (by omega); omega) (by omega)
  intro k hk
  obtain ⟨k, rfl⟩ : ∃ m, k = m + 1 := ⟨k - 1, by omega⟩
  simp only [bits_Div64.j2]
  rw [if_neg (by omega)]
  have g1 : IntKind.u64.wrap (IntKind.u64.wrap (IntKind.u64.wrap (un32 * 4294967296) + un1) - IntKind.u64.wrap ((un32 * 4294967296 + un1) / y * y)) = (un32 * 4294967296 + un1) % y := by
    simp only [d64_wr]; omega
  rw [g1, d64_tdiv_nn e1]
  generalize hr : (un32 * 4294967296 + un1) % y = r at *
  generalize hq : (un32 * 4294967296 + un1) / y = q at *
  have c := Int.mul_ediv_add_emod r yn1
  have c' : r / yn1 * yn1 = yn1 * (r / yn1) := Int.mul_comm _ _
  have a := Int.emod_nonneg r (b := yn1) (by omega)
  have b := Int.emod_lt_of_pos r (b := yn1) (by omega)
  have d0 : 0 ≤ r / yn1 := Int.ediv_nonneg e1 (by omega)
  have d1 : r / yn1 ≤ r := Int.ediv_le_self _ e1
  have g2 : IntKind.u64.wrap (r / yn1) = r / yn1 := by rw [d64_wr]; omega
  have g3 : IntKind.u64.wrap (r - IntKind.u64.wrap (r / yn1 * yn1)) = r % yn1 := by simp only [d64_wr]; omega
  rw [g2, g3]
  rw [d64_loop1 q hs f1 f2 hyb 2 _ _ k (d64_first hy h1 h1' h0 h0' e1 e2 hm hm') (by omega) (by omega)]
  have h5 : un32 * 18446744073709551616 + un1 * 4294967296 + un0 = (r * 4294967296 + un0) + (q * 4294967296) * y := by
    have : (q * 4294967296) * y = 4294967296 * (y * q) := by grind
    omega
  rw [h5, Int.add_mul_ediv_right _ _ (by omega), Int.add_mul_emod_self_right]
  rw [Int.add_comm]
theorem d64_and_low (a : Int) (h : 0 ≤ a) (h' : a < 18446744073709551616) : Go.bits .and .u64 a 4294967295 = a % 4294967296 := by
  obtain ⟨n, rfl⟩ := Int.eq_ofNat_of_zero_le h
  have h2 := bits_and_u64_nat n 4294967295 (by omega) (by omega)
  have e : n &&& 4294967295 = n % 4294967296 := Nat.and_two_pow_sub_one_eq_mod n 32
  rw [e] at h2
  rw [show ((4294967295 : Nat) : Int) = 4294967295 from rfl] at h2
  rw [h2]
  omega
theorem d64_or_add (a b S : Nat) (hb : b < 2 ^ S) (h : a * 2 ^ S + b < 18446744073709551616) : Go.bits .or .u64 ((a * 2 ^ S : Nat) : Int) (b : Int) = ((a * 2 ^ S + b : Nat) : Int) := by
  rw [bits_or_u64_nat _ _ (by omega) (by omega)]
  have e := Nat.shiftLeft_add_eq_or_of_lt hb a
  rw [Nat.shiftLeft_eq] at e
  rw [e]
theorem d64_pow_cast (S : Nat) : (2 : Int) ^ S = ((2 ^ S : Nat) : Int) := by simp
theorem d64_shl_nat (x S : Nat) (hS : S ≤ 64) : shl .u64 (x : Int) (S : Int) = ((x * 2 ^ S % 18446744073709551616 : Nat) : Int) := by
  unfold shl
  rw [Int.toNat_natCast, Nat.min_eq_left (by exact hS), d64_pow_cast, d64_wr]
  omega
theorem d64_shr_nat (x S : Nat) (hS : S ≤ 64) : shr .u64 (x : Int) (S : Int) = ((x / 2 ^ S : Nat) : Int) := by
  unfold shr
  rw [Int.toNat_natCast, Nat.min_eq_left (by exact hS), d64_pow_cast]
  omega
theorem d64_norm (y : Nat) (h0 : y ≠ 0) (h : y < 18446744073709551616) : 1 ≤ Lib.bitLen y ∧ Lib.bitLen y ≤ 64 ∧ 9223372036854775808 ≤ y * 2 ^ (64 - Lib.bitLen y) ∧ y * 2 ^ (64 - Lib.bitLen y) < 18446744073709551616 := by
  obtain ⟨a, b, c⟩ := Lib.bitLenAux_bounds 64 y h h0
  have d := Lib.bitLen_le y 64 (by omega) h
  change 1 ≤ Lib.bitLen y at a
  change 2 ^ (Lib.bitLen y - 1) ≤ y at b
  change y < 2 ^ Lib.bitLen y at c
  generalize Lib.bitLen y = L at *
  refine ⟨a, d, ?_, ?_⟩
  · have := Nat.mul_le_mul_right (2 ^ (64 - L)) b
    rw [← Nat.pow_add, show L - 1 + (64 - L) = 63 by omega] at this
    omega
  · have := Nat.mul_lt_mul_of_pos_right c (Nat.two_pow_pos (64 - L))
    rw [← Nat.pow_add, show L + (64 - L) = 64 by omega] at this
    omega
/-- math/bits.Div64 tells the quotient and the rest. -/
theorem bits_Div64.eq (hi lo y : Int) (h0 : 0 ≤ hi) (h1 : hi < y) (hy : y < 18446744073709551616) (hl : 0 ≤ lo) (hl' : lo < 18446744073709551616) (k : Nat) (hk : 20 ≤ k) :
    bits_Div64.f k hi lo y = some ((hi * 18446744073709551616 + lo) / y, (hi * 18446744073709551616 + lo) % y) := by
  unfold bits_Div64.f
  rw [if_neg (by omega), if_neg (by omega)]
  by_cases c : hi = 0
  · rw [if_pos c]
    subst c
    have a := Int.ediv_nonneg hl (show 0 ≤ y by omega)
    have b := Int.ediv_le_self y hl
    rw [d64_tdiv_nn hl, Int.tmod_eq_emod_of_nonneg hl, d64_wr, show (0 : Int) * 18446744073709551616 + lo = lo by omega, Int.emod_eq_of_lt a (by omega)]
  rw [if_neg c]
  obtain ⟨H, rfl⟩ := Int.eq_ofNat_of_zero_le h0
  obtain ⟨Lo, rfl⟩ := Int.eq_ofNat_of_zero_le hl
  obtain ⟨Y, rfl⟩ := Int.eq_ofNat_of_zero_le (show 0 ≤ y by omega)
  obtain ⟨n1, n2, n3, n4⟩ := d64_norm Y (by omega) (by omega)
  unfold bits_LeadingZeros64.f bits_Len64.f
  rw [if_pos (by omega), Int.toNat_natCast]
  simp only [Option.bind_some]
  generalize Lib.bitLen Y = L at *
  obtain ⟨S, hS, hS63⟩ : ∃ S : Nat, S = 64 - L ∧ S ≤ 63 := ⟨64 - L, rfl, by omega⟩
  have e1 : IntKind.u64.wrap (wrap64 (64 - (L : Int))) = (S : Int) := by rw [d64_wr]; unfold wrap64; omega
  have e2 : IntKind.u64.wrap (64 - (S : Int)) = ((64 - S : Nat) : Int) := by rw [d64_wr]; omega
  rw [e1, e2, if_pos (by omega), if_pos (by omega)]
  rw [← hS] at n3 n4
  have hHS : H * 2 ^ S + 2 ^ S ≤ Y * 2 ^ S := by
    have := Nat.mul_le_mul_right (2 ^ S) (show H + 1 ≤ Y by omega)
    rw [Nat.add_mul] at this
    omega
  have hp : 2 ^ (64 - S) * 2 ^ S = 18446744073709551616 := by rw [← Nat.pow_add, show 64 - S + S = 64 by omega]
  have hd : Lo * 2 ^ S / 18446744073709551616 = Lo / 2 ^ (64 - S) := by rw [← hp, Nat.mul_div_mul_right _ _ (Nat.two_pow_pos S)]
  have hpos := Nat.two_pow_pos S
  have hlow : Lo / 2 ^ (64 - S) < 2 ^ S := by
    rw [Nat.div_lt_iff_lt_mul (Nat.two_pow_pos _), Nat.mul_comm, hp]
    omega
  rw [d64_shl_nat Y S (by omega), d64_shl_nat H S (by omega), d64_shl_nat Lo S (by omega), d64_shr_nat Lo (64 - S) (by omega)]
  rw [Nat.mod_eq_of_lt n4, Nat.mod_eq_of_lt (show H * 2 ^ S < 18446744073709551616 by omega)]
  rw [d64_or_add H _ S hlow (by omega)]
  rw [d64_and_low _ (by omega) (by omega), d64_and_low _ (by omega) (by omega)]
  have hmod := Nat.div_add_mod (Lo * 2 ^ S) 18446744073709551616
  rw [hd] at hmod
  have key : (H * 2 ^ S + Lo / 2 ^ (64 - S)) * 18446744073709551616 + Lo * 2 ^ S % 18446744073709551616 = (H * 18446744073709551616 + Lo) * 2 ^ S := by
    have t1 : (H * 18446744073709551616 + Lo) * 2 ^ S = (H * 2 ^ S) * 18446744073709551616 + Lo * 2 ^ S := by grind
    omega
  generalize hP : 2 ^ S = P at *
  generalize hA : H * P + Lo / 2 ^ (64 - S) = un32 at *
  generalize hB : Lo * P % 18446744073709551616 = un10 at *
  have hun32 : un32 < Y * P := by omega
  have hun10 : un10 < 18446744073709551616 := by omega
  rw [if_neg (by omega)]
  have t0 : (0 : Int) ≤ (un32 : Int) := by omega
  rw [d64_tdiv_nn t0]
  have q0 : (0 : Int) ≤ (un32 : Int) / (((Y * P : Nat) : Int) / 4294967296) := Int.ediv_nonneg t0 (by omega)
  have q1 := Int.ediv_le_self (((Y * P : Nat) : Int) / 4294967296) t0
  have m1 := Int.mul_ediv_add_emod (un32 : Int) (((Y * P : Nat) : Int) / 4294967296)
  have m2 := Int.emod_nonneg (un32 : Int) (b := ((Y * P : Nat) : Int) / 4294967296) (by omega)
  have m3 := Int.emod_lt_of_pos (un32 : Int) (b := ((Y * P : Nat) : Int) / 4294967296) (by omega)
  have m4 : (un32 : Int) / (((Y * P : Nat) : Int) / 4294967296) * (((Y * P : Nat) : Int) / 4294967296) = (((Y * P : Nat) : Int) / 4294967296) * ((un32 : Int) / (((Y * P : Nat) : Int) / 4294967296)) := Int.mul_comm _ _
  have g2 : IntKind.u64.wrap ((un32 : Int) / (((Y * P : Nat) : Int) / 4294967296)) = (un32 : Int) / (((Y * P : Nat) : Int) / 4294967296) := by rw [d64_wr]; omega
  have g3 : IntKind.u64.wrap ((un32 : Int) - IntKind.u64.wrap ((un32 : Int) / (((Y * P : Nat) : Int) / 4294967296) * (((Y * P : Nat) : Int) / 4294967296))) = (un32 : Int) % (((Y * P : Nat) : Int) / 4294967296) := by simp only [d64_wr]; omega
  rw [g2, g3]
  rw [d64_both (by omega) (by omega) (by omega) (by omega) (by omega) (by omega) (by omega) (by omega) (by omega) (by omega) (by omega) (by omega) k hk]
  have key2 : (un32 : Int) * 18446744073709551616 + (un10 : Int) / 4294967296 * 4294967296 + (un10 : Int) % 4294967296 = ((H : Int) * 18446744073709551616 + (Lo : Int)) * (P : Int) := by
    have := congrArg (fun z : Nat => (z : Int)) key
    simp only [Int.natCast_add, Int.natCast_mul, show ((18446744073709551616 : Nat) : Int) = 18446744073709551616 from rfl] at this
    omega
  have hP0 : (0 : Int) < (P : Int) := by omega
  have r2 : ((H : Int) * 18446744073709551616 + (Lo : Int)) * (P : Int) % ((Y : Int) * (P : Int)) = ((H : Int) * 18446744073709551616 + (Lo : Int)) % (Y : Int) * (P : Int) := by
    rw [Int.mul_comm _ (P : Int), Int.mul_comm (Y : Int) (P : Int), Int.mul_emod_mul_of_pos _ _ hP0, Int.mul_comm]
  rw [key2, Int.natCast_mul, Int.mul_ediv_mul_of_pos_left _ _ hP0, r2]
  have f1 : shr .u64 (((H : Int) * 18446744073709551616 + (Lo : Int)) % (Y : Int) * (P : Int)) (S : Int) = ((H : Int) * 18446744073709551616 + (Lo : Int)) % (Y : Int) := by
    unfold shr
    rw [Int.toNat_natCast, Nat.min_eq_left (show S ≤ IntKind.u64.bits by show S ≤ 64; omega), d64_pow_cast, hP, Int.mul_ediv_cancel _ (by omega)]
  rw [f1]
set_option maxHeartbeats 4000000 in
set_option maxRecDepth 100000 in
theorem cents_MulDiv.bad (a0 a1 a2 a3 : Int) (w : World) (h : ¬ (mdFits a0 ∧ mdFits a1 ∧ mdFits a2 ∧ 1 ≤ a3 ∧ a3 ≤ 5)) :
    Calls Try.prog 55 #[.int .i64 a0, .int .i64 a1, .int .i64 a2, .int .i64 a3] w fun e w' => e = .returned (.tuple #[.int .i64 0, .int .i64 2]) ∧ w' = w := by
  rcases md_bad_cases a0 a1 a2 a3 h with h1 | h1 | ⟨⟨h1, h2⟩, h3⟩ | ⟨⟨h1, h2⟩, h3⟩ | ⟨⟨h1, h2⟩, ⟨h3, h4⟩, h5⟩ | ⟨⟨h1, h2⟩, ⟨h3, h4⟩, h5⟩ | ⟨⟨h1, h2⟩, ⟨h3, h4⟩, ⟨h5, h6⟩, h7⟩ | ⟨⟨h1, h2⟩, ⟨h3, h4⟩, ⟨h5, h6⟩, h7⟩
  all_goals
    clear h
    go_enter Try.func55, Try.ntmps55
    go_wp2
    go_ret2
    exact ⟨rfl, rfl⟩
theorem bits_Div64.walkp (p y : Nat) (h : p / 18446744073709551616 < y) (hy : y < 18446744073709551616) (w : World) :
    Calls Try.prog 93 #[.int .u64 ((p / 18446744073709551616 : Nat) : Int), .int .u64 ((p % 18446744073709551616 : Nat) : Int), .int .u64 (y : Int)] w fun e w' =>
      e = .returned (.tuple #[.int .u64 ((p / y : Nat) : Int), .int .u64 ((p % y : Nat) : Int)]) ∧ Drawn0 w w' := by
  have e := bits_Div64.eq ((p / 18446744073709551616 : Nat) : Int) ((p % 18446744073709551616 : Nat) : Int) (y : Int) (by omega) (by omega) (by omega) (by omega) (by omega) 20 (by omega)
  have e2 : ((p / 18446744073709551616 : Nat) : Int) * 18446744073709551616 + ((p % 18446744073709551616 : Nat) : Int) = (p : Int) := by omega
  rw [e2] at e
  exact bits_Div64.calls 20 _ _ _ _ _ w (by rw [e]; rfl)
def mdHalf (q r c : Int) : Bool := decide (c - r < r) || (decide (r = c - r) && decide (q % 2 = 1))
set_option maxHeartbeats 1000000 in
set_option maxRecDepth 100000 in
theorem cents_away1.half (q r c : Int) (b1 b2 : Nat) (w : World) (hm : w.cell? ⟨b1, 0, none⟩ = some (.int .i64 5)) (h0 : 0 ≤ q) (h1 : 0 ≤ r) (h2 : r < c) (h3 : c ≤ 1152921504606846976) :
    Calls Try.prog 113 #[.int .u64 q, .int .u64 r, .int .u64 c, .pointer (some ⟨b1, 0, none⟩), .pointer (some ⟨b2, 0, none⟩)] w fun e w' => e = .returned (.bool (mdHalf q r c)) ∧ w' = w := by
  by_cases g1 : c - r < r
  · have e : mdHalf q r c = true := by unfold mdHalf; rw [decide_eq_true g1]; rfl
    rw [e]
    go_enter Try.func113, Try.ntmps113
    go_wp2
    go_ret
    exact ⟨rfl, rfl⟩
  by_cases g2 : r = c - r
  · have f2 : (r == c - r) = true := beq_iff_eq.mpr g2
    by_cases g3 : q % 2 = 1
    · have f3 : (q % 2 == 1) = true := beq_iff_eq.mpr g3
      have e : mdHalf q r c = true := by unfold mdHalf; rw [decide_eq_true g2, decide_eq_true g3, decide_eq_false g1]; rfl
      rw [e]
      clear g2 g3 e
      go_enter Try.func113, Try.ntmps113
      go_wp2
      go_ret
      exact ⟨rfl, rfl⟩
    · have f3 : (q % 2 == 1) = false := beq_eq_false_iff_ne.mpr g3
      have e : mdHalf q r c = false := by unfold mdHalf; rw [decide_eq_true g2, decide_eq_false g3, decide_eq_false g1]; rfl
      rw [e]
      clear g2 g3 e
      go_enter Try.func113, Try.ntmps113
      go_wp2
      go_ret
      exact ⟨rfl, rfl⟩
  · have f2 : (r == c - r) = false := beq_eq_false_iff_ne.mpr g2
    have e : mdHalf q r c = false := by unfold mdHalf; rw [decide_eq_false g2, decide_eq_false g1]; rfl
    rw [e]
    clear e
    go_enter Try.func113, Try.ntmps113
    go_wp2
    go_ret
    exact ⟨rfl, rfl⟩
def mdSgn (q : Int) (b : Bool) : Int × Int := if q > 1152921504606846976 then (0, 3) else if b = true then (wrap64 (-(wrap64 q)), 0) else (wrap64 q, 0)
theorem md_sgn (q : Int) (b : Bool) : cents_signed.f q b = some ((mdSgn q b).1, (mdSgn q b).2) := by
  unfold cents_signed.f mdSgn
  repeat' split
  all_goals rfl
theorem md_sgn_eq (q : Int) (b : Bool) (h : 0 ≤ q) : mdSgn q b = if 1152921504606846976 < q then (0, 3) else (if b = true then -q else q, 0) := by
  unfold mdSgn
  by_cases c : q > 1152921504606846976
  · rw [if_pos c, if_pos c]
  · rw [if_neg c, if_neg c]
    cases b <;> simp [wrap64] <;> omega
set_option maxHeartbeats 4000000 in
set_option maxRecDepth 100000 in
theorem cents_MulDiv.m0 (a0 a1 a2 a3 : Int) (w : World) (h1 : -1152921504606846976 ≤ a0) (h2 : a0 ≤ 1152921504606846976) (h3 : -1152921504606846976 ≤ a1) (h4 : a1 ≤ 1152921504606846976)
    (h5 : -1152921504606846976 ≤ a2) (h6 : a2 ≤ 1152921504606846976) (hc : (a2 == 0) = false) (m1 : 1 ≤ a3) (m2 : a3 ≤ 5)
    (hh : a0.natAbs * a1.natAbs / 18446744073709551616 < a2.natAbs) (hq : (a0.natAbs : Int) * a1.natAbs / a2.natAbs ≤ 1152921504606846976) (hr : (a0.natAbs : Int) * a1.natAbs % a2.natAbs ≤ 0) :
    Calls Try.prog 55 #[.int .i64 a0, .int .i64 a1, .int .i64 a2, .int .i64 a3] w fun e w' => e = .returned (.tuple #[.int .i64 (mdSgn ((a0.natAbs : Int) * a1.natAbs / a2.natAbs) (mdBelow a0 a1 a2)).1, .int .i64 (mdSgn ((a0.natAbs : Int) * a1.natAbs / a2.natAbs) (mdBelow a0 a1 a2)).2]) ∧ Below w.heap.size w w' := by
  have hmf : ∀ (fn : Fn) (first cap : Array Value) (w : World), (Instr.makeFunc fn first cap).run Try.prog w = .ok (.func fn first cap) w := fun _ _ _ _ => rfl
  go_enter Try.func55, Try.ntmps55
  go_wp2_with (first | (go_at_call 88; refine (cents_size.walk _ _ (by omega) (by omega)).mono ?_; rintro e w' ⟨rfl, rfl⟩) | (go_at_call 87; refine (bits_Mul64.walk _ _ (by omega) (by omega) _).mono ?_; rintro e w' ⟨rfl, rfl⟩) | (go_at_call 93; refine (bits_Div64.walkp _ _ hh (by omega) _).mono ?_; rintro e w1 ⟨rfl, hd⟩) | (go_at_call 89; refine (cents_signed.calls _ _ _ _ _ (md_sgn _ _)).mono ?_; rintro e w2 ⟨rfl, hd2⟩) | (go_at_call 85; go_in) | (go_at_call 94; go_in))
  go_ret2
  exact ⟨rfl, below_then hd.below hd.below.size hd2.below⟩
set_option maxHeartbeats 4000000 in
set_option maxRecDepth 100000 in
theorem cents_MulDiv.o1 (a0 a1 a2 a3 : Int) (w : World) (h1 : -1152921504606846976 ≤ a0) (h2 : a0 ≤ 1152921504606846976) (h3 : -1152921504606846976 ≤ a1) (h4 : a1 ≤ 1152921504606846976)
    (h5 : -1152921504606846976 ≤ a2) (h6 : a2 ≤ 1152921504606846976) (hc : (a2 == 0) = false) (m1 : 1 ≤ a3) (m2 : a3 ≤ 5)
    (hh : (a2.natAbs : Int) ≤ (a0.natAbs : Int) * a1.natAbs / 18446744073709551616) :
    Calls Try.prog 55 #[.int .i64 a0, .int .i64 a1, .int .i64 a2, .int .i64 a3] w fun e w' => e = .returned (.tuple #[.int .i64 0, .int .i64 3]) ∧ Below w.heap.size w w' := by
  go_enter Try.func55, Try.ntmps55
  go_wp2_with (first | (go_at_call 88; refine (cents_size.walk _ _ (by omega) (by omega)).mono ?_; rintro e w' ⟨rfl, rfl⟩) | (go_at_call 87; refine (bits_Mul64.walk _ _ (by omega) (by omega) _).mono ?_; rintro e w' ⟨rfl, rfl⟩) | (go_at_call 93; refine (bits_Div64.walkp _ _ hh (by omega) _).mono ?_; rintro e w1 ⟨rfl, hd⟩) | (go_at_call 89; refine (cents_signed.calls _ _ _ _ _ (md_sgn _ _)).mono ?_; rintro e w2 ⟨rfl, hd2⟩) | (go_at_call 85; go_in) | (go_at_call 94; go_in))
  go_ret2
  exact ⟨rfl, Below.refl _ _⟩
set_option maxHeartbeats 4000000 in
set_option maxRecDepth 100000 in
theorem cents_MulDiv.o2 (a0 a1 a2 a3 : Int) (w : World) (h1 : -1152921504606846976 ≤ a0) (h2 : a0 ≤ 1152921504606846976) (h3 : -1152921504606846976 ≤ a1) (h4 : a1 ≤ 1152921504606846976)
    (h5 : -1152921504606846976 ≤ a2) (h6 : a2 ≤ 1152921504606846976) (hc : (a2 == 0) = false) (m1 : 1 ≤ a3) (m2 : a3 ≤ 5)
    (hh : a0.natAbs * a1.natAbs / 18446744073709551616 < a2.natAbs) (hq : 1152921504606846976 < (a0.natAbs : Int) * a1.natAbs / a2.natAbs) :
    Calls Try.prog 55 #[.int .i64 a0, .int .i64 a1, .int .i64 a2, .int .i64 a3] w fun e w' => e = .returned (.tuple #[.int .i64 0, .int .i64 3]) ∧ Below w.heap.size w w' := by
  go_enter Try.func55, Try.ntmps55
  go_wp2_with (first | (go_at_call 88; refine (cents_size.walk _ _ (by omega) (by omega)).mono ?_; rintro e w' ⟨rfl, rfl⟩) | (go_at_call 87; refine (bits_Mul64.walk _ _ (by omega) (by omega) _).mono ?_; rintro e w' ⟨rfl, rfl⟩) | (go_at_call 93; refine (bits_Div64.walkp _ _ hh (by omega) _).mono ?_; rintro e w1 ⟨rfl, hd⟩) | (go_at_call 89; refine (cents_signed.calls _ _ _ _ _ (md_sgn _ _)).mono ?_; rintro e w2 ⟨rfl, hd2⟩) | (go_at_call 85; go_in) | (go_at_call 94; go_in))
  go_ret2
  exact ⟨rfl, hd.below⟩
set_option maxHeartbeats 4000000 in
set_option maxRecDepth 100000 in
theorem cents_MulDiv.z (a0 a1 a2 a3 : Int) (w : World) (h1 : -1152921504606846976 ≤ a0) (h2 : a0 ≤ 1152921504606846976) (h3 : -1152921504606846976 ≤ a1) (h4 : a1 ≤ 1152921504606846976)
    (h5 : -1152921504606846976 ≤ a2) (h6 : a2 ≤ 1152921504606846976) (hc : (a2 == 0) = true) (m1 : 1 ≤ a3) (m2 : a3 ≤ 5) :
    Calls Try.prog 55 #[.int .i64 a0, .int .i64 a1, .int .i64 a2, .int .i64 a3] w fun e w' => e = .returned (.tuple #[.int .i64 0, .int .i64 4]) ∧ Below w.heap.size w w' := by
  go_enter Try.func55, Try.ntmps55
  go_wp2_with (go_at_call 85; go_in)
  go_ret2
  exact ⟨rfl, Below.refl _ _⟩
theorem md_end {w w1 w2 : World} {o1 o2 : Obj} (hd : Drawn0 w w1) (hd2 : Drawn0 ((w1.alloc o1).alloc o2) w2) : Below w.heap.size w w2 :=
  below_then (below_alloc (below_alloc hd.below _) _) (Nat.le_trans hd.below.size (by simp; omega)) hd2.below
set_option maxHeartbeats 4000000 in
set_option maxRecDepth 100000 in
theorem cents_MulDiv.r1 (a0 a1 a2 : Int) (w : World) (h1 : -1152921504606846976 ≤ a0) (h2 : a0 ≤ 1152921504606846976) (h3 : -1152921504606846976 ≤ a1) (h4 : a1 ≤ 1152921504606846976)
    (h5 : -1152921504606846976 ≤ a2) (h6 : a2 ≤ 1152921504606846976) (hc : (a2 == 0) = false)
    (hh : a0.natAbs * a1.natAbs / 18446744073709551616 < a2.natAbs) (hq : (a0.natAbs : Int) * a1.natAbs / a2.natAbs ≤ 1152921504606846976) (hr : 0 < (a0.natAbs : Int) * a1.natAbs % a2.natAbs) :
    Calls Try.prog 55 #[.int .i64 a0, .int .i64 a1, .int .i64 a2, .int .i64 1] w fun e w' => e = .returned (.tuple #[.int .i64 (mdSgn ((a0.natAbs : Int) * a1.natAbs / a2.natAbs) (mdBelow a0 a1 a2)).1, .int .i64 (mdSgn ((a0.natAbs : Int) * a1.natAbs / a2.natAbs) (mdBelow a0 a1 a2)).2]) ∧ Below w.heap.size w w' := by
  have hmf : ∀ (fn : Fn) (first cap : Array Value) (w : World), (Instr.makeFunc fn first cap).run Try.prog w = .ok (.func fn first cap) w := fun _ _ _ _ => rfl
  go_enter Try.func55, Try.ntmps55
  go_wp2_with (first | (go_at_call 88; refine (cents_size.walk _ _ (by omega) (by omega)).mono ?_; rintro e w' ⟨rfl, rfl⟩) | (go_at_call 87; refine (bits_Mul64.walk _ _ (by omega) (by omega) _).mono ?_; rintro e w' ⟨rfl, rfl⟩) | (go_at_call 93; refine (bits_Div64.walkp _ _ hh (by omega) _).mono ?_; rintro e w1 ⟨rfl, hd⟩) | (go_at_call 89; refine (cents_signed.calls _ _ _ _ _ (md_sgn _ _)).mono ?_; rintro e w2 ⟨rfl, hd2⟩) | (go_at_call 85; go_in) | (go_at_call 94; go_in) | (go_at_call 113; go_in))
  go_ret2
  exact ⟨rfl, md_end hd hd2⟩
set_option maxHeartbeats 4000000 in
set_option maxRecDepth 100000 in
theorem cents_MulDiv.r2 (a0 a1 a2 : Int) (w : World) (h1 : -1152921504606846976 ≤ a0) (h2 : a0 ≤ 1152921504606846976) (h3 : -1152921504606846976 ≤ a1) (h4 : a1 ≤ 1152921504606846976)
    (h5 : -1152921504606846976 ≤ a2) (h6 : a2 ≤ 1152921504606846976) (hc : (a2 == 0) = false)
    (hh : a0.natAbs * a1.natAbs / 18446744073709551616 < a2.natAbs) (hq : (a0.natAbs : Int) * a1.natAbs / a2.natAbs ≤ 1152921504606846976) (hr : 0 < (a0.natAbs : Int) * a1.natAbs % a2.natAbs) :
    Calls Try.prog 55 #[.int .i64 a0, .int .i64 a1, .int .i64 a2, .int .i64 2] w fun e w' => e = .returned (.tuple #[.int .i64 (mdSgn ((a0.natAbs : Int) * a1.natAbs / a2.natAbs + 1) (mdBelow a0 a1 a2)).1, .int .i64 (mdSgn ((a0.natAbs : Int) * a1.natAbs / a2.natAbs + 1) (mdBelow a0 a1 a2)).2]) ∧ Below w.heap.size w w' := by
  have hmf : ∀ (fn : Fn) (first cap : Array Value) (w : World), (Instr.makeFunc fn first cap).run Try.prog w = .ok (.func fn first cap) w := fun _ _ _ _ => rfl
  have hw : IntKind.u64.wrap ((a0.natAbs : Int) * a1.natAbs / a2.natAbs + 1) = (a0.natAbs : Int) * a1.natAbs / a2.natAbs + 1 := by
    have : 0 ≤ (a0.natAbs : Int) * a1.natAbs / a2.natAbs := Int.ediv_nonneg (Int.mul_nonneg (by omega) (by omega)) (by omega)
    rw [IntKind.wrap_u64]; omega
  go_enter Try.func55, Try.ntmps55
  go_wp2_with (first | (go_at_call 88; refine (cents_size.walk _ _ (by omega) (by omega)).mono ?_; rintro e w' ⟨rfl, rfl⟩) | (go_at_call 87; refine (bits_Mul64.walk _ _ (by omega) (by omega) _).mono ?_; rintro e w' ⟨rfl, rfl⟩) | (go_at_call 93; refine (bits_Div64.walkp _ _ hh (by omega) _).mono ?_; rintro e w1 ⟨rfl, hd⟩) | (go_at_call 89; refine (cents_signed.calls _ _ _ _ _ (md_sgn _ _)).mono ?_; rintro e w2 ⟨rfl, hd2⟩) | (go_at_call 85; go_in) | (go_at_call 94; go_in) | (go_at_call 113; go_in))
  go_ret2
  exact ⟨rfl, md_end hd hd2⟩
set_option maxHeartbeats 4000000 in
set_option maxRecDepth 100000 in
theorem cents_MulDiv.r3t (a0 a1 a2 : Int) (w : World) (h1 : -1152921504606846976 ≤ a0) (h2 : a0 ≤ 1152921504606846976) (h3 : -1152921504606846976 ≤ a1) (h4 : a1 ≤ 1152921504606846976)
    (h5 : -1152921504606846976 ≤ a2) (h6 : a2 ≤ 1152921504606846976) (hc : (a2 == 0) = false) (fb : (!((!(decide (a0 < 0) == decide (a1 < 0))) == decide (a2 < 0))) = true)
    (hh : a0.natAbs * a1.natAbs / 18446744073709551616 < a2.natAbs) (hq : (a0.natAbs : Int) * a1.natAbs / a2.natAbs ≤ 1152921504606846976) (hr : 0 < (a0.natAbs : Int) * a1.natAbs % a2.natAbs) :
    Calls Try.prog 55 #[.int .i64 a0, .int .i64 a1, .int .i64 a2, .int .i64 3] w fun e w' => e = .returned (.tuple #[.int .i64 (mdSgn ((a0.natAbs : Int) * a1.natAbs / a2.natAbs + 1) true).1, .int .i64 (mdSgn ((a0.natAbs : Int) * a1.natAbs / a2.natAbs + 1) true).2]) ∧ Below w.heap.size w w' := by
  have hmf : ∀ (fn : Fn) (first cap : Array Value) (w : World), (Instr.makeFunc fn first cap).run Try.prog w = .ok (.func fn first cap) w := fun _ _ _ _ => rfl
  have hw : IntKind.u64.wrap ((a0.natAbs : Int) * a1.natAbs / a2.natAbs + 1) = (a0.natAbs : Int) * a1.natAbs / a2.natAbs + 1 := by
    have : 0 ≤ (a0.natAbs : Int) * a1.natAbs / a2.natAbs := Int.ediv_nonneg (Int.mul_nonneg (by omega) (by omega)) (by omega)
    rw [IntKind.wrap_u64]; omega
  go_enter Try.func55, Try.ntmps55
  go_wp2_with (first | (go_at_call 88; refine (cents_size.walk _ _ (by omega) (by omega)).mono ?_; rintro e w' ⟨rfl, rfl⟩) | (go_at_call 87; refine (bits_Mul64.walk _ _ (by omega) (by omega) _).mono ?_; rintro e w' ⟨rfl, rfl⟩) | (go_at_call 93; refine (bits_Div64.walkp _ _ hh (by omega) _).mono ?_; rintro e w1 ⟨rfl, hd⟩) | (go_at_call 89; refine (cents_signed.calls _ _ _ _ _ (md_sgn _ _)).mono ?_; rintro e w2 ⟨rfl, hd2⟩) | (go_at_call 85; go_in) | (go_at_call 94; go_in) | (go_at_call 113; go_in))
  go_ret2
  exact ⟨rfl, md_end hd hd2⟩
set_option maxHeartbeats 4000000 in
set_option maxRecDepth 100000 in
theorem cents_MulDiv.r3f (a0 a1 a2 : Int) (w : World) (h1 : -1152921504606846976 ≤ a0) (h2 : a0 ≤ 1152921504606846976) (h3 : -1152921504606846976 ≤ a1) (h4 : a1 ≤ 1152921504606846976)
    (h5 : -1152921504606846976 ≤ a2) (h6 : a2 ≤ 1152921504606846976) (hc : (a2 == 0) = false) (fb : (!((!(decide (a0 < 0) == decide (a1 < 0))) == decide (a2 < 0))) = false)
    (hh : a0.natAbs * a1.natAbs / 18446744073709551616 < a2.natAbs) (hq : (a0.natAbs : Int) * a1.natAbs / a2.natAbs ≤ 1152921504606846976) (hr : 0 < (a0.natAbs : Int) * a1.natAbs % a2.natAbs) :
    Calls Try.prog 55 #[.int .i64 a0, .int .i64 a1, .int .i64 a2, .int .i64 3] w fun e w' => e = .returned (.tuple #[.int .i64 (mdSgn ((a0.natAbs : Int) * a1.natAbs / a2.natAbs) false).1, .int .i64 (mdSgn ((a0.natAbs : Int) * a1.natAbs / a2.natAbs) false).2]) ∧ Below w.heap.size w w' := by
  have hmf : ∀ (fn : Fn) (first cap : Array Value) (w : World), (Instr.makeFunc fn first cap).run Try.prog w = .ok (.func fn first cap) w := fun _ _ _ _ => rfl
  go_enter Try.func55, Try.ntmps55
  go_wp2_with (first | (go_at_call 88; refine (cents_size.walk _ _ (by omega) (by omega)).mono ?_; rintro e w' ⟨rfl, rfl⟩) | (go_at_call 87; refine (bits_Mul64.walk _ _ (by omega) (by omega) _).mono ?_; rintro e w' ⟨rfl, rfl⟩) | (go_at_call 93; refine (bits_Div64.walkp _ _ hh (by omega) _).mono ?_; rintro e w1 ⟨rfl, hd⟩) | (go_at_call 89; refine (cents_signed.calls _ _ _ _ _ (md_sgn _ _)).mono ?_; rintro e w2 ⟨rfl, hd2⟩) | (go_at_call 85; go_in) | (go_at_call 94; go_in) | (go_at_call 113; go_in))
  go_ret2
  exact ⟨rfl, md_end hd hd2⟩
set_option maxHeartbeats 4000000 in
set_option maxRecDepth 100000 in
theorem cents_MulDiv.r4t (a0 a1 a2 : Int) (w : World) (h1 : -1152921504606846976 ≤ a0) (h2 : a0 ≤ 1152921504606846976) (h3 : -1152921504606846976 ≤ a1) (h4 : a1 ≤ 1152921504606846976)
    (h5 : -1152921504606846976 ≤ a2) (h6 : a2 ≤ 1152921504606846976) (hc : (a2 == 0) = false) (fb : (!((!(decide (a0 < 0) == decide (a1 < 0))) == decide (a2 < 0))) = true)
    (hh : a0.natAbs * a1.natAbs / 18446744073709551616 < a2.natAbs) (hq : (a0.natAbs : Int) * a1.natAbs / a2.natAbs ≤ 1152921504606846976) (hr : 0 < (a0.natAbs : Int) * a1.natAbs % a2.natAbs) :
    Calls Try.prog 55 #[.int .i64 a0, .int .i64 a1, .int .i64 a2, .int .i64 4] w fun e w' => e = .returned (.tuple #[.int .i64 (mdSgn ((a0.natAbs : Int) * a1.natAbs / a2.natAbs) true).1, .int .i64 (mdSgn ((a0.natAbs : Int) * a1.natAbs / a2.natAbs) true).2]) ∧ Below w.heap.size w w' := by
  have hmf : ∀ (fn : Fn) (first cap : Array Value) (w : World), (Instr.makeFunc fn first cap).run Try.prog w = .ok (.func fn first cap) w := fun _ _ _ _ => rfl
  go_enter Try.func55, Try.ntmps55
  go_wp2_with (first | (go_at_call 88; refine (cents_size.walk _ _ (by omega) (by omega)).mono ?_; rintro e w' ⟨rfl, rfl⟩) | (go_at_call 87; refine (bits_Mul64.walk _ _ (by omega) (by omega) _).mono ?_; rintro e w' ⟨rfl, rfl⟩) | (go_at_call 93; refine (bits_Div64.walkp _ _ hh (by omega) _).mono ?_; rintro e w1 ⟨rfl, hd⟩) | (go_at_call 89; refine (cents_signed.calls _ _ _ _ _ (md_sgn _ _)).mono ?_; rintro e w2 ⟨rfl, hd2⟩) | (go_at_call 85; go_in) | (go_at_call 94; go_in) | (go_at_call 113; go_in))
  go_ret2
  exact ⟨rfl, md_end hd hd2⟩
set_option maxHeartbeats 4000000 in
set_option maxRecDepth 100000 in
theorem cents_MulDiv.r4f (a0 a1 a2 : Int) (w : World) (h1 : -1152921504606846976 ≤ a0) (h2 : a0 ≤ 1152921504606846976) (h3 : -1152921504606846976 ≤ a1) (h4 : a1 ≤ 1152921504606846976)
    (h5 : -1152921504606846976 ≤ a2) (h6 : a2 ≤ 1152921504606846976) (hc : (a2 == 0) = false) (fb : (!((!(decide (a0 < 0) == decide (a1 < 0))) == decide (a2 < 0))) = false)
    (hh : a0.natAbs * a1.natAbs / 18446744073709551616 < a2.natAbs) (hq : (a0.natAbs : Int) * a1.natAbs / a2.natAbs ≤ 1152921504606846976) (hr : 0 < (a0.natAbs : Int) * a1.natAbs % a2.natAbs) :
    Calls Try.prog 55 #[.int .i64 a0, .int .i64 a1, .int .i64 a2, .int .i64 4] w fun e w' => e = .returned (.tuple #[.int .i64 (mdSgn ((a0.natAbs : Int) * a1.natAbs / a2.natAbs + 1) false).1, .int .i64 (mdSgn ((a0.natAbs : Int) * a1.natAbs / a2.natAbs + 1) false).2]) ∧ Below w.heap.size w w' := by
  have hmf : ∀ (fn : Fn) (first cap : Array Value) (w : World), (Instr.makeFunc fn first cap).run Try.prog w = .ok (.func fn first cap) w := fun _ _ _ _ => rfl
  have hw : IntKind.u64.wrap ((a0.natAbs : Int) * a1.natAbs / a2.natAbs + 1) = (a0.natAbs : Int) * a1.natAbs / a2.natAbs + 1 := by
    have : 0 ≤ (a0.natAbs : Int) * a1.natAbs / a2.natAbs := Int.ediv_nonneg (Int.mul_nonneg (by omega) (by omega)) (by omega)
    rw [IntKind.wrap_u64]; omega
  go_enter Try.func55, Try.ntmps55
  go_wp2_with (first | (go_at_call 88; refine (cents_size.walk _ _ (by omega) (by omega)).mono ?_; rintro e w' ⟨rfl, rfl⟩) | (go_at_call 87; refine (bits_Mul64.walk _ _ (by omega) (by omega) _).mono ?_; rintro e w' ⟨rfl, rfl⟩) | (go_at_call 93; refine (bits_Div64.walkp _ _ hh (by omega) _).mono ?_; rintro e w1 ⟨rfl, hd⟩) | (go_at_call 89; refine (cents_signed.calls _ _ _ _ _ (md_sgn _ _)).mono ?_; rintro e w2 ⟨rfl, hd2⟩) | (go_at_call 85; go_in) | (go_at_call 94; go_in) | (go_at_call 113; go_in))
  go_ret2
  exact ⟨rfl, md_end hd hd2⟩
set_option maxHeartbeats 4000000 in
set_option maxRecDepth 100000 in
theorem cents_MulDiv.r5 (a0 a1 a2 : Int) (w : World) (h1 : -1152921504606846976 ≤ a0) (h2 : a0 ≤ 1152921504606846976) (h3 : -1152921504606846976 ≤ a1) (h4 : a1 ≤ 1152921504606846976)
    (h5 : -1152921504606846976 ≤ a2) (h6 : a2 ≤ 1152921504606846976) (hc : (a2 == 0) = false) (hb : Bool) (hhalf : Aside0 (mdHalf ((a0.natAbs : Int) * a1.natAbs / a2.natAbs) ((a0.natAbs : Int) * a1.natAbs % a2.natAbs) a2.natAbs = hb))
    (hh : a0.natAbs * a1.natAbs / 18446744073709551616 < a2.natAbs) (hq : (a0.natAbs : Int) * a1.natAbs / a2.natAbs ≤ 1152921504606846976) (hr : 0 < (a0.natAbs : Int) * a1.natAbs % a2.natAbs) :
    Calls Try.prog 55 #[.int .i64 a0, .int .i64 a1, .int .i64 a2, .int .i64 5] w fun e w' => e = .returned (.tuple #[.int .i64 (mdSgn (if hb = true then (a0.natAbs : Int) * a1.natAbs / a2.natAbs + 1 else (a0.natAbs : Int) * a1.natAbs / a2.natAbs) (mdBelow a0 a1 a2)).1, .int .i64 (mdSgn (if hb = true then (a0.natAbs : Int) * a1.natAbs / a2.natAbs + 1 else (a0.natAbs : Int) * a1.natAbs / a2.natAbs) (mdBelow a0 a1 a2)).2]) ∧ Below w.heap.size w w' := by
  have hmf : ∀ (fn : Fn) (first cap : Array Value) (w : World), (Instr.makeFunc fn first cap).run Try.prog w = .ok (.func fn first cap) w := fun _ _ _ _ => rfl
  have hw : IntKind.u64.wrap ((a0.natAbs : Int) * a1.natAbs / a2.natAbs + 1) = (a0.natAbs : Int) * a1.natAbs / a2.natAbs + 1 := by
    have : 0 ≤ (a0.natAbs : Int) * a1.natAbs / a2.natAbs := Int.ediv_nonneg (Int.mul_nonneg (by omega) (by omega)) (by omega)
    rw [IntKind.wrap_u64]; omega
  have hq0 : 0 ≤ (a0.natAbs : Int) * a1.natAbs / a2.natAbs := Int.ediv_nonneg (Int.mul_nonneg (by omega) (by omega)) (by omega)
  have hrc : (a0.natAbs : Int) * a1.natAbs % a2.natAbs < a2.natAbs := Int.emod_lt_of_pos _ (by omega)
  go_enter Try.func55, Try.ntmps55
  go_wp2_with (first | (go_at_call 88; refine (cents_size.walk _ _ (by omega) (by omega)).mono ?_; rintro e w' ⟨rfl, rfl⟩) | (go_at_call 87; refine (bits_Mul64.walk _ _ (by omega) (by omega) _).mono ?_; rintro e w' ⟨rfl, rfl⟩) | (go_at_call 93; refine (bits_Div64.walkp _ _ hh (by omega) _).mono ?_; rintro e w1 ⟨rfl, hd⟩) | (go_at_call 89; refine (cents_signed.calls _ _ _ _ _ (md_sgn _ _)).mono ?_; rintro e w2 ⟨rfl, hd2⟩) | (go_at_call 85; go_in) | (go_at_call 94; go_in))
  refine (cents_away1.half _ _ _ _ _ _ (by go_simp) (by omega) (by omega) (by omega) (by omega)).mono ?_
  rw [hhalf.out]
  rintro e w' ⟨rfl, rfl⟩
  cases hb
  · go_wp2_with (go_at_call 89; refine (cents_signed.calls _ _ _ _ _ (md_sgn _ _)).mono ?_; rintro e w2 ⟨rfl, hd2⟩)
    go_ret2
    exact ⟨rfl, md_end hd hd2⟩
  · go_wp2_with (go_at_call 89; refine (cents_signed.calls _ _ _ _ _ (md_sgn _ _)).mono ?_; rintro e w2 ⟨rfl, hd2⟩)
    go_ret2
    exact ⟨rfl, md_end hd hd2⟩
theorem md_calc {a b c mode : Int} (q : Int) (h : mdQ a b c mode = q) (h0 : 0 ≤ q) : mdSgn q (mdBelow a b c) = mdRes a b c mode := by
  unfold mdRes
  rw [h, md_sgn_eq q _ h0]
def cents_MulDiv.f (a0 a1 a2 a3 : Int) : Option (Int × Int) :=
  if mdFits a0 ∧ mdFits a1 ∧ mdFits a2 ∧ 1 ≤ a3 ∧ a3 ≤ 5 then
    if a2 = 0 then some (0, 4) else some (mdRes a0 a1 a2 a3)
  else some (0, 2)
theorem cents_MulDiv.res (a0 a1 a2 a3 : Int) (w : World) (h1 : -1152921504606846976 ≤ a0) (h2 : a0 ≤ 1152921504606846976) (h3 : -1152921504606846976 ≤ a1) (h4 : a1 ≤ 1152921504606846976)
    (h5 : -1152921504606846976 ≤ a2) (h6 : a2 ≤ 1152921504606846976) (hc : (a2 == 0) = false) (m1 : 1 ≤ a3) (m2 : a3 ≤ 5) :
    Calls Try.prog 55 #[.int .i64 a0, .int .i64 a1, .int .i64 a2, .int .i64 a3] w fun e w' => e = .returned (.tuple #[.int .i64 (mdRes a0 a1 a2 a3).1, .int .i64 (mdRes a0 a1 a2 a3).2]) ∧ Below w.heap.size w w' := by
  have hc' : a2 ≠ 0 := by simpa using hc
  have hq0 : 0 ≤ (a0.natAbs : Int) * a1.natAbs / a2.natAbs := Int.ediv_nonneg (Int.mul_nonneg (by omega) (by omega)) (by omega)
  by_cases hh : a0.natAbs * a1.natAbs / 18446744073709551616 < a2.natAbs
  · by_cases hq : (a0.natAbs : Int) * a1.natAbs / a2.natAbs ≤ 1152921504606846976
    · by_cases hr : 0 < (a0.natAbs : Int) * a1.natAbs % a2.natAbs
      · have up : mdAway a3 (mdBelow a0 a1 a2) ((a0.natAbs : Int) * a1.natAbs / a2.natAbs) ((a0.natAbs : Int) * a1.natAbs % a2.natAbs) a2.natAbs = true → mdQ a0 a1 a2 a3 = (a0.natAbs : Int) * a1.natAbs / a2.natAbs + 1 := fun h => by unfold mdQ; rw [if_pos ⟨hr, h⟩]
        have dn : mdAway a3 (mdBelow a0 a1 a2) ((a0.natAbs : Int) * a1.natAbs / a2.natAbs) ((a0.natAbs : Int) * a1.natAbs % a2.natAbs) a2.natAbs = false → mdQ a0 a1 a2 a3 = (a0.natAbs : Int) * a1.natAbs / a2.natAbs := fun h => by unfold mdQ; rw [if_neg (fun h' => by rw [h] at h'; cases h'.2)]
        obtain rfl | rfl | rfl | rfl | rfl : a3 = 1 ∨ a3 = 2 ∨ a3 = 3 ∨ a3 = 4 ∨ a3 = 5 := by omega
        · rw [← md_calc _ (dn (by unfold mdAway; rfl)) hq0]
          exact cents_MulDiv.r1 a0 a1 a2 w h1 h2 h3 h4 h5 h6 hc hh hq hr
        · rw [← md_calc _ (up (by unfold mdAway; rfl)) (by omega)]
          exact cents_MulDiv.r2 a0 a1 a2 w h1 h2 h3 h4 h5 h6 hc hh hq hr
        · cases fb : mdBelow a0 a1 a2
          · rw [← md_calc _ (dn (by unfold mdAway; rw [fb]; rfl)) hq0, fb]
            exact cents_MulDiv.r3f a0 a1 a2 w h1 h2 h3 h4 h5 h6 hc fb hh hq hr
          · rw [← md_calc _ (up (by unfold mdAway; rw [fb]; rfl)) (by omega), fb]
            exact cents_MulDiv.r3t a0 a1 a2 w h1 h2 h3 h4 h5 h6 hc fb hh hq hr
        · cases fb : mdBelow a0 a1 a2
          · rw [← md_calc _ (up (by unfold mdAway; rw [fb]; rfl)) (by omega), fb]
            exact cents_MulDiv.r4f a0 a1 a2 w h1 h2 h3 h4 h5 h6 hc fb hh hq hr
          · rw [← md_calc _ (dn (by unfold mdAway; rw [fb]; rfl)) hq0, fb]
            exact cents_MulDiv.r4t a0 a1 a2 w h1 h2 h3 h4 h5 h6 hc fb hh hq hr
        · cases hb : mdHalf ((a0.natAbs : Int) * a1.natAbs / a2.natAbs) ((a0.natAbs : Int) * a1.natAbs % a2.natAbs) a2.natAbs
          · rw [← md_calc _ (dn (by unfold mdAway; exact hb)) hq0]
            exact cents_MulDiv.r5 a0 a1 a2 w h1 h2 h3 h4 h5 h6 hc false (Aside0.mk hb) hh hq hr
          · rw [← md_calc _ (up (by unfold mdAway; exact hb)) (by omega)]
            exact cents_MulDiv.r5 a0 a1 a2 w h1 h2 h3 h4 h5 h6 hc true (Aside0.mk hb) hh hq hr
      · have e : mdQ a0 a1 a2 a3 = (a0.natAbs : Int) * a1.natAbs / a2.natAbs := by unfold mdQ; rw [if_neg (fun h => hr h.1)]
        rw [← md_calc _ e hq0]
        exact cents_MulDiv.m0 a0 a1 a2 a3 w h1 h2 h3 h4 h5 h6 hc m1 m2 hh hq (by omega)
    · have e : mdRes a0 a1 a2 a3 = (0, 3) := by unfold mdRes; rw [if_pos (by unfold mdQ; split <;> omega)]
      rw [e]
      exact cents_MulDiv.o2 a0 a1 a2 a3 w h1 h2 h3 h4 h5 h6 hc m1 m2 hh (by omega)
  · have hbig : 1152921504606846976 < (a0.natAbs : Int) * a1.natAbs / a2.natAbs := by
      have h7 : a2.natAbs * 18446744073709551616 ≤ a0.natAbs * a1.natAbs := (Nat.le_div_iff_mul_le (by omega)).1 (by omega)
      have h8 : 18446744073709551616 ≤ a0.natAbs * a1.natAbs / a2.natAbs := (Nat.le_div_iff_mul_le (by omega)).2 (by rw [Nat.mul_comm]; exact h7)
      have h9 : ((a0.natAbs * a1.natAbs / a2.natAbs : Nat) : Int) = (a0.natAbs : Int) * a1.natAbs / a2.natAbs := by simp
      omega
    have e : mdRes a0 a1 a2 a3 = (0, 3) := by unfold mdRes; rw [if_pos (by unfold mdQ; split <;> omega)]
    rw [e]
    have h9 : ((a0.natAbs * a1.natAbs : Nat) : Int) = (a0.natAbs : Int) * a1.natAbs := Int.natCast_mul _ _
    exact cents_MulDiv.o1 a0 a1 a2 a3 w h1 h2 h3 h4 h5 h6 hc m1 m2 (by omega)
theorem cents_MulDiv.calls (a0 a1 a2 a3 r1 r2 : Int) (w : World) (h : cents_MulDiv.f a0 a1 a2 a3 = some (r1, r2)) :
    Calls Try.prog 55 #[.int .i64 a0, .int .i64 a1, .int .i64 a2, .int .i64 a3] w fun e w' => e = .returned (.tuple #[.int .i64 r1, .int .i64 r2]) ∧ Below w.heap.size w w' := by
  unfold cents_MulDiv.f at h
  by_cases c : mdFits a0 ∧ mdFits a1 ∧ mdFits a2 ∧ 1 ≤ a3 ∧ a3 ≤ 5
  · rw [if_pos c] at h
    obtain ⟨⟨c1, c2⟩, ⟨c3, c4⟩, ⟨c5, c6⟩, c7, c8⟩ := c
    by_cases d : a2 = 0
    · rw [if_pos d] at h
      have h' := Option.some.inj h
      simp only [Prod.mk.injEq] at h'
      obtain ⟨rfl, rfl⟩ := h'
      exact cents_MulDiv.z a0 a1 a2 a3 w c1 c2 c3 c4 c5 c6 (by simpa using d) c7 c8
    · rw [if_neg d] at h
      have h' := Option.some.inj h
      have e1 : (mdRes a0 a1 a2 a3).1 = r1 := by rw [h']
      have e2 : (mdRes a0 a1 a2 a3).2 = r2 := by rw [h']
      rw [← e1, ← e2]
      exact cents_MulDiv.res a0 a1 a2 a3 w c1 c2 c3 c4 c5 c6 (by simpa using d) c7 c8
  · rw [if_neg c] at h
    have h' := Option.some.inj h
    simp only [Prod.mk.injEq] at h'
    obtain ⟨rfl, rfl⟩ := h'
    refine (cents_MulDiv.bad a0 a1 a2 a3 w c).mono ?_
    rintro e w' ⟨rfl, rfl⟩
    exact ⟨rfl, Below.refl _ _⟩
def addon_Over.j0 : Nat → Int → Int → Int → Int → Bool → Option (Int × Int)
  | 0, _, _, _, _, _ => none
  | k + 1, x0, x1, x2, x3, x29 => if x29 = true then (some (0, 2)) else ((cents_MulDiv.f x1 x2 1000 2).bind fun bt351 => (if x0 ≤ bt351.1 then (some (0, 0)) else ((cents_MulDiv.f (wrap64 (x0 - bt351.1)) x3 1000 2).bind fun bt353 => (some (bt353.1, bt353.2)))))
def addon_Over.f (k : Nat) (a0 : Int) (a1 : Int) (a2 : Int) (a3 : Int) : Option (Int × Int) := (addon_money.f a0).bind fun t347 => (if t347 = true then ((addon_money.f a1).bind fun t348 => (if t348 = true then ((addon_part.f a2).bind fun t349 => (if t349 = true then ((addon_part.f a3).bind fun t350 => (addon_Over.j0 k a0 a1 a2 a3 (!t350))) else (addon_Over.j0 k a0 a1 a2 a3 true))) else (addon_Over.j0 k a0 a1 a2 a3 true))) else (addon_Over.j0 k a0 a1 a2 a3 true))
theorem addon_Over.mono_l : ∀ k, (∀ y0 y1 y2 y3 y4, LeO (addon_Over.j0 k y0 y1 y2 y3 y4) (addon_Over.j0 (k + 1) y0 y1 y2 y3 y4))
  | 0 => fun _ _ _ _ _ r h => by simp [addon_Over.j0] at h
  | k + 1 => by
    have ih0 := addon_Over.mono_l k
    · intro y0 y1 y2 y3 y4
      unfold addon_Over.j0
      repeat' first
      | (with_reducible exact ih0 _ _ _ _ _)
      | (with_reducible exact LeO.refl _)
      | (with_reducible exact LeO.none _)
      | (with_reducible refine LeO.ite ?_ ?_)
      | (with_reducible refine LeO.bind ?_ (fun _ => ?_))
      | exact ih0 _ _ _ _ _
      | exact LeO.none _
      | refine LeO.ite ?_ ?_
      | refine LeO.bind ?_ (fun _ => ?_)
theorem addon_Over.mono : ∀ a0 a1 a2 a3 k, LeO (addon_Over.f k a0 a1 a2 a3) (addon_Over.f (k + 1) a0 a1 a2 a3) := by
  intro a0 a1 a2 a3 k
  have ih0 := addon_Over.mono_l k
  unfold addon_Over.f
  repeat' first
      | (with_reducible exact ih0 _ _ _ _ _)
      | (with_reducible exact LeO.refl _)
      | (with_reducible exact LeO.none _)
      | (with_reducible refine LeO.ite ?_ ?_)
      | (with_reducible refine LeO.bind ?_ (fun _ => ?_))
      | exact ih0 _ _ _ _ _
      | exact LeO.none _
      | refine LeO.ite ?_ ?_
      | refine LeO.bind ?_ (fun _ => ?_)
set_option maxHeartbeats 8000000 in
set_option maxRecDepth 100000 in
theorem addon_Over.calls (k : Nat) (a0 : Int) (a1 : Int) (a2 : Int) (a3 : Int) (r1 : Int) (r2 : Int) (w : World) (h : addon_Over.f k a0 a1 a2 a3 = some (r1, r2)) :
    Calls Try.prog 35 #[.int .i64 a0, .int .i64 a1, .int .i64 a2, .int .i64 a3] w fun e w' => e = .returned (.tuple #[.int .i64 r1, .int .i64 r2]) ∧ Below w.heap.size w w' := by
  have HB := Aside0.mk (Below.refl w.heap.size w)
  have H : ((addon_money.f a0).bind fun t347 => (if t347 = true then ((addon_money.f a1).bind fun t348 => (if t348 = true then ((addon_part.f a2).bind fun t349 => (if t349 = true then ((addon_part.f a3).bind fun t350 => (addon_Over.j0 k a0 a1 a2 a3 (!t350))) else (addon_Over.j0 k a0 a1 a2 a3 true))) else (addon_Over.j0 k a0 a1 a2 a3 true))) else (addon_Over.j0 k a0 a1 a2 a3 true))) = some (r1, r2) := h
  clear h
  have HC5 := Aside0.mk H
  clear H
  go_enter Try.func35, Try.ntmps35
  go_upto_region 1 with (fail)
  go_cut [29] (fun v29 wc => ∃ (kq : Nat) (x29_4 : Bool), v29 = .bool x29_4 ∧ Aside0 (addon_Over.j0 kq a0 a1 a2 a3 x29_4 = some (r1, r2)) ∧ Aside0 (kq ≤ k) ∧ Aside0 (Below w.heap.size w wc))
  case first =>
    have H := HC5.out
    clear HC5
    replace H := Option.bind_eq_some_iff.mp H
    obtain ⟨t347, A60, H⟩ := H
    replace H : (if t347 = true then ((addon_money.f a1).bind fun t348 => (if t348 = true then ((addon_part.f a2).bind fun t349 => (if t349 = true then ((addon_part.f a3).bind fun t350 => (addon_Over.j0 k a0 a1 a2 a3 (!t350))) else (addon_Over.j0 k a0 a1 a2 a3 true))) else (addon_Over.j0 k a0 a1 a2 a3 true))) else (addon_Over.j0 k a0 a1 a2 a3 true)) = some (r1, r2) := H
    have A6 := Aside0.mk A60
    clear A60
    by_cases c7 : t347 = true
    · subst c7
      have H1 : ((addon_money.f a1).bind fun t348 => (if t348 = true then ((addon_part.f a2).bind fun t349 => (if t349 = true then ((addon_part.f a3).bind fun t350 => (addon_Over.j0 k a0 a1 a2 a3 (!t350))) else (addon_Over.j0 k a0 a1 a2 a3 true))) else (addon_Over.j0 k a0 a1 a2 a3 true))) = some (r1, r2) := by rw [if_pos rfl] at H; exact H
      clear H
      have H := H1
      clear H1
      replace H := Option.bind_eq_some_iff.mp H
      obtain ⟨t348, A80, H⟩ := H
      replace H : (if t348 = true then ((addon_part.f a2).bind fun t349 => (if t349 = true then ((addon_part.f a3).bind fun t350 => (addon_Over.j0 k a0 a1 a2 a3 (!t350))) else (addon_Over.j0 k a0 a1 a2 a3 true))) else (addon_Over.j0 k a0 a1 a2 a3 true)) = some (r1, r2) := H
      have A8 := Aside0.mk A80
      clear A80
      by_cases c9 : t348 = true
      · subst c9
        have H1 : ((addon_part.f a2).bind fun t349 => (if t349 = true then ((addon_part.f a3).bind fun t350 => (addon_Over.j0 k a0 a1 a2 a3 (!t350))) else (addon_Over.j0 k a0 a1 a2 a3 true))) = some (r1, r2) := by rw [if_pos rfl] at H; exact H
        clear H
        have H := H1
        clear H1
        replace H := Option.bind_eq_some_iff.mp H
        obtain ⟨t349, A100, H⟩ := H
        replace H : (if t349 = true then ((addon_part.f a3).bind fun t350 => (addon_Over.j0 k a0 a1 a2 a3 (!t350))) else (addon_Over.j0 k a0 a1 a2 a3 true)) = some (r1, r2) := H
        have A10 := Aside0.mk A100
        clear A100
        by_cases c11 : t349 = true
        · subst c11
          have H1 : ((addon_part.f a3).bind fun t350 => (addon_Over.j0 k a0 a1 a2 a3 (!t350))) = some (r1, r2) := by rw [if_pos rfl] at H; exact H
          clear H
          have H := H1
          clear H1
          replace H := Option.bind_eq_some_iff.mp H
          obtain ⟨t350, A120, H⟩ := H
          replace H : (addon_Over.j0 k a0 a1 a2 a3 (!t350)) = some (r1, r2) := H
          have A12 := Aside0.mk A120
          clear A120
          have H' := Aside0.mk H
          clear H
          go_wp2_with (first | ((with_reducible refine gate_callee (f := 69) rfl ?_); refine goesL_ (some 13) rfl rfl Try.func69 (by kernel_rfl) rfl #[.int .i64 a0] rfl (by (try simp only [List.map_toArray, List.map_cons, List.map_nil]); first | done | rfl | (simp only [List.length_drop, List.length_take]; rfl)) ?_; (with_reducible refine (addon_money.calls a0 true _ A6.out).mono ?_); rintro e w' ⟨rfl, ⟨nd, rfl⟩⟩; refine ⟨_, rfl, ?_⟩) | (go_at_call 69; (with_reducible refine (addon_money.calls a1 true _ A8.out).mono ?_); rintro e w' ⟨rfl, ⟨nd, rfl⟩⟩) | (go_at_call 70; (with_reducible refine (addon_part.calls a2 true _ A10.out).mono ?_); rintro e w' ⟨rfl, ⟨nd, rfl⟩⟩) | (go_at_call 70; (with_reducible refine (addon_part.calls a3 t350 _ A12.out).mono ?_); rintro e w' ⟨rfl, ⟨nd, rfl⟩⟩))
          go_meet
          case rel => exact ⟨_, (!t350), (by first | rfl | (simp; done) | (simp [*]; done)), H', ⟨by first | omega | exact Nat.le_refl _⟩, ⟨by repeat (first | (with_reducible first | exact HB.out | apply below_alloc | apply pw_below_drewN | apply below_drew1) | exact HB.out)⟩⟩
        · replace c11 := Bool.eq_false_iff.mpr c11
          subst c11
          have H1 : (addon_Over.j0 k a0 a1 a2 a3 true) = some (r1, r2) := by rw [if_neg (show ¬ (false = true) by decide)] at H; exact H
          clear H
          have H := H1
          clear H1
          have H' := Aside0.mk H
          clear H
          go_wp2_with (first | ((with_reducible refine gate_callee (f := 69) rfl ?_); refine goesL_ (some 13) rfl rfl Try.func69 (by kernel_rfl) rfl #[.int .i64 a0] rfl (by (try simp only [List.map_toArray, List.map_cons, List.map_nil]); first | done | rfl | (simp only [List.length_drop, List.length_take]; rfl)) ?_; (with_reducible refine (addon_money.calls a0 true _ A6.out).mono ?_); rintro e w' ⟨rfl, ⟨nd, rfl⟩⟩; refine ⟨_, rfl, ?_⟩) | (go_at_call 69; (with_reducible refine (addon_money.calls a1 true _ A8.out).mono ?_); rintro e w' ⟨rfl, ⟨nd, rfl⟩⟩) | (go_at_call 70; (with_reducible refine (addon_part.calls a2 false _ A10.out).mono ?_); rintro e w' ⟨rfl, ⟨nd, rfl⟩⟩))
          go_meet
          case rel => exact ⟨_, (true), (by first | rfl | (simp; done) | (simp [*]; done)), H', ⟨by first | omega | exact Nat.le_refl _⟩, ⟨by repeat (first | (with_reducible first | exact HB.out | apply below_alloc | apply pw_below_drewN | apply below_drew1) | exact HB.out)⟩⟩
      · replace c9 := Bool.eq_false_iff.mpr c9
        subst c9
        have H1 : (addon_Over.j0 k a0 a1 a2 a3 true) = some (r1, r2) := by rw [if_neg (show ¬ (false = true) by decide)] at H; exact H
        clear H
        have H := H1
        clear H1
        have H' := Aside0.mk H
        clear H
        go_wp2_with (first | ((with_reducible refine gate_callee (f := 69) rfl ?_); refine goesL_ (some 13) rfl rfl Try.func69 (by kernel_rfl) rfl #[.int .i64 a0] rfl (by (try simp only [List.map_toArray, List.map_cons, List.map_nil]); first | done | rfl | (simp only [List.length_drop, List.length_take]; rfl)) ?_; (with_reducible refine (addon_money.calls a0 true _ A6.out).mono ?_); rintro e w' ⟨rfl, ⟨nd, rfl⟩⟩; refine ⟨_, rfl, ?_⟩) | (go_at_call 69; (with_reducible refine (addon_money.calls a1 false _ A8.out).mono ?_); rintro e w' ⟨rfl, ⟨nd, rfl⟩⟩))
        go_meet
        case rel => exact ⟨_, (true), (by first | rfl | (simp; done) | (simp [*]; done)), H', ⟨by first | omega | exact Nat.le_refl _⟩, ⟨by repeat (first | (with_reducible first | exact HB.out | apply below_alloc | apply pw_below_drewN | apply below_drew1) | exact HB.out)⟩⟩
    · replace c7 := Bool.eq_false_iff.mpr c7
      subst c7
      have H1 : (addon_Over.j0 k a0 a1 a2 a3 true) = some (r1, r2) := by rw [if_neg (show ¬ (false = true) by decide)] at H; exact H
      clear H
      have H := H1
      clear H1
      have H' := Aside0.mk H
      clear H
      go_wp2_with (first | ((with_reducible refine gate_callee (f := 69) rfl ?_); refine goesL_ (some 13) rfl rfl Try.func69 (by kernel_rfl) rfl #[.int .i64 a0] rfl (by (try simp only [List.map_toArray, List.map_cons, List.map_nil]); first | done | rfl | (simp only [List.length_drop, List.length_take]; rfl)) ?_; (with_reducible refine (addon_money.calls a0 false _ A6.out).mono ?_); rintro e w' ⟨rfl, ⟨nd, rfl⟩⟩; refine ⟨_, rfl, ?_⟩))
      go_meet
      case rel => exact ⟨_, (true), (by first | rfl | (simp; done) | (simp [*]; done)), H', ⟨by first | omega | exact Nat.le_refl _⟩, ⟨by repeat (first | (with_reducible first | exact HB.out | apply below_alloc | apply pw_below_drewN | apply below_drew1) | exact HB.out)⟩⟩
  case rest =>
    clear HC5
    try clear c1
    try clear p2
    try clear c3
    try clear c6
    try clear c7
    try clear c9
    try clear c11
    obtain ⟨kq, x29_4, rfl, HA, HJ4, HB⟩ := hcut
    cases kq with
    | zero => exact absurd HA.out (by simp [addon_Over.j0])
    | succ kj4 =>
      have H := HA.out
      clear HA
      simp only [addon_Over.j0] at H
      by_cases c13 : x29_4 = true
      · subst c13
        have H1 : (some (0, 2)) = some (r1, r2) := by rw [if_pos rfl] at H; exact H
        clear H
        have H := H1
        clear H1
        simp only [Option.some.injEq, Prod.mk.injEq] at H
        obtain ⟨rfl, rfl⟩ := H
        go_wp2
        go_ret2
        exact ⟨by first | rfl | (simp [errW_none, errW_some] <;> rfl) | (simp [*, errW_none, errW_some] <;> rfl), by repeat (first | (with_reducible first | exact HB.out | apply below_alloc | apply pw_below_drewN | apply below_drew1) | exact HB.out)⟩
      · replace c13 := Bool.eq_false_iff.mpr c13
        subst c13
        have H1 : ((cents_MulDiv.f a1 a2 1000 2).bind fun bt351 => (if a0 ≤ bt351.1 then (some (0, 0)) else ((cents_MulDiv.f (wrap64 (a0 - bt351.1)) a3 1000 2).bind fun bt353 => (some (bt353.1, bt353.2))))) = some (r1, r2) := by rw [if_neg (show ¬ (false = true) by decide)] at H; exact H
        clear H
        have H := H1
        clear H1
        replace H := Option.bind_eq_some_iff.mp H
        obtain ⟨⟨t351, t352⟩, A140, H⟩ := H
        replace H : (if a0 ≤ t351 then (some (0, 0)) else ((cents_MulDiv.f (wrap64 (a0 - t351)) a3 1000 2).bind fun bt353 => (some (bt353.1, bt353.2)))) = some (r1, r2) := H
        have A14 := Aside0.mk A140
        clear A140
        go_upto_if 38 with (first | ((with_reducible refine gate_callee (f := 55) rfl ?_); refine goesL_ (some 33) rfl rfl Try.func55 (by kernel_rfl) rfl #[.int .i64 a1, .int .i64 a2, .int .i64 1000, .int .i64 2] rfl (by (try simp only [List.map_toArray, List.map_cons, List.map_nil]); first | done | rfl | (simp only [List.length_drop, List.length_take]; rfl)) ?_; (with_reducible refine (cents_MulDiv.calls a1 a2 1000 2 t351 t352 _ A14.out).mono ?_); rintro e w15 ⟨rfl, hb⟩; refine ⟨_, rfl, ?_⟩; have n0_ := Aside0.mk (below_step (by repeat (first | (with_reducible first | exact HB.out | apply below_alloc | apply pw_below_drewN | apply below_drew1) | exact HB.out)) hb); clear HB; have HB := n0_; clear n0_; (try clear hb); (try clear hb2); (try clear hk); (try clear hi)))
        (try simp only [Act.put, List.setIfInBounds_toArray, List.set_cons_zero, List.set_cons_succ])
        by_cases c16 : a0 ≤ t351
        · rw [if_pos c16] at H
          have c16b0 : decide (a0 ≤ t351) = true := decide_eq_true c16
          clear c16
          (try simp only [c16b0])
          simp only [Option.some.injEq, Prod.mk.injEq] at H
          obtain ⟨rfl, rfl⟩ := H
          go_wp2
          go_ret2
          exact ⟨by first | rfl | (simp [errW_none, errW_some] <;> rfl) | (simp [*, errW_none, errW_some] <;> rfl), by repeat (first | (with_reducible first | exact HB.out | apply below_alloc | apply pw_below_drewN | apply below_drew1) | exact HB.out)⟩
        · rw [if_neg c16] at H
          have c16b0 : decide (a0 ≤ t351) = false := decide_eq_false c16
          clear c16
          (try simp only [c16b0])
          replace H := Option.bind_eq_some_iff.mp H
          obtain ⟨⟨t353, t354⟩, A170, H⟩ := H
          replace H : (some (t353, t354)) = some (r1, r2) := H
          have A17 := Aside0.mk A170
          clear A170
          simp only [Option.some.injEq, Prod.mk.injEq] at H
          obtain ⟨rfl, rfl⟩ := H
          go_wp2_with (first | ((with_reducible refine gate_callee (f := 55) rfl ?_); refine goesL_ (some 43) rfl rfl Try.func55 (by kernel_rfl) rfl #[.int .i64 (wrap64 (a0 - t351)), .int .i64 a3, .int .i64 1000, .int .i64 2] rfl (by (try simp only [List.map_toArray, List.map_cons, List.map_nil]); first | done | rfl | (simp only [List.length_drop, List.length_take]; rfl)) ?_; (with_reducible refine (cents_MulDiv.calls (wrap64 (a0 - t351)) a3 1000 2 t353 t354 _ A17.out).mono ?_); rintro e w18 ⟨rfl, hb⟩; refine ⟨_, rfl, ?_⟩; have n0_ := Aside0.mk (below_step (by repeat (first | (with_reducible first | exact HB.out | apply below_alloc | apply pw_below_drewN | apply below_drew1) | exact HB.out)) hb); clear HB; have HB := n0_; clear n0_; (try clear hb); (try clear hb2); (try clear hk); (try clear hi)))
          go_ret2
          exact ⟨by first | rfl | (simp [errW_none, errW_some] <;> rfl) | (simp [*, errW_none, errW_some] <;> rfl), by repeat (first | (with_reducible first | exact HB.out | apply below_alloc | apply pw_below_drewN | apply below_drew1) | exact HB.out)⟩
def contangoref01_quotient.l0 : Nat → Int → Int → Int → Int → Int → Int → Option (Int × Int)
  | 0, _, _, _, _, _, _ => none
  | k + 1, x0, x1, x2, x8, x9, x10 => if x10 ≥ 0 then (if 0 ≤ (IntKind.u64.wrap (x10)) then (if (Int.tmod (shr .i64 x0 (IntKind.u64.wrap (x10))) 2) = 1 then (if x2 = 0 then (none) else (if (wrap64 ((wrap64 (2 * x8)) + (wrap64 (Int.tdiv (wrap64 ((wrap64 (2 * x9)) + x1)) x2)))) > 2305843009213693952 then (contangoref01_quotient.l0 k x0 x1 x2 2305843009213693952 (Int.tmod (wrap64 ((wrap64 (2 * x9)) + x1)) x2) (wrap64 (x10 - 1))) else (contangoref01_quotient.l0 k x0 x1 x2 (wrap64 ((wrap64 (2 * x8)) + (wrap64 (Int.tdiv (wrap64 ((wrap64 (2 * x9)) + x1)) x2)))) (Int.tmod (wrap64 ((wrap64 (2 * x9)) + x1)) x2) (wrap64 (x10 - 1))))) else (if x2 = 0 then (none) else (if (wrap64 ((wrap64 (2 * x8)) + (wrap64 (Int.tdiv (wrap64 (2 * x9)) x2)))) > 2305843009213693952 then (contangoref01_quotient.l0 k x0 x1 x2 2305843009213693952 (Int.tmod (wrap64 (2 * x9)) x2) (wrap64 (x10 - 1))) else (contangoref01_quotient.l0 k x0 x1 x2 (wrap64 ((wrap64 (2 * x8)) + (wrap64 (Int.tdiv (wrap64 (2 * x9)) x2)))) (Int.tmod (wrap64 (2 * x9)) x2) (wrap64 (x10 - 1)))))) else (none)) else (some (x8, x9))
def contangoref01_quotient.f (k : Nat) (a0 : Int) (a1 : Int) (a2 : Int) : Option (Int × Int) := contangoref01_quotient.l0 k a0 a1 a2 0 0 60
theorem contangoref01_quotient.mono_l : ∀ k, (∀ y0 y1 y2 y3 y4 y5, LeO (contangoref01_quotient.l0 k y0 y1 y2 y3 y4 y5) (contangoref01_quotient.l0 (k + 1) y0 y1 y2 y3 y4 y5))
  | 0 => fun _ _ _ _ _ _ r h => by simp [contangoref01_quotient.l0] at h
  | k + 1 => by
    have ih0 := contangoref01_quotient.mono_l k
    · intro y0 y1 y2 y3 y4 y5
      unfold contangoref01_quotient.l0
      repeat' first
      | (with_reducible exact ih0 _ _ _ _ _ _)
      | (with_reducible exact LeO.refl _)
      | (with_reducible exact LeO.none _)
      | (with_reducible refine LeO.ite ?_ ?_)
      | (with_reducible refine LeO.bind ?_ (fun _ => ?_))
      | exact ih0 _ _ _ _ _ _
      | exact LeO.none _
      | refine LeO.ite ?_ ?_
      | refine LeO.bind ?_ (fun _ => ?_)
theorem contangoref01_quotient.mono : ∀ a0 a1 a2 k, LeO (contangoref01_quotient.f k a0 a1 a2) (contangoref01_quotient.f (k + 1) a0 a1 a2) := by
  intro a0 a1 a2 k
  have ih0 := contangoref01_quotient.mono_l k
  unfold contangoref01_quotient.f
  repeat' first
      | (with_reducible exact ih0 _ _ _ _ _ _)
      | (with_reducible exact LeO.refl _)
      | (with_reducible exact LeO.none _)
      | (with_reducible refine LeO.ite ?_ ?_)
      | (with_reducible refine LeO.bind ?_ (fun _ => ?_))
      | exact ih0 _ _ _ _ _ _
      | exact LeO.none _
      | refine LeO.ite ?_ ?_
      | refine LeO.bind ?_ (fun _ => ?_)
set_option maxHeartbeats 8000000 in
set_option maxRecDepth 100000 in
theorem contangoref01_quotient.calls (k : Nat) (a0 : Int) (a1 : Int) (a2 : Int) (r1 : Int) (r2 : Int) (w : World) (h : contangoref01_quotient.f k a0 a1 a2 = some (r1, r2)) :
    Calls Try.prog 96 #[.int .i64 a0, .int .i64 a1, .int .i64 a2] w fun e w' => e = .returned (.tuple #[.int .i64 r1, .int .i64 r2]) ∧ Drawn0 w w' := by
  have H : (contangoref01_quotient.l0 k a0 a1 a2 0 0 60) = some (r1, r2) := h
  clear h
  have H' := Aside0.mk H
  clear H
  go_enter Try.func96, Try.ntmps96
  go_wp2
  go_loopg [8, 9, 10] k (fun kq v8 v9 v10 w' => ∃ (x8_1 : Int) (x9_1 : Int) (x10_1 : Int), v8 = .int .i64 x8_1 ∧ v9 = .int .i64 x9_1 ∧ v10 = .int .i64 x10_1 ∧ Aside0 (contangoref01_quotient.l0 kq a0 a1 a2 x8_1 x9_1 x10_1 = some (r1, r2)) ∧ Aside0 (kq ≤ k) ∧ Drawn0 w w')
  case atStart => exact ⟨(0), (0), (60), (by first | rfl | (simp; done) | (simp [*]; done)), (by first | rfl | (simp; done) | (simp [*]; done)), (by first | rfl | (simp; done) | (simp [*]; done)), H', ⟨Nat.le_refl _⟩, by repeat (first | exact Drawn0.refl _ | apply Drawn0.step)⟩
  case round =>
    clear H'
    try clear p2
    obtain ⟨x8_1, x9_1, x10_1, rfl, rfl, rfl, HA, HK1, ⟨m1, rfl⟩⟩ := hrel
    cases gk with
    | zero => exact absurd HA.out (by simp [contangoref01_quotient.l0])
    | succ k1 =>
      have H := HA.out
      clear HA
      simp only [contangoref01_quotient.l0] at H
      by_cases c4 : x10_1 ≥ 0
      · rw [if_pos c4] at H
        have c4b0 : decide (0 ≤ x10_1) = true := decide_eq_true c4
        clear c4
        (try simp only [c4b0])
        obtain ⟨ji5, hji5⟩ : ∃ j_ : Int, (IntKind.u64.wrap (x10_1)) = j_ := ⟨_, rfl⟩
        replace H : (if 0 ≤ (ji5) then (if (Int.tmod (shr .i64 a0 (ji5)) 2) = 1 then (if a2 = 0 then (none) else (if (wrap64 ((wrap64 (2 * x8_1)) + (wrap64 (Int.tdiv (wrap64 ((wrap64 (2 * x9_1)) + a1)) a2)))) > 2305843009213693952 then (contangoref01_quotient.l0 k1 a0 a1 a2 2305843009213693952 (Int.tmod (wrap64 ((wrap64 (2 * x9_1)) + a1)) a2) (wrap64 (x10_1 - 1))) else (contangoref01_quotient.l0 k1 a0 a1 a2 (wrap64 ((wrap64 (2 * x8_1)) + (wrap64 (Int.tdiv (wrap64 ((wrap64 (2 * x9_1)) + a1)) a2)))) (Int.tmod (wrap64 ((wrap64 (2 * x9_1)) + a1)) a2) (wrap64 (x10_1 - 1))))) else (if a2 = 0 then (none) else (if (wrap64 ((wrap64 (2 * x8_1)) + (wrap64 (Int.tdiv (wrap64 (2 * x9_1)) a2)))) > 2305843009213693952 then (contangoref01_quotient.l0 k1 a0 a1 a2 2305843009213693952 (Int.tmod (wrap64 (2 * x9_1)) a2) (wrap64 (x10_1 - 1))) else (contangoref01_quotient.l0 k1 a0 a1 a2 (wrap64 ((wrap64 (2 * x8_1)) + (wrap64 (Int.tdiv (wrap64 (2 * x9_1)) a2)))) (Int.tmod (wrap64 (2 * x9_1)) a2) (wrap64 (x10_1 - 1)))))) else (none)) = some (r1, r2) := by first | (rw [hji5] at H; exact H) | (simp only [hji5] at H ⊢; exact H)
        by_cases c6 : 0 ≤ (ji5)
        · rw [if_pos c6] at H
          have c6b0 := eq_true c6
          have c6b1 : decide (0 ≤ (ji5)) = true := decide_eq_true c6
          clear c6
          obtain ⟨ji7, hji7⟩ : ∃ j_ : Int, (shr .i64 a0 (ji5)) = j_ := ⟨_, rfl⟩
          replace H : (if (Int.tmod (ji7) 2) = 1 then (if a2 = 0 then (none) else (if (wrap64 ((wrap64 (2 * x8_1)) + (wrap64 (Int.tdiv (wrap64 ((wrap64 (2 * x9_1)) + a1)) a2)))) > 2305843009213693952 then (contangoref01_quotient.l0 k1 a0 a1 a2 2305843009213693952 (Int.tmod (wrap64 ((wrap64 (2 * x9_1)) + a1)) a2) (wrap64 (x10_1 - 1))) else (contangoref01_quotient.l0 k1 a0 a1 a2 (wrap64 ((wrap64 (2 * x8_1)) + (wrap64 (Int.tdiv (wrap64 ((wrap64 (2 * x9_1)) + a1)) a2)))) (Int.tmod (wrap64 ((wrap64 (2 * x9_1)) + a1)) a2) (wrap64 (x10_1 - 1))))) else (if a2 = 0 then (none) else (if (wrap64 ((wrap64 (2 * x8_1)) + (wrap64 (Int.tdiv (wrap64 (2 * x9_1)) a2)))) > 2305843009213693952 then (contangoref01_quotient.l0 k1 a0 a1 a2 2305843009213693952 (Int.tmod (wrap64 (2 * x9_1)) a2) (wrap64 (x10_1 - 1))) else (contangoref01_quotient.l0 k1 a0 a1 a2 (wrap64 ((wrap64 (2 * x8_1)) + (wrap64 (Int.tdiv (wrap64 (2 * x9_1)) a2)))) (Int.tmod (wrap64 (2 * x9_1)) a2) (wrap64 (x10_1 - 1)))))) = some (r1, r2) := by first | (rw [hji7] at H; exact H) | (simp only [hji7] at H ⊢; exact H)
          have hji7_ : (a0 / 2 ^ min (ji5).toNat 64) = ji7 := hji7
          have hji7z : (ji5) ≤ 64 → (a0 / 2 ^ (ji5).toNat) = ji7 := shr_small hji7
          by_cases c8 : (Int.tmod (ji7) 2) = 1
          · rw [if_pos c8] at H
            have c8b0 : ((Int.tmod (ji7) 2) == 1) = true := beq_iff_eq.mpr c8
            have c8b1 : ((Int.tmod (ji7) 2) != 1) = false := bne_eq_false_iff_eq.mpr c8
            clear c8
            (try simp only [c8b0, c8b1])
            by_cases c9 : a2 = 0
            · rw [if_pos c9] at H
              exact absurd H (by simp)
            · rw [if_neg c9] at H
              have c9b0 : (a2 == 0) = false := beq_eq_false_iff_ne.mpr c9
              have c9b1 : (a2 != 0) = true := bne_iff_ne.mpr c9
              by_cases c10 : (wrap64 ((wrap64 (2 * x8_1)) + (wrap64 (Int.tdiv (wrap64 ((wrap64 (2 * x9_1)) + a1)) a2)))) > 2305843009213693952
              · rw [if_pos c10] at H
                have c10b0 : decide (2305843009213693952 < (wrap64 ((wrap64 (2 * x8_1)) + (wrap64 (Int.tdiv (wrap64 ((wrap64 (2 * x9_1)) + a1)) a2))))) = true := decide_eq_true c10
                clear c10
                (try simp only [c10b0])
                have H' := Aside0.mk H
                clear H
                go_wp2
                go_roundg k1
                case measure => have := HK1.out; omega
                case rel => exact ⟨(2305843009213693952), (Int.tmod (wrap64 ((wrap64 (2 * x9_1)) + a1)) a2), (wrap64 (x10_1 - 1)), (by first | rfl | (simp; done) | (simp [*]; done)), (by first | rfl | (simp; done) | (simp [*]; done)), (by first | rfl | (simp; done) | (simp [*]; done)), H', ⟨by have := HK1.out; omega⟩, by repeat (first | exact Drawn0.refl _ | apply Drawn0.step)⟩
              · rw [if_neg c10] at H
                have c10b0 : decide (2305843009213693952 < (wrap64 ((wrap64 (2 * x8_1)) + (wrap64 (Int.tdiv (wrap64 ((wrap64 (2 * x9_1)) + a1)) a2))))) = false := decide_eq_false c10
                clear c10
                (try simp only [c10b0])
                have H' := Aside0.mk H
                clear H
                go_wp2
                go_roundg k1
                case measure => have := HK1.out; omega
                case rel => exact ⟨(wrap64 ((wrap64 (2 * x8_1)) + (wrap64 (Int.tdiv (wrap64 ((wrap64 (2 * x9_1)) + a1)) a2)))), (Int.tmod (wrap64 ((wrap64 (2 * x9_1)) + a1)) a2), (wrap64 (x10_1 - 1)), (by first | rfl | (simp; done) | (simp [*]; done)), (by first | rfl | (simp; done) | (simp [*]; done)), (by first | rfl | (simp; done) | (simp [*]; done)), H', ⟨by have := HK1.out; omega⟩, by repeat (first | exact Drawn0.refl _ | apply Drawn0.step)⟩
          · rw [if_neg c8] at H
            have c8b0 : ((Int.tmod (ji7) 2) == 1) = false := beq_eq_false_iff_ne.mpr c8
            have c8b1 : ((Int.tmod (ji7) 2) != 1) = true := bne_iff_ne.mpr c8
            (try simp only [c8b0, c8b1])
            by_cases c11 : a2 = 0
            · rw [if_pos c11] at H
              exact absurd H (by simp)
            · rw [if_neg c11] at H
              have c11b0 : (a2 == 0) = false := beq_eq_false_iff_ne.mpr c11
              have c11b1 : (a2 != 0) = true := bne_iff_ne.mpr c11
              by_cases c12 : (wrap64 ((wrap64 (2 * x8_1)) + (wrap64 (Int.tdiv (wrap64 (2 * x9_1)) a2)))) > 2305843009213693952
              · rw [if_pos c12] at H
                have c12b0 : decide (2305843009213693952 < (wrap64 ((wrap64 (2 * x8_1)) + (wrap64 (Int.tdiv (wrap64 (2 * x9_1)) a2))))) = true := decide_eq_true c12
                clear c12
                (try simp only [c12b0])
                have H' := Aside0.mk H
                clear H
                go_wp2
                go_roundg k1
                case measure => have := HK1.out; omega
                case rel => exact ⟨(2305843009213693952), (Int.tmod (wrap64 (2 * x9_1)) a2), (wrap64 (x10_1 - 1)), (by first | rfl | (simp; done) | (simp [*]; done)), (by first | rfl | (simp; done) | (simp [*]; done)), (by first | rfl | (simp; done) | (simp [*]; done)), H', ⟨by have := HK1.out; omega⟩, by repeat (first | exact Drawn0.refl _ | apply Drawn0.step)⟩
              · rw [if_neg c12] at H
                have c12b0 : decide (2305843009213693952 < (wrap64 ((wrap64 (2 * x8_1)) + (wrap64 (Int.tdiv (wrap64 (2 * x9_1)) a2))))) = false := decide_eq_false c12
                clear c12
                (try simp only [c12b0])
                have H' := Aside0.mk H
                clear H
                go_wp2
                go_roundg k1
                case measure => have := HK1.out; omega
                case rel => exact ⟨(wrap64 ((wrap64 (2 * x8_1)) + (wrap64 (Int.tdiv (wrap64 (2 * x9_1)) a2)))), (Int.tmod (wrap64 (2 * x9_1)) a2), (wrap64 (x10_1 - 1)), (by first | rfl | (simp; done) | (simp [*]; done)), (by first | rfl | (simp; done) | (simp [*]; done)), (by first | rfl | (simp; done) | (simp [*]; done)), H', ⟨by have := HK1.out; omega⟩, by repeat (first | exact Drawn0.refl _ | apply Drawn0.step)⟩
        · rw [if_neg c6] at H
          exact absurd H (by simp)
      · rw [if_neg c4] at H
        have c4b0 : decide (0 ≤ x10_1) = false := decide_eq_false c4
        clear c4
        (try simp only [c4b0])
        simp only [Option.some.injEq, Prod.mk.injEq] at H
        obtain ⟨rfl, rfl⟩ := H
        go_wp2
        go_ret2
        exact ⟨by first | rfl | (simp; done) | (simp [*]; done), by repeat (first | exact Drawn0.refl _ | apply Drawn0.step)⟩
theorem quo_dbl (N c x : Int) (hc : 0 < c) : (2 * N + x) / c = 2 * (N / c) + (2 * (N % c) + x) / c ∧ (2 * N + x) % c = (2 * (N % c) + x) % c := by
  have h := Int.mul_ediv_add_emod N c
  have e : 2 * N + x = (2 * (N % c) + x) + c * (2 * (N / c)) := by grind
  rw [e]
  exact ⟨by rw [Int.add_mul_ediv_left _ _ (by omega)]; omega, by rw [Int.add_mul_emod_self_left]⟩
theorem quo_cap (Q s q : Int) (hQ : 0 ≤ Q) (hs : 0 ≤ s) (hs' : s ≤ 2305843009213693952) (hq : q = if Q ≤ 2305843009213693952 then Q else 2305843009213693952) :
    (if wrap64 (wrap64 (2 * q) + wrap64 s) > 2305843009213693952 then 2305843009213693952 else wrap64 (wrap64 (2 * q) + wrap64 s)) = if 2 * Q + s ≤ 2305843009213693952 then 2 * Q + s else 2305843009213693952 := by
  unfold wrap64
  subst hq
  split <;> split <;> split <;> omega
theorem quo_loop (a b c : Int) (ha : 0 ≤ a) (ha' : a ≤ 1152921504606846976) (hb : 0 ≤ b) (hb' : b ≤ 1152921504606846976) (hc : 0 < c) (hc' : c ≤ 1152921504606846976) :
    ∀ (n : Nat) (k : Nat) (q r : Int), n ≤ 61 → n < k → q = (if a / 2 ^ n * b / c ≤ 2305843009213693952 then a / 2 ^ n * b / c else 2305843009213693952) → r = a / 2 ^ n * b % c →
      contangoref01_quotient.l0 k a b c q r ((n : Int) - 1) = some (if a * b / c ≤ 2305843009213693952 then a * b / c else 2305843009213693952, a * b % c) := by
  intro n
  induction n with
  | zero =>
    intro k q r _ hk hq hr
    obtain ⟨k, rfl⟩ : ∃ m, k = m + 1 := ⟨k - 1, by omega⟩
    simp only [contangoref01_quotient.l0]
    rw [if_neg (by omega), hq, hr]
    simp
  | succ n ih =>
    intro k q r hn hk hq hr
    obtain ⟨k, rfl⟩ : ∃ m, k = m + 1 := ⟨k - 1, by omega⟩
    have e0 : ((n + 1 : Nat) : Int) - 1 = (n : Int) := by omega
    have w0 : IntKind.u64.wrap (n : Int) = (n : Int) := by rw [IntKind.wrap_u64]; omega
    have hp : (0 : Int) < 2 ^ n := Int.pow_pos (by omega)
    have hA : 0 ≤ a / 2 ^ n := Int.ediv_nonneg ha (by omega)
    have hA2 : a / 2 ^ (n + 1) = a / 2 ^ n / 2 := by
      rw [Int.pow_succ, Int.ediv_ediv_of_nonneg (by omega)]
    have hAle : a / 2 ^ n ≤ a := Int.ediv_le_self _ ha
    have esh : shr .i64 a (n : Int) = a / 2 ^ n := by
      unfold shr
      rw [Int.toNat_natCast, Nat.min_eq_left (show n ≤ IntKind.i64.bits by show n ≤ 64; omega)]
    have hr0 := Int.emod_nonneg (a / 2 ^ (n + 1) * b) (b := c) (by omega)
    have hr1 := Int.emod_lt_of_pos (a / 2 ^ (n + 1) * b) hc
    have hQ0 : 0 ≤ a / 2 ^ (n + 1) * b / c := Int.ediv_nonneg (Int.mul_nonneg (by rw [hA2]; omega) hb) (by omega)
    generalize hA' : a / 2 ^ n = A at *
    generalize hN : a / 2 ^ (n + 1) * b = N at *
    have wr : wrap64 (2 * r) = 2 * r := by unfold wrap64; omega
    have wrb : wrap64 (wrap64 (2 * r) + b) = 2 * r + b := by unfold wrap64; omega
    have wn : wrap64 ((n : Int) - 1) = (n : Int) - 1 := by unfold wrap64; omega
    have step : ∀ x : Int, 0 ≤ x → x ≤ 1152921504606846976 → A * b = 2 * N + x → 
        (if wrap64 (wrap64 (2 * q) + wrap64 ((2 * r + x) / c)) > 2305843009213693952 then contangoref01_quotient.l0 k a b c 2305843009213693952 ((2 * r + x) % c) ((n : Int) - 1)
         else contangoref01_quotient.l0 k a b c (wrap64 (wrap64 (2 * q) + wrap64 ((2 * r + x) / c))) ((2 * r + x) % c) ((n : Int) - 1)) = some (if a * b / c ≤ 2305843009213693952 then a * b / c else 2305843009213693952, a * b % c) := by
      intro x hx0 hx1 hx
      obtain ⟨d1, d2⟩ := quo_dbl N c x hc
      rw [← hr] at d1 d2
      have s0 : 0 ≤ (2 * r + x) / c := Int.ediv_nonneg (by omega) (by omega)
      have s1 : (2 * r + x) / c ≤ 2305843009213693952 := by
        have : (2 * r + x) / c < 2305843009213693953 := (Int.ediv_lt_iff_lt_mul hc).2 (by omega)
        omega
      have cap := quo_cap (N / c) ((2 * r + x) / c) q hQ0 s0 s1 hq
      rw [← d1, ← hx] at cap
      rw [← hx] at d2
      have := ih k (if wrap64 (wrap64 (2 * q) + wrap64 ((2 * r + x) / c)) > 2305843009213693952 then 2305843009213693952 else wrap64 (wrap64 (2 * q) + wrap64 ((2 * r + x) / c))) ((2 * r + x) % c) (by omega) (by omega) cap d2.symm
      split at this
      · rw [if_pos (by assumption)]; exact this
      · rw [if_neg (by assumption)]; exact this
    simp only [contangoref01_quotient.l0]
    rw [e0, if_pos (by omega), w0, if_pos (by omega), esh, Int.tmod_eq_emod_of_nonneg hA, if_neg (show ¬ c = 0 by omega), if_neg (show ¬ c = 0 by omega), wrb, wr, wn]
    rw [Int.tdiv_eq_ediv_of_nonneg (show 0 ≤ 2 * r + b by omega), Int.tmod_eq_emod_of_nonneg (show 0 ≤ 2 * r + b by omega), Int.tdiv_eq_ediv_of_nonneg (show 0 ≤ 2 * r by omega), Int.tmod_eq_emod_of_nonneg (show 0 ≤ 2 * r by omega)]
    by_cases hbit : A % 2 = 1
    · rw [if_pos hbit]
      refine step b hb hb' ?_
      rw [← hN, hA2]
      have : A = 2 * (A / 2) + 1 := by omega
      grind
    · rw [if_neg hbit]
      have := step 0 (by omega) (by omega) (by
        rw [← hN, hA2]
        have : A = 2 * (A / 2) := by omega
        grind)
      rw [Int.add_zero] at this
      exact this
theorem contangoref01_quotient.eq (a b c : Int) (ha : 0 ≤ a) (ha' : a ≤ 1152921504606846976) (hb : 0 ≤ b) (hb' : b ≤ 1152921504606846976) (hc : 0 < c) (hc' : c ≤ 1152921504606846976) (k : Nat) (hk : 70 ≤ k) :
    contangoref01_quotient.f k a b c = some (if a * b / c ≤ 2305843009213693952 then a * b / c else 2305843009213693952, a * b % c) := by
  unfold contangoref01_quotient.f
  have h0 : a / 2 ^ 61 = 0 := Int.ediv_eq_zero_of_lt ha (by omega)
  exact quo_loop a b c ha ha' hb hb' hc hc' 61 k 0 0 (by omega) (by omega) (by rw [h0]; simp) (by rw [h0]; simp)
def contangoref01_away.f (a0 : Int) (a1 : Int) (a2 : Int) (a3 : Int) (a4 : Bool) : Option (Bool) := if a3 = 2 then (some true) else (if a3 = 3 then (some a4) else (if a3 = 4 then (some (!a4)) else (if a3 = 5 then (if a1 > (wrap64 (a2 - a1)) then (some true) else (if a1 = (wrap64 (a2 - a1)) then (some ((Int.tmod a0 2) == 1)) else (some false))) else (some false))))
set_option maxHeartbeats 8000000 in
set_option maxRecDepth 100000 in
theorem contangoref01_away.calls (a0 : Int) (a1 : Int) (a2 : Int) (a3 : Int) (a4 : Bool) (r : Bool) (w : World) (h : contangoref01_away.f a0 a1 a2 a3 a4 = some r) :
    Calls Try.prog 97 #[.int .i64 a0, .int .i64 a1, .int .i64 a2, .int .i64 a3, .bool a4] w fun e w' => e = .returned (.bool r) ∧ Drawn0 w w' := by
  have H : (if a3 = 2 then (some true) else (if a3 = 3 then (some a4) else (if a3 = 4 then (some (!a4)) else (if a3 = 5 then (if a1 > (wrap64 (a2 - a1)) then (some true) else (if a1 = (wrap64 (a2 - a1)) then (some ((Int.tmod a0 2) == 1)) else (some false))) else (some false))))) = some r := h
  clear h
  by_cases c6 : a3 = 2
  · rw [if_pos c6] at H
    have c6b0 : (a3 == 2) = true := beq_iff_eq.mpr c6
    have c6b1 : (a3 != 2) = false := bne_eq_false_iff_eq.mpr c6
    clear c6
    obtain rfl := Option.some.inj H
    go_enter Try.func97, Try.ntmps97
    go_wp2
    go_ret
    exact ⟨by first | rfl | (simp; done) | (simp [*]; done), by repeat (first | exact Drawn0.refl _ | apply Drawn0.step)⟩
  · rw [if_neg c6] at H
    have c6b0 : (a3 == 2) = false := beq_eq_false_iff_ne.mpr c6
    have c6b1 : (a3 != 2) = true := bne_iff_ne.mpr c6
    by_cases c7 : a3 = 3
    · rw [if_pos c7] at H
      have c7b0 : (a3 == 3) = true := beq_iff_eq.mpr c7
      have c7b1 : (a3 != 3) = false := bne_eq_false_iff_eq.mpr c7
      clear c7
      obtain rfl := Option.some.inj H
      go_enter Try.func97, Try.ntmps97
      go_wp2
      go_ret
      exact ⟨by first | rfl | (simp; done) | (simp [*]; done), by repeat (first | exact Drawn0.refl _ | apply Drawn0.step)⟩
    · rw [if_neg c7] at H
      have c7b0 : (a3 == 3) = false := beq_eq_false_iff_ne.mpr c7
      have c7b1 : (a3 != 3) = true := bne_iff_ne.mpr c7
      by_cases c8 : a3 = 4
      · rw [if_pos c8] at H
        have c8b0 : (a3 == 4) = true := beq_iff_eq.mpr c8
        have c8b1 : (a3 != 4) = false := bne_eq_false_iff_eq.mpr c8
        clear c8
        obtain rfl := Option.some.inj H
        go_enter Try.func97, Try.ntmps97
        go_wp2
        go_ret
        exact ⟨by first | rfl | (simp; done) | (simp [*]; done), by repeat (first | exact Drawn0.refl _ | apply Drawn0.step)⟩
      · rw [if_neg c8] at H
        have c8b0 : (a3 == 4) = false := beq_eq_false_iff_ne.mpr c8
        have c8b1 : (a3 != 4) = true := bne_iff_ne.mpr c8
        by_cases c9 : a3 = 5
        · rw [if_pos c9] at H
          have c9b0 : (a3 == 5) = true := beq_iff_eq.mpr c9
          have c9b1 : (a3 != 5) = false := bne_eq_false_iff_eq.mpr c9
          clear c9
          by_cases c10 : a1 > (wrap64 (a2 - a1))
          · rw [if_pos c10] at H
            have c10b0 : decide ((wrap64 (a2 - a1)) < a1) = true := decide_eq_true c10
            clear c10
            obtain rfl := Option.some.inj H
            go_enter Try.func97, Try.ntmps97
            go_wp2
            go_ret
            exact ⟨by first | rfl | (simp; done) | (simp [*]; done), by repeat (first | exact Drawn0.refl _ | apply Drawn0.step)⟩
          · rw [if_neg c10] at H
            have c10b0 : decide ((wrap64 (a2 - a1)) < a1) = false := decide_eq_false c10
            clear c10
            by_cases c11 : a1 = (wrap64 (a2 - a1))
            · rw [if_pos c11] at H
              have c11b0 : (a1 == (wrap64 (a2 - a1))) = true := beq_iff_eq.mpr c11
              have c11b1 : (a1 != (wrap64 (a2 - a1))) = false := bne_eq_false_iff_eq.mpr c11
              clear c11
              obtain rfl := Option.some.inj H
              go_enter Try.func97, Try.ntmps97
              go_wp2
              go_ret
              exact ⟨by first | rfl | (simp; done) | (simp [*]; done), by repeat (first | exact Drawn0.refl _ | apply Drawn0.step)⟩
            · rw [if_neg c11] at H
              have c11b0 : (a1 == (wrap64 (a2 - a1))) = false := beq_eq_false_iff_ne.mpr c11
              have c11b1 : (a1 != (wrap64 (a2 - a1))) = true := bne_iff_ne.mpr c11
              obtain rfl := Option.some.inj H
              go_enter Try.func97, Try.ntmps97
              go_wp2
              go_ret
              exact ⟨by first | rfl | (simp; done) | (simp [*]; done), by repeat (first | exact Drawn0.refl _ | apply Drawn0.step)⟩
        · rw [if_neg c9] at H
          have c9b0 : (a3 == 5) = false := beq_eq_false_iff_ne.mpr c9
          have c9b1 : (a3 != 5) = true := bne_iff_ne.mpr c9
          obtain rfl := Option.some.inj H
          go_enter Try.func97, Try.ntmps97
          go_wp2
          go_ret
          exact ⟨by first | rfl | (simp; done) | (simp [*]; done), by repeat (first | exact Drawn0.refl _ | apply Drawn0.step)⟩
set_option maxHeartbeats 4000000 in
set_option maxRecDepth 100000 in
theorem contangoref01_MulDiv.bad (a0 a1 a2 a3 : Int) (w : World) (h : ¬ (mdFits a0 ∧ mdFits a1 ∧ mdFits a2 ∧ 1 ≤ a3 ∧ a3 ≤ 5)) :
    Calls Try.prog 57 #[.int .i64 a0, .int .i64 a1, .int .i64 a2, .int .i64 a3] w fun e w' => e = .returned (.tuple #[.int .i64 0, .int .i64 2]) ∧ w' = w := by
  rcases md_bad_cases a0 a1 a2 a3 h with h1 | h1 | ⟨⟨h1, h2⟩, h3⟩ | ⟨⟨h1, h2⟩, h3⟩ | ⟨⟨h1, h2⟩, ⟨h3, h4⟩, h5⟩ | ⟨⟨h1, h2⟩, ⟨h3, h4⟩, h5⟩ | ⟨⟨h1, h2⟩, ⟨h3, h4⟩, ⟨h5, h6⟩, h7⟩ | ⟨⟨h1, h2⟩, ⟨h3, h4⟩, ⟨h5, h6⟩, h7⟩
  all_goals
    clear h
    go_enter Try.func57, Try.ntmps57
    go_wp2
    go_ret2
    exact ⟨rfl, rfl⟩
set_option maxHeartbeats 4000000 in
set_option maxRecDepth 100000 in
theorem contangoref01_MulDiv.z (a0 a1 a2 a3 : Int) (w : World) (h1 : -1152921504606846976 ≤ a0) (h2 : a0 ≤ 1152921504606846976) (h3 : -1152921504606846976 ≤ a1) (h4 : a1 ≤ 1152921504606846976)
    (h5 : -1152921504606846976 ≤ a2) (h6 : a2 ≤ 1152921504606846976) (hc : (a2 == 0) = true) (m1 : 1 ≤ a3) (m2 : a3 ≤ 5) :
    Calls Try.prog 57 #[.int .i64 a0, .int .i64 a1, .int .i64 a2, .int .i64 a3] w fun e w' => e = .returned (.tuple #[.int .i64 0, .int .i64 4]) ∧ Below w.heap.size w w' := by
  go_enter Try.func57, Try.ntmps57
  go_wp2_with (go_at_call 90; go_in)
  go_ret2
  exact ⟨rfl, Below.refl _ _⟩
theorem rsize_eq (a : Int) (h1 : -1152921504606846976 ≤ a) : contangoref01_size.f a = some (a.natAbs : Int) := by
  unfold contangoref01_size.f wrap64
  split <;> (congr 1; omega)
/-- What the reference makes of quotient and rest. -/
def rmQ (Q R : Int) (av : Bool) : Int := if 0 < R ∧ av = true then Q + 1 else Q
def rmRes (q : Int) (bl : Bool) : Int × Int := if 1152921504606846976 < q then (0, 3) else (if bl = true then -q else q, 0)
theorem rm_end {q n er : Int} {bl : Bool} (h : rmRes q bl = (n, er)) : Ending.returned (.tuple #[.int .i64 n, .int .i64 er]) = .returned (.tuple #[.int .i64 (rmRes q bl).1, .int .i64 (rmRes q bl).2]) := by rw [h]
set_option maxHeartbeats 4000000 in
set_option maxRecDepth 100000 in
theorem contangoref01_MulDiv.main (a0 a1 a2 a3 : Int) (w : World) (h1 : -1152921504606846976 ≤ a0) (h2 : a0 ≤ 1152921504606846976) (h3 : -1152921504606846976 ≤ a1) (h4 : a1 ≤ 1152921504606846976)
    (h5 : -1152921504606846976 ≤ a2) (h6 : a2 ≤ 1152921504606846976) (hc : (a2 == 0) = false) (m1 : 1 ≤ a3) (m2 : a3 ≤ 5) (Q R : Int) (bl av : Bool)
    (fb : (!((!(decide (a0 < 0) == decide (a1 < 0))) == decide (a2 < 0))) = bl) (hQ : Aside0 (contangoref01_quotient.f 70 a0.natAbs a1.natAbs a2.natAbs = some (Q, R)))
    (hav : Aside0 (contangoref01_away.f Q R a2.natAbs a3 bl = some av)) (hQ0 : 0 ≤ Q) (hQ1 : Q ≤ 2305843009213693952) :
    Calls Try.prog 57 #[.int .i64 a0, .int .i64 a1, .int .i64 a2, .int .i64 a3] w fun e w' => e = .returned (.tuple #[.int .i64 (rmRes (rmQ Q R av) bl).1, .int .i64 (rmRes (rmQ Q R av) bl).2]) ∧ Below w.heap.size w w' := by
  by_cases hR : 0 < R
  · cases av
    · have eq : rmQ Q R false = Q := by unfold rmQ; rw [if_neg (by simp)]
      rw [eq]; clear eq
      go_enter Try.func57, Try.ntmps57
      go_wp2_with (first | (go_at_call 90; go_in) | (go_at_call 91; refine (contangoref01_size.calls _ _ _ (rsize_eq _ (by omega))).mono ?_; rintro e w1 ⟨rfl, ⟨nd, rfl⟩⟩) | (go_at_call 96; refine (contangoref01_quotient.calls 70 _ _ _ _ _ _ hQ.out).mono ?_; rintro e w1 ⟨rfl, ⟨nd, rfl⟩⟩) | (go_at_call 97; refine (contangoref01_away.calls _ _ _ _ _ _ _ hav.out).mono ?_; rintro e w1 ⟨rfl, ⟨nd, rfl⟩⟩))
      all_goals go_ret2
      all_goals refine ⟨rm_end ?_, by repeat (first | exact Below.refl _ _ | apply pw_below_drewN | apply below_drew)⟩
      all_goals go_light
      · exact if_pos (by omega)
      · exact (if_neg (by omega)).trans (by rw [if_pos (by first | rfl | assumption)])
      · exact (if_neg (by omega)).trans (by rw [if_neg (by first | (simp; done) | (simp; assumption))])
    · have eq : rmQ Q R true = Q + 1 := by unfold rmQ; rw [if_pos ⟨hR, rfl⟩]
      rw [eq]; clear eq
      go_enter Try.func57, Try.ntmps57
      go_wp2_with (first | (go_at_call 90; go_in) | (go_at_call 91; refine (contangoref01_size.calls _ _ _ (rsize_eq _ (by omega))).mono ?_; rintro e w1 ⟨rfl, ⟨nd, rfl⟩⟩) | (go_at_call 96; refine (contangoref01_quotient.calls 70 _ _ _ _ _ _ hQ.out).mono ?_; rintro e w1 ⟨rfl, ⟨nd, rfl⟩⟩) | (go_at_call 97; refine (contangoref01_away.calls _ _ _ _ _ _ _ hav.out).mono ?_; rintro e w1 ⟨rfl, ⟨nd, rfl⟩⟩))
      all_goals go_ret2
      all_goals refine ⟨rm_end ?_, by repeat (first | exact Below.refl _ _ | apply pw_below_drewN | apply below_drew)⟩
      all_goals go_light
      · exact if_pos (by omega)
      · exact (if_neg (by omega)).trans (by rw [if_pos (by first | rfl | assumption)])
      · exact (if_neg (by omega)).trans (by rw [if_neg (by first | (simp; done) | (simp; assumption))])
  · have eq : rmQ Q R av = Q := by unfold rmQ; rw [if_neg (fun h => hR h.1)]
    rw [eq]; clear eq
    have hR' : R ≤ 0 := by omega
    clear hR
    go_enter Try.func57, Try.ntmps57
    go_wp2_with (first | (go_at_call 90; go_in) | (go_at_call 91; refine (contangoref01_size.calls _ _ _ (rsize_eq _ (by omega))).mono ?_; rintro e w1 ⟨rfl, ⟨nd, rfl⟩⟩) | (go_at_call 96; refine (contangoref01_quotient.calls 70 _ _ _ _ _ _ hQ.out).mono ?_; rintro e w1 ⟨rfl, ⟨nd, rfl⟩⟩) | (go_at_call 97; refine (contangoref01_away.calls _ _ _ _ _ _ _ hav.out).mono ?_; rintro e w1 ⟨rfl, ⟨nd, rfl⟩⟩))
    all_goals go_ret2
    all_goals refine ⟨rm_end ?_, by repeat (first | exact Below.refl _ _ | apply pw_below_drewN | apply below_drew)⟩
    all_goals go_light
    · exact if_pos (by omega)
    · exact (if_neg (by omega)).trans (by rw [if_pos (by first | rfl | assumption)])
    · exact (if_neg (by omega)).trans (by rw [if_neg (by first | (simp; done) | (simp; assumption))])
theorem raway_eq (Q R c mode : Int) (bl : Bool) (h0 : 0 ≤ Q) (hR : 0 ≤ R) (hc : R < c) (hc' : c ≤ 1152921504606846976) (m1 : 1 ≤ mode) (m2 : mode ≤ 5) : contangoref01_away.f Q R c mode bl = some (mdAway mode bl Q R c) := by
  have hw : wrap64 (c - R) = c - R := by unfold wrap64; omega
  have ht : Int.tmod Q 2 = Q % 2 := Int.tmod_eq_emod_of_nonneg h0
  unfold contangoref01_away.f mdAway
  rw [hw, ht]
  obtain rfl | rfl | rfl | rfl | rfl : mode = 1 ∨ mode = 2 ∨ mode = 3 ∨ mode = 4 ∨ mode = 5 := by omega
  · rfl
  · rfl
  · cases bl <;> rfl
  · cases bl <;> rfl
  · by_cases g1 : R > c - R
    · rw [if_neg (by omega), if_neg (by omega), if_neg (by omega), if_pos rfl, if_pos g1, decide_eq_true (show c - R < R from g1)]; rfl
    · rw [if_neg (by omega), if_neg (by omega), if_neg (by omega), if_pos rfl, if_neg g1, decide_eq_false (show ¬ c - R < R from g1)]
      by_cases g2 : R = c - R
      · rw [if_pos g2, decide_eq_true g2]
        by_cases g3 : Q % 2 = 1
        · rw [g3]; rfl
        · rw [decide_eq_false g3, beq_eq_false_iff_ne.mpr g3]; rfl
      · rw [if_neg g2, decide_eq_false g2]; rfl
def contangoref01_MulDiv.f (a0 a1 a2 a3 : Int) : Option (Int × Int) := cents_MulDiv.f a0 a1 a2 a3
theorem contangoref01_MulDiv.calls (a0 a1 a2 a3 r1 r2 : Int) (w : World) (h : contangoref01_MulDiv.f a0 a1 a2 a3 = some (r1, r2)) :
    Calls Try.prog 57 #[.int .i64 a0, .int .i64 a1, .int .i64 a2, .int .i64 a3] w fun e w' => e = .returned (.tuple #[.int .i64 r1, .int .i64 r2]) ∧ Below w.heap.size w w' := by
  unfold contangoref01_MulDiv.f cents_MulDiv.f at h
  by_cases c : mdFits a0 ∧ mdFits a1 ∧ mdFits a2 ∧ 1 ≤ a3 ∧ a3 ≤ 5
  · rw [if_pos c] at h
    obtain ⟨⟨c1, c2⟩, ⟨c3, c4⟩, ⟨c5, c6⟩, c7, c8⟩ := c
    by_cases d : a2 = 0
    · rw [if_pos d] at h
      have h' := Option.some.inj h
      simp only [Prod.mk.injEq] at h'
      obtain ⟨rfl, rfl⟩ := h'
      exact contangoref01_MulDiv.z a0 a1 a2 a3 w c1 c2 c3 c4 c5 c6 (by simpa using d) c7 c8
    · rw [if_neg d] at h
      have h' := Option.some.inj h
      have e1 : (mdRes a0 a1 a2 a3).1 = r1 := by rw [h']
      have e2 : (mdRes a0 a1 a2 a3).2 = r2 := by rw [h']
      rw [← e1, ← e2]
      have hq0 : 0 ≤ (a0.natAbs : Int) * a1.natAbs / a2.natAbs := Int.ediv_nonneg (Int.mul_nonneg (by omega) (by omega)) (by omega)
      have hr0 := Int.emod_nonneg ((a0.natAbs : Int) * a1.natAbs) (b := (a2.natAbs : Int)) (by omega)
      have hr1 := Int.emod_lt_of_pos ((a0.natAbs : Int) * a1.natAbs) (b := (a2.natAbs : Int)) (by omega)
      have eq := contangoref01_quotient.eq a0.natAbs a1.natAbs a2.natAbs (by omega) (by omega) (by omega) (by omega) (by omega) (by omega) 70 (by omega)
      have em : rmRes (rmQ (if (a0.natAbs : Int) * a1.natAbs / a2.natAbs ≤ 2305843009213693952 then (a0.natAbs : Int) * a1.natAbs / a2.natAbs else 2305843009213693952) ((a0.natAbs : Int) * a1.natAbs % a2.natAbs)
          (mdAway a3 (mdBelow a0 a1 a2) (if (a0.natAbs : Int) * a1.natAbs / a2.natAbs ≤ 2305843009213693952 then (a0.natAbs : Int) * a1.natAbs / a2.natAbs else 2305843009213693952) ((a0.natAbs : Int) * a1.natAbs % a2.natAbs) a2.natAbs)) (mdBelow a0 a1 a2) = mdRes a0 a1 a2 a3 := by
        by_cases g : (a0.natAbs : Int) * a1.natAbs / a2.natAbs ≤ 2305843009213693952
        · rw [if_pos g]; rfl
        · rw [if_neg g]
          unfold rmRes mdRes
          rw [if_pos (by unfold rmQ; split <;> omega), if_pos (by unfold mdQ; split <;> omega)]
      rw [← em]
      refine contangoref01_MulDiv.main a0 a1 a2 a3 w c1 c2 c3 c4 c5 c6 (by simpa using d) c7 c8 _ _ _ _ rfl (Aside0.mk eq) (Aside0.mk (raway_eq _ _ _ _ _ ?_ hr0 hr1 (by omega) c7 c8)) ?_ ?_
      · split <;> omega
      · split <;> omega
      · split <;> omega
  · rw [if_neg c] at h
    have h' := Option.some.inj h
    simp only [Prod.mk.injEq] at h'
    obtain ⟨rfl, rfl⟩ := h'
    refine (contangoref01_MulDiv.bad a0 a1 a2 a3 w c).mono ?_
    rintro e w' ⟨rfl, rfl⟩
    exact ⟨rfl, Below.refl _ _⟩
def contangoref28_Over.j0 : Nat → Int → Int → Int → Int → Bool → Option (Int × Int)
  | 0, _, _, _, _, _ => none
  | k + 1, x0, x1, x2, x3, x43 => if x43 = true then (some (0, 2)) else ((contangoref01_MulDiv.f x1 x2 1000 2).bind fun bt398 => ((contangoref01_MulDiv.f (mx (wrap64 (x0 - bt398.1)) 0) x3 1000 2).bind fun bt400 => (some (bt400.1, 0))))
def contangoref28_Over.f (k : Nat) (a0 : Int) (a1 : Int) (a2 : Int) (a3 : Int) : Option (Int × Int) := if a0 < 0 then (contangoref28_Over.j0 k a0 a1 a2 a3 true) else (if a0 > 1152921504606846976 then (contangoref28_Over.j0 k a0 a1 a2 a3 true) else (if a1 < 0 then (contangoref28_Over.j0 k a0 a1 a2 a3 true) else (if a1 > 1152921504606846976 then (contangoref28_Over.j0 k a0 a1 a2 a3 true) else (if a2 < 0 then (contangoref28_Over.j0 k a0 a1 a2 a3 true) else (if a2 > 1000 then (contangoref28_Over.j0 k a0 a1 a2 a3 true) else (if a3 < 0 then (contangoref28_Over.j0 k a0 a1 a2 a3 true) else (contangoref28_Over.j0 k a0 a1 a2 a3 (decide (a3 > 1000)))))))))
theorem contangoref28_Over.mono_l : ∀ k, (∀ y0 y1 y2 y3 y4, LeO (contangoref28_Over.j0 k y0 y1 y2 y3 y4) (contangoref28_Over.j0 (k + 1) y0 y1 y2 y3 y4))
  | 0 => fun _ _ _ _ _ r h => by simp [contangoref28_Over.j0] at h
  | k + 1 => by
    have ih0 := contangoref28_Over.mono_l k
    · intro y0 y1 y2 y3 y4
      unfold contangoref28_Over.j0
      repeat' first
      | (with_reducible exact ih0 _ _ _ _ _)
      | (with_reducible exact LeO.refl _)
      | (with_reducible exact LeO.none _)
      | (with_reducible refine LeO.ite ?_ ?_)
      | (with_reducible refine LeO.bind ?_ (fun _ => ?_))
      | exact ih0 _ _ _ _ _
      | exact LeO.none _
      | refine LeO.ite ?_ ?_
      | refine LeO.bind ?_ (fun _ => ?_)
theorem contangoref28_Over.mono : ∀ a0 a1 a2 a3 k, LeO (contangoref28_Over.f k a0 a1 a2 a3) (contangoref28_Over.f (k + 1) a0 a1 a2 a3) := by
  intro a0 a1 a2 a3 k
  have ih0 := contangoref28_Over.mono_l k
  unfold contangoref28_Over.f
  repeat' first
      | (with_reducible exact ih0 _ _ _ _ _)
      | (with_reducible exact LeO.refl _)
      | (with_reducible exact LeO.none _)
      | (with_reducible refine LeO.ite ?_ ?_)
      | (with_reducible refine LeO.bind ?_ (fun _ => ?_))
      | exact ih0 _ _ _ _ _
      | exact LeO.none _
      | refine LeO.ite ?_ ?_
      | refine LeO.bind ?_ (fun _ => ?_)
set_option maxHeartbeats 8000000 in
set_option maxRecDepth 100000 in
theorem contangoref28_Over.calls (k : Nat) (a0 : Int) (a1 : Int) (a2 : Int) (a3 : Int) (r1 : Int) (r2 : Int) (w : World) (h : contangoref28_Over.f k a0 a1 a2 a3 = some (r1, r2)) :
    Calls Try.prog 36 #[.int .i64 a0, .int .i64 a1, .int .i64 a2, .int .i64 a3] w fun e w' => e = .returned (.tuple #[.int .i64 r1, .int .i64 r2]) ∧ Below w.heap.size w w' := by
  have HB := Aside0.mk (Below.refl w.heap.size w)
  have H : (if a0 < 0 then (contangoref28_Over.j0 k a0 a1 a2 a3 true) else (if a0 > 1152921504606846976 then (contangoref28_Over.j0 k a0 a1 a2 a3 true) else (if a1 < 0 then (contangoref28_Over.j0 k a0 a1 a2 a3 true) else (if a1 > 1152921504606846976 then (contangoref28_Over.j0 k a0 a1 a2 a3 true) else (if a2 < 0 then (contangoref28_Over.j0 k a0 a1 a2 a3 true) else (if a2 > 1000 then (contangoref28_Over.j0 k a0 a1 a2 a3 true) else (if a3 < 0 then (contangoref28_Over.j0 k a0 a1 a2 a3 true) else (contangoref28_Over.j0 k a0 a1 a2 a3 (decide (a3 > 1000)))))))))) = some (r1, r2) := h
  clear h
  have HC5 := Aside0.mk H
  clear H
  go_enter Try.func36, Try.ntmps36
  go_upto_region 1 with (fail)
  go_cut [43] (fun v43 wc => ∃ (kq : Nat) (x43_4 : Bool), v43 = .bool x43_4 ∧ Aside0 (contangoref28_Over.j0 kq a0 a1 a2 a3 x43_4 = some (r1, r2)) ∧ Aside0 (kq ≤ k) ∧ Aside0 (Below w.heap.size w wc))
  case first =>
    have H := HC5.out
    clear HC5
    by_cases c6 : a0 < 0
    · rw [if_pos c6] at H
      have c6b0 : decide (a0 < 0) = true := decide_eq_true c6
      clear c6
      have H' := Aside0.mk H
      clear H
      go_wp2
      go_meet
      case rel => exact ⟨_, (true), (by first | rfl | (simp; done) | (simp [*]; done)), H', ⟨by first | omega | exact Nat.le_refl _⟩, ⟨by repeat (first | (with_reducible first | exact HB.out | apply below_alloc | apply pw_below_drewN | apply below_drew1) | exact HB.out)⟩⟩
    · rw [if_neg c6] at H
      have c6b0 : decide (a0 < 0) = false := decide_eq_false c6
      clear c6
      by_cases c7 : a0 > 1152921504606846976
      · rw [if_pos c7] at H
        have c7b0 : decide (1152921504606846976 < a0) = true := decide_eq_true c7
        clear c7
        have H' := Aside0.mk H
        clear H
        go_wp2
        go_meet
        case rel => exact ⟨_, (true), (by first | rfl | (simp; done) | (simp [*]; done)), H', ⟨by first | omega | exact Nat.le_refl _⟩, ⟨by repeat (first | (with_reducible first | exact HB.out | apply below_alloc | apply pw_below_drewN | apply below_drew1) | exact HB.out)⟩⟩
      · rw [if_neg c7] at H
        have c7b0 : decide (1152921504606846976 < a0) = false := decide_eq_false c7
        clear c7
        by_cases c8 : a1 < 0
        · rw [if_pos c8] at H
          have c8b0 : decide (a1 < 0) = true := decide_eq_true c8
          clear c8
          have H' := Aside0.mk H
          clear H
          go_wp2
          go_meet
          case rel => exact ⟨_, (true), (by first | rfl | (simp; done) | (simp [*]; done)), H', ⟨by first | omega | exact Nat.le_refl _⟩, ⟨by repeat (first | (with_reducible first | exact HB.out | apply below_alloc | apply pw_below_drewN | apply below_drew1) | exact HB.out)⟩⟩
        · rw [if_neg c8] at H
          have c8b0 : decide (a1 < 0) = false := decide_eq_false c8
          clear c8
          by_cases c9 : a1 > 1152921504606846976
          · rw [if_pos c9] at H
            have c9b0 : decide (1152921504606846976 < a1) = true := decide_eq_true c9
            clear c9
            have H' := Aside0.mk H
            clear H
            go_wp2
            go_meet
            case rel => exact ⟨_, (true), (by first | rfl | (simp; done) | (simp [*]; done)), H', ⟨by first | omega | exact Nat.le_refl _⟩, ⟨by repeat (first | (with_reducible first | exact HB.out | apply below_alloc | apply pw_below_drewN | apply below_drew1) | exact HB.out)⟩⟩
          · rw [if_neg c9] at H
            have c9b0 : decide (1152921504606846976 < a1) = false := decide_eq_false c9
            clear c9
            by_cases c10 : a2 < 0
            · rw [if_pos c10] at H
              have c10b0 : decide (a2 < 0) = true := decide_eq_true c10
              clear c10
              have H' := Aside0.mk H
              clear H
              go_wp2
              go_meet
              case rel => exact ⟨_, (true), (by first | rfl | (simp; done) | (simp [*]; done)), H', ⟨by first | omega | exact Nat.le_refl _⟩, ⟨by repeat (first | (with_reducible first | exact HB.out | apply below_alloc | apply pw_below_drewN | apply below_drew1) | exact HB.out)⟩⟩
            · rw [if_neg c10] at H
              have c10b0 : decide (a2 < 0) = false := decide_eq_false c10
              clear c10
              by_cases c11 : a2 > 1000
              · rw [if_pos c11] at H
                have c11b0 : decide (1000 < a2) = true := decide_eq_true c11
                clear c11
                have H' := Aside0.mk H
                clear H
                go_wp2
                go_meet
                case rel => exact ⟨_, (true), (by first | rfl | (simp; done) | (simp [*]; done)), H', ⟨by first | omega | exact Nat.le_refl _⟩, ⟨by repeat (first | (with_reducible first | exact HB.out | apply below_alloc | apply pw_below_drewN | apply below_drew1) | exact HB.out)⟩⟩
              · rw [if_neg c11] at H
                have c11b0 : decide (1000 < a2) = false := decide_eq_false c11
                clear c11
                by_cases c12 : a3 < 0
                · rw [if_pos c12] at H
                  have c12b0 : decide (a3 < 0) = true := decide_eq_true c12
                  clear c12
                  have H' := Aside0.mk H
                  clear H
                  go_wp2
                  go_meet
                  case rel => exact ⟨_, (true), (by first | rfl | (simp; done) | (simp [*]; done)), H', ⟨by first | omega | exact Nat.le_refl _⟩, ⟨by repeat (first | (with_reducible first | exact HB.out | apply below_alloc | apply pw_below_drewN | apply below_drew1) | exact HB.out)⟩⟩
                · rw [if_neg c12] at H
                  have c12b0 : decide (a3 < 0) = false := decide_eq_false c12
                  clear c12
                  have H' := Aside0.mk H
                  clear H
                  go_wp2
                  go_meet
                  case rel => exact ⟨_, (decide (a3 > 1000)), (by first | rfl | (simp; done) | (simp [*]; done)), H', ⟨by first | omega | exact Nat.le_refl _⟩, ⟨by repeat (first | (with_reducible first | exact HB.out | apply below_alloc | apply pw_below_drewN | apply below_drew1) | exact HB.out)⟩⟩
  case rest =>
    clear HC5
    try clear c1
    try clear p2
    try clear c3
    try clear c6
    try clear c6b0
    try clear c7
    try clear c7b0
    try clear c8
    try clear c8b0
    try clear c9
    try clear c9b0
    try clear c10
    try clear c10b0
    try clear c11
    try clear c11b0
    try clear c12
    try clear c12b0
    obtain ⟨kq, x43_4, rfl, HA, HJ4, HB⟩ := hcut
    cases kq with
    | zero => exact absurd HA.out (by simp [contangoref28_Over.j0])
    | succ kj4 =>
      have H := HA.out
      clear HA
      simp only [contangoref28_Over.j0] at H
      by_cases c13 : x43_4 = true
      · subst c13
        have H1 : (some (0, 2)) = some (r1, r2) := by rw [if_pos rfl] at H; exact H
        clear H
        have H := H1
        clear H1
        simp only [Option.some.injEq, Prod.mk.injEq] at H
        obtain ⟨rfl, rfl⟩ := H
        go_wp2
        go_ret2
        exact ⟨by first | rfl | (simp [errW_none, errW_some] <;> rfl) | (simp [*, errW_none, errW_some] <;> rfl), by repeat (first | (with_reducible first | exact HB.out | apply below_alloc | apply pw_below_drewN | apply below_drew1) | exact HB.out)⟩
      · replace c13 := Bool.eq_false_iff.mpr c13
        subst c13
        have H1 : ((contangoref01_MulDiv.f a1 a2 1000 2).bind fun bt398 => ((contangoref01_MulDiv.f (mx (wrap64 (a0 - bt398.1)) 0) a3 1000 2).bind fun bt400 => (some (bt400.1, 0)))) = some (r1, r2) := by rw [if_neg (show ¬ (false = true) by decide)] at H; exact H
        clear H
        have H := H1
        clear H1
        replace H := Option.bind_eq_some_iff.mp H
        obtain ⟨⟨t398, t399⟩, A140, H⟩ := H
        replace H : ((contangoref01_MulDiv.f (mx (wrap64 (a0 - t398)) 0) a3 1000 2).bind fun bt400 => (some (bt400.1, 0))) = some (r1, r2) := H
        have A14 := Aside0.mk A140
        clear A140
        obtain ⟨ji15, hji15⟩ : ∃ j_ : Int, (mx (wrap64 (a0 - t398)) 0) = j_ := ⟨_, rfl⟩
        replace H : ((contangoref01_MulDiv.f (ji15) a3 1000 2).bind fun bt400 => (some (bt400.1, 0))) = some (r1, r2) := by first | (rw [hji15] at H; exact H) | (simp only [hji15] at H ⊢; exact H)
        (try rw [hji15] at A14)
        have hji15_ : (if (wrap64 (a0 - t398)) < 0 then 0 else (wrap64 (a0 - t398))) = ji15 := hji15
        replace H := Option.bind_eq_some_iff.mp H
        obtain ⟨⟨t400, t401⟩, A160, H⟩ := H
        replace H : (some (t400, 0)) = some (r1, r2) := H
        have A16 := Aside0.mk A160
        clear A160
        simp only [Option.some.injEq, Prod.mk.injEq] at H
        obtain ⟨rfl, rfl⟩ := H
        go_wp2_with (first | ((with_reducible refine gate_callee (f := 57) rfl ?_); refine goesL_ (some 47) rfl rfl Try.func57 (by kernel_rfl) rfl #[.int .i64 a1, .int .i64 a2, .int .i64 1000, .int .i64 2] rfl (by (try simp only [List.map_toArray, List.map_cons, List.map_nil]); first | done | rfl | (simp only [List.length_drop, List.length_take]; rfl)) ?_; (with_reducible refine (contangoref01_MulDiv.calls a1 a2 1000 2 t398 t399 _ A14.out).mono ?_); rintro e w17 ⟨rfl, hb⟩; refine ⟨_, rfl, ?_⟩; have n0_ := Aside0.mk (below_step (by repeat (first | (with_reducible first | exact HB.out | apply below_alloc | apply pw_below_drewN | apply below_drew1) | exact HB.out)) hb); clear HB; have HB := n0_; clear n0_; (try clear hb); (try clear hb2); (try clear hk); (try clear hi)) | ((with_reducible refine gate_callee (f := 57) rfl ?_); refine goesL_ (some 56) rfl rfl Try.func57 (by kernel_rfl) rfl #[.int .i64 ji15, .int .i64 a3, .int .i64 1000, .int .i64 2] rfl (by (try simp only [List.map_toArray, List.map_cons, List.map_nil]); first | done | (simp only [hji15]; rfl) | rfl | (simp only [List.length_drop, List.length_take]; rfl)) ?_; (with_reducible refine (contangoref01_MulDiv.calls ji15 a3 1000 2 t400 t401 _ A16.out).mono ?_); rintro e w18 ⟨rfl, hb⟩; refine ⟨_, rfl, ?_⟩; have n0_ := Aside0.mk (below_step (by repeat (first | (with_reducible first | exact HB.out | apply below_alloc | apply pw_below_drewN | apply below_drew1) | exact HB.out)) hb); clear HB; have HB := n0_; clear n0_; (try clear hb); (try clear hb2); (try clear hk); (try clear hi)))
        go_ret2
        exact ⟨by first | rfl | (simp [errW_none, errW_some] <;> rfl) | (simp only [← hji15]; first | rfl | (simp [errW_none, errW_some] <;> rfl)) | (simp [*, errW_none, errW_some] <;> rfl), by repeat (first | (with_reducible first | exact HB.out | apply below_alloc | apply pw_below_drewN | apply below_drew1) | exact HB.out)⟩
end Go.Proofs.Ytaiekjimdjlgbaa.Pr
