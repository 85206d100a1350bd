/- Functions' values and contracts, as the print wrote them. -/
import Derived.Test.YtaiekjimdjlgbaaQ3EDP0
import Derived.Test.YtaiekjimdjlgbaaQ3EDP2
import Derived.Test.YtaiekjimdjlgbaaQ3EDP1
namespace Go.Proofs.Ytaiekjimdjlgbaa.Pr
open Go.RowKit Go.Proofs.YtaiekjimdjlgbaaW.PrintWords Go.Proofs.YtaiekjimdjlgbaaW.PrintLast Go.Proofs.YtaiekjimdjlgbaaW.PrintMore
attribute [local go_sem] max2_int min2_int max_two min_two max_three min_three max_four min_four   -- for this text's walks alone
set_option linter.unusedVariables false
set_option linter.unusedSimpArgs false
def rate_Convert.f (k : Nat) (l0 : List (S94)) (a1 : Int) (a2 : Int) (a3 : Int) (a4 : Int) : Option (Int × Int) := (rate_Check.f k l0).bind fun t160 => (if t160 = 0 then (if a2 < 0 then (some (0, 25)) else (if a2 ≥ (l0.length : Int) then (some (0, 25)) else (if a3 < 0 then (some (0, 25)) else (if a3 ≥ (l0.length : Int) then (some (0, 25)) else (if 0 ≤ a2 then (if a2 < (l0.length : Int) then (if 0 ≤ a3 then (if a3 < (l0.length : Int) then ((cents_MulDiv.f a1 ((rd_T94 l0 a2).f1) ((rd_T94 l0 a3).f1) a4).bind fun bt163 => (some (bt163.1, bt163.2))) else (none)) else (none)) else (none)) else (none)))))) else (some (0, t160)))
theorem rate_Convert.mono : ∀ a0 a1 a2 a3 a4 k, LeO (rate_Convert.f k a0 a1 a2 a3 a4) (rate_Convert.f (k + 1) a0 a1 a2 a3 a4) := by
  intro a0 a1 a2 a3 a4 k
  unfold rate_Convert.f
  repeat' first
      | (with_reducible exact rate_Check.mono _ _)
      | (with_reducible exact LeO.refl _)
      | (with_reducible exact LeO.none _)
      | (with_reducible refine LeO.ite ?_ ?_)
      | (with_reducible refine LeO.bind ?_ (fun _ => ?_))
      | exact rate_Check.mono _ _
      | exact LeO.none _
      | refine LeO.ite ?_ ?_
      | refine LeO.bind ?_ (fun _ => ?_)
def rate_Convert.T6 : Bool × List (List Nat × List Nat) := (true, [([], []), ([], []), ([], []), ([1, 2], [1, 2]), ([3], [3]), ([4], [4]), ([], []), ([], []), ([6, 7], [6, 7]), ([8], [8]), ([9], [9]), ([], []), ([0, 5, 10, 11], [0, 5, 10, 11]), ([12], [12]), ([12], [12]), ([13, 12, 0, 1, 2, 3, 4, 5, 6, 7, 8, 9, 10, 11, 12, 13, 14], [13]), ([14, 15, 0, 1, 2, 3, 4, 5, 6, 7, 8, 9, 10, 11, 12, 13, 14, 15], [14])])
def rate_Convert.B6 : List Nat := [0, 0, 0, 6, 14, 30, 0, 0, 192, 448, 960, 0, 4095, 8191, 8191, 32767, 65535]
theorem rate_Convert.tab6 : rtab .any (opsOf Try.f92 6) = rate_Convert.T6 := by kernel_rfl
theorem rate_Convert.bits6 : waitsOk rate_Convert.T6.2 rate_Convert.B6 = true := by kernel_rfl
set_option maxHeartbeats 8000000 in
set_option maxRecDepth 100000 in
theorem rate_Convert.calls (k : Nat) (A0 : Option Addr) (c0 : Nat) (l0 : List (S94)) (a1 : Int) (a2 : Int) (a3 : Int) (a4 : Int) (r1 : Int) (r2 : Int) (w : World) (hr0 : Kd.C k94 w A0 l0.length l0) (hc0 : l0.length ≤ c0) (h : rate_Convert.f k l0 a1 a2 a3 a4 = some (r1, r2)) :
    Calls Try.prog 92 #[.slice A0 l0.length c0, .int .i64 a1, .int .i64 a2, .int .i64 a3, .int .i64 a4] w fun e w' => e = .returned (.tuple #[.int .i64 r1, .int .i64 r2]) ∧ Below w.heap.size w w' := by
  have HR0 := Aside0.mk hr0
  have HC0 := Aside0.mk hc0
  clear hr0 hc0
  have HB := Aside0.mk (Below.refl w.heap.size w)
  have H : ((rate_Check.f k l0).bind fun t160 => (if t160 = 0 then (if a2 < 0 then (some (0, 25)) else (if a2 ≥ (l0.length : Int) then (some (0, 25)) else (if a3 < 0 then (some (0, 25)) else (if a3 ≥ (l0.length : Int) then (some (0, 25)) else (if 0 ≤ a2 then (if a2 < (l0.length : Int) then (if 0 ≤ a3 then (if a3 < (l0.length : Int) then ((cents_MulDiv.f a1 ((rd_T94 l0 a2).f1) ((rd_T94 l0 a3).f1) a4).bind fun bt163 => (some (bt163.1, bt163.2))) else (none)) else (none)) else (none)) else (none)))))) else (some (0, t160)))) = some (r1, r2) := h
  clear h
  replace H := Option.bind_eq_some_iff.mp H
  obtain ⟨t160, A60, H⟩ := H
  replace H : (if t160 = 0 then (if a2 < 0 then (some (0, 25)) else (if a2 ≥ (l0.length : Int) then (some (0, 25)) else (if a3 < 0 then (some (0, 25)) else (if a3 ≥ (l0.length : Int) then (some (0, 25)) else (if 0 ≤ a2 then (if a2 < (l0.length : Int) then (if 0 ≤ a3 then (if a3 < (l0.length : Int) then ((cents_MulDiv.f a1 ((rd_T94 l0 a2).f1) ((rd_T94 l0 a3).f1) a4).bind fun bt163 => (some (bt163.1, bt163.2))) else (none)) else (none)) else (none)) else (none)))))) else (some (0, t160))) = some (r1, r2) := H
  have A6 := Aside0.mk A60
  clear A60
  go_enter Try.func92, Try.ntmps92
  go_upto_if 15 with (first | ((with_reducible refine gate_callee (f := 58) rfl ?_); refine goesL_ (some 13) rfl rfl Try.func58 (by kernel_rfl) rfl #[.slice A0 l0.length c0] rfl (by (try simp only [List.map_toArray, List.map_cons, List.map_nil]); first | done | rfl | (simp only [List.length_drop, List.length_take]; rfl)) ?_; (with_reducible refine (rate_Check.calls k _ _ l0 t160 _ ?side1 ?side2 A6.out).mono ?_); (case side1 => repeat (first | exact HR0.out | (with_reducible refine Kd.C_alloc ?_ _) | (with_reducible refine Kd.C_drewN ?_ _) | (with_reducible refine Kd.C_drew ?_))); (case side2 => exact HC0.out); rintro e w7 ⟨rfl, hb⟩; refine ⟨_, rfl, ?_⟩; have n0_ := Aside0.mk (below_step (by repeat (first | (with_reducible first | exact HB.out | apply below_alloc | apply pw_below_drewN | apply below_drew1) | exact HB.out)) hb); clear HB; have HB := n0_; clear n0_; (try clear hb); (try clear hb2); (try clear hk); (try clear hi)))
  (try simp only [Act.put, List.setIfInBounds_toArray, List.set_cons_zero, List.set_cons_succ])
  by_cases c8 : t160 = 0
  · rw [if_pos c8] at H
    have c8b0 : (t160 == 0) = true := beq_iff_eq.mpr c8
    have c8b1 : (t160 != 0) = false := bne_eq_false_iff_eq.mpr c8
    clear c8
    (try simp only [c8b0, c8b1])
    by_cases c9 : a2 < 0
    · rw [if_pos c9] at H
      have c9b0 : decide (a2 < 0) = true := decide_eq_true c9
      clear c9
      simp only [Option.some.injEq, Prod.mk.injEq] at H
      obtain ⟨rfl, rfl⟩ := H
      go_wp2
      go_ret2
      exact ⟨by first | rfl | (simp [errW_none, errW_some] <;> rfl) | (simp [*, errW_none, errW_some] <;> rfl), by repeat (first | (with_reducible first | exact HB.out | apply below_alloc | apply pw_below_drewN | apply below_drew1) | exact HB.out)⟩
    · rw [if_neg c9] at H
      have c9b0 : decide (a2 < 0) = false := decide_eq_false c9
      clear c9
      by_cases c10 : a2 ≥ (l0.length : Int)
      · rw [if_pos c10] at H
        have c10b0 : decide ((l0.length : Int) ≤ a2) = true := decide_eq_true c10
        clear c10
        simp only [Option.some.injEq, Prod.mk.injEq] at H
        obtain ⟨rfl, rfl⟩ := H
        go_wp2
        go_ret2
        exact ⟨by first | rfl | (simp [errW_none, errW_some] <;> rfl) | (simp [*, errW_none, errW_some] <;> rfl), by repeat (first | (with_reducible first | exact HB.out | apply below_alloc | apply pw_below_drewN | apply below_drew1) | exact HB.out)⟩
      · rw [if_neg c10] at H
        have c10b0 : decide ((l0.length : Int) ≤ a2) = false := decide_eq_false c10
        clear c10
        by_cases c11 : a3 < 0
        · rw [if_pos c11] at H
          have c11b0 : decide (a3 < 0) = true := decide_eq_true c11
          clear c11
          simp only [Option.some.injEq, Prod.mk.injEq] at H
          obtain ⟨rfl, rfl⟩ := H
          go_wp2
          go_ret2
          exact ⟨by first | rfl | (simp [errW_none, errW_some] <;> rfl) | (simp [*, errW_none, errW_some] <;> rfl), by repeat (first | (with_reducible first | exact HB.out | apply below_alloc | apply pw_below_drewN | apply below_drew1) | exact HB.out)⟩
        · rw [if_neg c11] at H
          have c11b0 : decide (a3 < 0) = false := decide_eq_false c11
          clear c11
          by_cases c12 : a3 ≥ (l0.length : Int)
          · rw [if_pos c12] at H
            have c12b0 : decide ((l0.length : Int) ≤ a3) = true := decide_eq_true c12
            clear c12
            (try simp only [c12b0])
            simp only [Option.some.injEq, Prod.mk.injEq] at H
            obtain ⟨rfl, rfl⟩ := H
            go_wp2
            go_ret2
            exact ⟨by first | rfl | (simp [errW_none, errW_some] <;> rfl) | (simp [*, errW_none, errW_some] <;> rfl), by repeat (first | (with_reducible first | exact HB.out | apply below_alloc | apply pw_below_drewN | apply below_drew1) | exact HB.out)⟩
          · rw [if_neg c12] at H
            have c12b0 : decide ((l0.length : Int) ≤ a3) = false := decide_eq_false c12
            clear c12
            (try simp only [c12b0])
            by_cases c13 : 0 ≤ a2
            · rw [if_pos c13] at H
              have c13b0 : decide (0 ≤ a2) = true := decide_eq_true c13
              clear c13
              by_cases c14 : a2 < (l0.length : Int)
              · rw [if_pos c14] at H
                have c14b0 : decide (a2 < (l0.length : Int)) = true := decide_eq_true c14
                clear c14
                by_cases c15 : 0 ≤ a3
                · rw [if_pos c15] at H
                  have c15b0 : decide (0 ≤ a3) = true := decide_eq_true c15
                  clear c15
                  by_cases c16 : a3 < (l0.length : Int)
                  · rw [if_pos c16] at H
                    have c16b0 : decide (a3 < (l0.length : Int)) = true := decide_eq_true c16
                    clear c16
                    replace H := Option.bind_eq_some_iff.mp H
                    obtain ⟨⟨t163, t164⟩, A170, H⟩ := H
                    replace H : (some (t163, t164)) = some (r1, r2) := H
                    have A17 := Aside0.mk A170
                    clear A170
                    simp only [Option.some.injEq, Prod.mk.injEq] at H
                    obtain ⟨rfl, rfl⟩ := H
                    try go_wp2
                    have n0_ := Aside0.mk (below_drew1 HB.out)
                    clear HB
                    have HB := n0_
                    clear n0_
                    have p161 : 0 ≤ (a2 : Int) := of_decide_eq_true (by first | (with_reducible assumption) | assumption)
                    have q161 : a2 < (l0.length : Int) := of_decide_eq_true (by first | (with_reducible assumption) | assumption)
                    obtain ⟨ad161, e161, hx161_0, hx161_1⟩ := at_T94 HR0.out a2 p161 q161
                    have hw161_1 := hx161_1
                    have hw161_0 := hx161_0
                    cases e161
                    replace hx161_0 := (HB.out.cell (World.block_lt_of_cell? w _ hx161_0)).trans hx161_0
                    replace hx161_1 := (HB.out.cell (World.block_lt_of_cell? w _ hx161_1)).trans hx161_1
                    replace p161 := eq_true p161
                    replace q161 := eq_true q161
                    have p162 : 0 ≤ (a3 : Int) := of_decide_eq_true (by first | (with_reducible assumption) | assumption)
                    have q162 : a3 < (l0.length : Int) := of_decide_eq_true (by first | (with_reducible assumption) | assumption)
                    obtain ⟨ad162, e162, hx162_0, hx162_1⟩ := at_T94 HR0.out a3 p162 q162
                    have hw162_1 := hx162_1
                    have hw162_0 := hx162_0
                    obtain rfl : ad161 = ad162 := (by injection e162)
                    replace hx162_0 := (HB.out.cell (World.block_lt_of_cell? w _ hx162_0)).trans hx162_0
                    replace hx162_1 := (HB.out.cell (World.block_lt_of_cell? w _ hx162_1)).trans hx162_1
                    replace p162 := eq_true p162
                    replace q162 := eq_true q162
                    refine start_ (n := 17) (S := fun w' => w'.cell? (ad161.add ((a2).toNat * 2)) = some (.string ((rd_T94 l0 a2).f0)) ∧ w'.cell? ⟨(ad161.add ((a2).toNat * 2)).block, (ad161.add ((a2).toNat * 2)).off + 1, none⟩ = some (.int .i64 ((rd_T94 l0 a2).f1)) ∧ w'.cell? (ad161.add ((a3).toNat * 2)) = some (.string ((rd_T94 l0 a3).f0)) ∧ w'.cell? ⟨(ad161.add ((a3).toNat * 2)).block, (ad161.add ((a3).toNat * 2)).off + 1, none⟩ = some (.int .i64 ((rd_T94 l0 a3).f1))) (ds := []) #[false, false, false, false, false, false, false, false, false, false, false, false, false, false, false, false, false] (by kernel_rfl) rfl rfl ⟨((HB.out.cell (World.block_lt_of_cell? w _ hw161_0)).trans hw161_0), ((HB.out.cell (World.block_lt_of_cell? w _ hw161_1)).trans hw161_1), ((HB.out.cell (World.block_lt_of_cell? w _ hw162_0)).trans hw162_0), ((HB.out.cell (World.block_lt_of_cell? w _ hw162_1)).trans hw162_1)⟩ (fun hHeld => ?_); refine with_tabW rate_Convert.tab6 rate_Convert.bits6 (fun HT_ HW_ => ?_)
                    generalize w7.drew = w18 at HB hx161_0 hx161_1 hx162_0 hx162_1 hHeld ⊢
                    refine pure_ (i := 0) (N := some 35) (v := ?_) (a' := ?_) #[true, false, false, false, false, false, false, false, false, false, false, false, false, false, false, false, false] rfl rfl (any_of HT_.out (by kernel_rfl)) (fun _ _ _ h => h) (Or.inl ⟨by rfl, ?_⟩) ?_ ?_
                    rotate_left
                    · intro w'
                      go_simp
                      with_reducible rfl
                    rotate_left
                    · simp only [Act.put, List.setIfInBounds_toArray, List.set_cons_zero, List.set_cons_succ, i64_w, i32_w]
                      rfl
                    refine pure_ (i := 1) (N := some 36) (v := ?_) (a' := ?_) #[true, true, false, false, false, false, false, false, false, false, false, false, false, false, false, false, false] rfl rfl (any_of HT_.out (by kernel_rfl)) (fun _ _ _ h => h) (Or.inl ⟨by rfl, ?_⟩) ?_ ?_
                    rotate_left
                    · intro w'
                      go_simp
                      with_reducible rfl
                    rotate_left
                    · simp only [Act.put, List.setIfInBounds_toArray, List.set_cons_zero, List.set_cons_succ, i64_w, i32_w]
                      rfl
                    refine pure_ (i := 2) (N := some 37) (v := ?_) (a' := ?_) #[true, true, true, false, false, false, false, false, false, false, false, false, false, false, false, false, false] rfl rfl (any_of HT_.out (by kernel_rfl)) (fun _ _ _ h => h) (Or.inl ⟨by rfl, ?_⟩) ?_ ?_
                    rotate_left
                    · intro w'
                      go_simp
                      with_reducible rfl
                    rotate_left
                    · simp only [Act.put, List.setIfInBounds_toArray, List.set_cons_zero, List.set_cons_succ, i64_w, i32_w]
                      rfl
                    refine pure_ (i := 3) (N := some 38) (v := ?_) (a' := ?_) #[true, true, true, true, false, false, false, false, false, false, false, false, false, false, false, false, false] rfl rfl (any_of HT_.out (by kernel_rfl)) (fun _ _ _ h => h) (Or.inl ⟨by rfl, ?_⟩) ?_ ?_
                    rotate_left
                    · intro w'
                      go_simp
                      with_reducible rfl
                    rotate_left
                    · simp only [Act.put, List.setIfInBounds_toArray, List.set_cons_zero, List.set_cons_succ, i64_w, i32_w]
                      rfl
                    refine pure_ (i := 4) (N := some 39) (v := ?_) (a' := ?_) #[true, true, true, true, true, false, false, false, false, false, false, false, false, false, false, false, false] rfl rfl (any_of HT_.out (by kernel_rfl)) (fun _ _ _ h => h) (Or.inl ⟨by rfl, ?_⟩) ?_ ?_
                    rotate_left
                    · intro w'
                      go_simp
                      with_reducible rfl
                    rotate_left
                    · simp only [Act.put, List.setIfInBounds_toArray, List.set_cons_zero, List.set_cons_succ, i64_w, i32_w]
                      rfl
                    refine pure_ (i := 6) (N := some 41) (v := ?_) (a' := ?_) #[true, true, true, true, true, false, true, false, false, false, false, false, false, false, false, false, false] rfl rfl (any_of HT_.out (by kernel_rfl)) (fun _ _ _ h => h) (Or.inl ⟨by rfl, ?_⟩) ?_ ?_
                    rotate_left
                    · intro w'
                      go_simp
                      with_reducible rfl
                    rotate_left
                    · simp only [Act.put, List.setIfInBounds_toArray, List.set_cons_zero, List.set_cons_succ, i64_w, i32_w]
                      rfl
                    refine pure_ (i := 7) (N := some 42) (v := ?_) (a' := ?_) #[true, true, true, true, true, false, true, true, false, false, false, false, false, false, false, false, false] rfl rfl (any_of HT_.out (by kernel_rfl)) (fun _ _ _ h => h) (Or.inl ⟨by rfl, ?_⟩) ?_ ?_
                    rotate_left
                    · intro w'
                      go_simp
                      with_reducible rfl
                    rotate_left
                    · simp only [Act.put, List.setIfInBounds_toArray, List.set_cons_zero, List.set_cons_succ, i64_w, i32_w]
                      rfl
                    refine pure_ (i := 8) (N := some 43) (v := ?_) (a' := ?_) #[true, true, true, true, true, false, true, true, true, false, false, false, false, false, false, false, false] rfl rfl (any_of HT_.out (by kernel_rfl)) (fun _ _ _ h => h) (Or.inl ⟨by rfl, ?_⟩) ?_ ?_
                    rotate_left
                    · intro w'
                      go_simp
                      with_reducible rfl
                    rotate_left
                    · simp only [Act.put, List.setIfInBounds_toArray, List.set_cons_zero, List.set_cons_succ, i64_w, i32_w]
                      rfl
                    refine pure_ (i := 9) (N := some 44) (v := ?_) (a' := ?_) #[true, true, true, true, true, false, true, true, true, true, false, false, false, false, false, false, false] rfl rfl (any_of HT_.out (by kernel_rfl)) (fun _ _ _ h => h) (Or.inl ⟨by rfl, ?_⟩) ?_ ?_
                    rotate_left
                    · intro w'
                      go_simp
                      with_reducible rfl
                    rotate_left
                    · simp only [Act.put, List.setIfInBounds_toArray, List.set_cons_zero, List.set_cons_succ, i64_w, i32_w]
                      rfl
                    refine pure_ (i := 11) (N := some 46) (v := ?_) (a' := ?_) #[true, true, true, true, true, false, true, true, true, true, false, true, false, false, false, false, false] rfl rfl (any_of HT_.out (by kernel_rfl)) (fun _ _ _ h => h) (Or.inl ⟨by rfl, ?_⟩) ?_ ?_
                    rotate_left
                    · intro w'
                      go_simp
                      with_reducible rfl
                    rotate_left
                    · simp only [Act.put, List.setIfInBounds_toArray, List.set_cons_zero, List.set_cons_succ, i64_w, i32_w]
                      rfl
                    refine take_ (i := 5) (N := some 40) (v := ?_) (a' := ?_) #[true, true, true, true, true, true, true, true, true, true, false, true, false, false, false, false, false] rfl rfl (take_ofW HT_.out HW_.out (by kernel_rfl)) (fun _ _ _ h => h) (Or.inl ⟨by rfl, ?_⟩) hHeld ?_ ?_
                    rotate_left
                    · rintro w' ⟨s0, s1, s2, s3⟩
                      go_simp
                      with_reducible rfl
                    rotate_left
                    · simp only [Act.put, List.setIfInBounds_toArray, List.set_cons_zero, List.set_cons_succ, i64_w, i32_w]
                      rfl
                    refine take_ (i := 10) (N := some 45) (v := ?_) (a' := ?_) #[true, true, true, true, true, true, true, true, true, true, true, true, false, false, false, false, false] rfl rfl (take_ofW HT_.out HW_.out (by kernel_rfl)) (fun _ _ _ h => h) (Or.inl ⟨by rfl, ?_⟩) hHeld ?_ ?_
                    rotate_left
                    · rintro w' ⟨s0, s1, s2, s3⟩
                      go_simp
                      with_reducible rfl
                    rotate_left
                    · simp only [Act.put, List.setIfInBounds_toArray, List.set_cons_zero, List.set_cons_succ, i64_w, i32_w]
                      rfl
                    refine one_ (i := 12) (N := some 47) #[true, true, true, true, true, true, true, true, true, true, true, true, true, false, false, false, false] rfl rfl (one_of HT_.out (by kernel_rfl)) (by decide) (fun K hK => ?_)
                    refine goes_ Try.func55 (by kernel_rfl) rfl #[.int .i64 a1, .int .i64 ((rd_T94 l0 a2).f1), .int .i64 ((rd_T94 l0 a3).f1), .int .i64 a4] (by rfl) rfl rfl (by (try simp only [List.map_toArray, List.map_cons, List.map_nil]); first | done | rfl | (simp only [List.length_drop, List.length_take]; rfl)) ?_
                    with_reducible refine (cents_MulDiv.calls a1 ((rd_T94 l0 a2).f1) ((rd_T94 l0 a3).f1) a4 t163 t164 _ A17.out).mono ?_
                    rintro e w19 ⟨rfl, hb⟩
                    refine ⟨_, rfl, ?_⟩
                    have n0_ := Aside0.mk (below_step (by repeat (first | (with_reducible first | exact HB.out | apply below_alloc | apply pw_below_drewN | apply below_drew1) | exact HB.out)) hb)
                    clear HB
                    have HB := n0_
                    clear n0_
                    (try clear hb)
                    (try clear hb2)
                    (try clear hk)
                    (try clear hi)
                    refine hK.out _ _ ⟨((HB.out.cell (World.block_lt_of_cell? w _ hw161_0)).trans hw161_0), ((HB.out.cell (World.block_lt_of_cell? w _ hw161_1)).trans hw161_1), ((HB.out.cell (World.block_lt_of_cell? w _ hw162_0)).trans hw162_0), ((HB.out.cell (World.block_lt_of_cell? w _ hw162_1)).trans hw162_1)⟩ (fun hHeld => ?_)
                    clear hK K
                    refine norm_ (a' := ?_) ?_ ?_
                    rotate_left
                    · show Act.put _ (some 47) _ = _
                      simp only [Act.put, List.setIfInBounds_toArray, List.set_cons_zero, List.set_cons_succ, i64_w, i32_w]
                      rfl
                    refine pure_ (i := 13) (N := some 48) (v := ?_) (a' := ?_) #[true, true, true, true, true, true, true, true, true, true, true, true, true, true, false, false, false] rfl rfl (any_of HT_.out (by kernel_rfl)) (fun _ _ _ h => h) (Or.inl ⟨by rfl, ?_⟩) ?_ ?_
                    rotate_left
                    · intro w'
                      go_simp
                      with_reducible rfl
                    rotate_left
                    · simp only [Act.put, List.setIfInBounds_toArray, List.set_cons_zero, List.set_cons_succ, i64_w, i32_w]
                      rfl
                    refine pure_ (i := 14) (N := some 49) (v := ?_) (a' := ?_) #[true, true, true, true, true, true, true, true, true, true, true, true, true, true, true, false, false] rfl rfl (any_of HT_.out (by kernel_rfl)) (fun _ _ _ h => h) (Or.inl ⟨by rfl, ?_⟩) ?_ ?_
                    rotate_left
                    · intro w'
                      go_simp
                      with_reducible rfl
                    rotate_left
                    · simp only [Act.put, List.setIfInBounds_toArray, List.set_cons_zero, List.set_cons_succ, i64_w, i32_w]
                      rfl
                    refine pure_ (i := 15) (N := some 10) (v := ?_) (a' := ?_) #[true, true, true, true, true, true, true, true, true, true, true, true, true, true, true, true, false] rfl rfl (any_of HT_.out (by kernel_rfl)) (fun _ _ _ h => h) (Or.inl ⟨by rfl, ?_⟩) ?_ ?_
                    rotate_left
                    · intro w'
                      go_simp
                      with_reducible rfl
                    rotate_left
                    · simp only [Act.put, List.setIfInBounds_toArray, List.set_cons_zero, List.set_cons_succ, i64_w, i32_w]
                      rfl
                    refine pure_ (i := 16) (N := some 11) (v := ?_) (a' := ?_) #[true, true, true, true, true, true, true, true, true, true, true, true, true, true, true, true, true] rfl rfl (any_of HT_.out (by kernel_rfl)) (fun _ _ _ h => h) (Or.inl ⟨by rfl, ?_⟩) ?_ ?_
                    rotate_left
                    · intro w'
                      go_simp
                      with_reducible rfl
                    rotate_left
                    · simp only [Act.put, List.setIfInBounds_toArray, List.set_cons_zero, List.set_cons_succ, i64_w, i32_w]
                      rfl
                    refine done_ (done_of HT_.out (by kernel_rfl)) ?_
                    try go_wp2
                    go_ret2
                    exact ⟨by first | rfl | (simp [errW_none, errW_some] <;> rfl) | (simp [*, errW_none, errW_some] <;> rfl), by repeat (first | (with_reducible first | exact HB.out | apply below_alloc | apply pw_below_drewN | apply below_drew1) | exact HB.out)⟩
                  · rw [if_neg c16] at H
                    exact absurd H (by simp)
                · rw [if_neg c15] at H
                  exact absurd H (by simp)
              · rw [if_neg c14] at H
                exact absurd H (by simp)
            · rw [if_neg c13] at H
              exact absurd H (by simp)
  · rw [if_neg c8] at H
    have c8b0 : (t160 == 0) = false := beq_eq_false_iff_ne.mpr c8
    have c8b1 : (t160 != 0) = true := bne_iff_ne.mpr c8
    (try simp only [c8b0, c8b1])
    simp only [Option.some.injEq, Prod.mk.injEq] at H
    obtain ⟨rfl, rfl⟩ := H
    go_wp2
    go_ret2
    exact ⟨by first | rfl | (simp [errW_none, errW_some] <;> rfl) | (simp [*, errW_none, errW_some] <;> rfl), by repeat (first | (with_reducible first | exact HB.out | apply below_alloc | apply pw_below_drewN | apply below_drew1) | exact HB.out)⟩
def rate_Base.f (k : Nat) (l0 : List (S94)) (a1 : Int) (a2 : Int) (a3 : Int) : Option (Int × Int) := (rate_Convert.f k l0 a1 a2 0 a3).bind fun bt165 => (some (bt165.1, bt165.2))
theorem rate_Base.mono : ∀ a0 a1 a2 a3 k, LeO (rate_Base.f k a0 a1 a2 a3) (rate_Base.f (k + 1) a0 a1 a2 a3) := by
  intro a0 a1 a2 a3 k
  unfold rate_Base.f
  repeat' first
      | (with_reducible exact rate_Convert.mono _ _ _ _ _ _)
      | (with_reducible exact LeO.refl _)
      | (with_reducible exact LeO.none _)
      | (with_reducible refine LeO.ite ?_ ?_)
      | (with_reducible refine LeO.bind ?_ (fun _ => ?_))
      | exact rate_Convert.mono _ _ _ _ _ _
      | exact LeO.none _
      | refine LeO.ite ?_ ?_
      | refine LeO.bind ?_ (fun _ => ?_)
set_option maxHeartbeats 8000000 in
set_option maxRecDepth 100000 in
theorem rate_Base.calls (k : Nat) (A0 : Option Addr) (c0 : Nat) (l0 : List (S94)) (a1 : Int) (a2 : Int) (a3 : Int) (r1 : Int) (r2 : Int) (w : World) (hr0 : Kd.C k94 w A0 l0.length l0) (hc0 : l0.length ≤ c0) (h : rate_Base.f k l0 a1 a2 a3 = some (r1, r2)) :
    Calls Try.prog 54 #[.slice A0 l0.length c0, .int .i64 a1, .int .i64 a2, .int .i64 a3] w fun e w' => e = .returned (.tuple #[.int .i64 r1, .int .i64 r2]) ∧ Below w.heap.size w w' := by
  have HR0 := Aside0.mk hr0
  have HC0 := Aside0.mk hc0
  clear hr0 hc0
  have HB := Aside0.mk (Below.refl w.heap.size w)
  have H : ((rate_Convert.f k l0 a1 a2 0 a3).bind fun bt165 => (some (bt165.1, bt165.2))) = some (r1, r2) := h
  clear h
  replace H := Option.bind_eq_some_iff.mp H
  obtain ⟨⟨t165, t166⟩, A50, H⟩ := H
  replace H : (some (t165, t166)) = some (r1, r2) := H
  have A5 := Aside0.mk A50
  clear A50
  simp only [Option.some.injEq, Prod.mk.injEq] at H
  obtain ⟨rfl, rfl⟩ := H
  go_enter Try.func54, Try.ntmps54
  go_wp2_with (first | ((with_reducible refine gate_callee (f := 92) rfl ?_); refine goesL_ (some 14) rfl rfl Try.func92 (by kernel_rfl) rfl #[.slice A0 l0.length c0, .int .i64 a1, .int .i64 a2, .int .i64 0, .int .i64 a3] rfl (by (try simp only [List.map_toArray, List.map_cons, List.map_nil]); first | done | rfl | (simp only [List.length_drop, List.length_take]; rfl)) ?_; (with_reducible refine (rate_Convert.calls k _ _ l0 a1 a2 0 a3 t165 t166 _ ?side1 ?side2 A5.out).mono ?_); (case side1 => repeat (first | exact HR0.out | (with_reducible refine Kd.C_alloc ?_ _) | (with_reducible refine Kd.C_drewN ?_ _) | (with_reducible refine Kd.C_drew ?_))); (case side2 => exact HC0.out); rintro e w6 ⟨rfl, hb⟩; refine ⟨_, rfl, ?_⟩; have n0_ := Aside0.mk (below_step (by repeat (first | (with_reducible first | exact HB.out | apply below_alloc | apply pw_below_drewN | apply below_drew1) | exact HB.out)) hb); clear HB; have HB := n0_; clear n0_; (try clear hb); (try clear hb2); (try clear hk); (try clear hi)))
  go_ret2
  exact ⟨by first | rfl | (simp [errW_none, errW_some] <;> rfl) | (simp [*, errW_none, errW_some] <;> rfl), by repeat (first | (with_reducible first | exact HB.out | apply below_alloc | apply pw_below_drewN | apply below_drew1) | exact HB.out)⟩
def asset_Worth.f (k : Nat) (a0_0 : ByteArray) (a0_1 : Int) (a0_2 : Int) (a0_3 : Int) (a0_4 : Int) (a0_5 : Int) (a1 : Int) (l2 : List (S94)) : Option (Int × Int) := (asset_Value.f k a0_0 a0_1 a0_2 a0_3 a0_4 a0_5 a1).bind fun bt168 => (if bt168.2 = 0 then ((rate_Base.f k l2 bt168.1 a0_2 3).bind fun bt170 => (if bt170.2 = 0 then ((cents_MulDiv.f bt170.1 (wrap64 (1000 - a0_4)) 1000 3).bind fun bt172 => (some (bt172.1, bt172.2))) else (some (0, bt170.2)))) else (some (0, bt168.2)))
theorem asset_Worth.mono : ∀ a0 a1 a2 a3 a4 a5 a6 a7 k, LeO (asset_Worth.f k a0 a1 a2 a3 a4 a5 a6 a7) (asset_Worth.f (k + 1) a0 a1 a2 a3 a4 a5 a6 a7) := by
  intro a0 a1 a2 a3 a4 a5 a6 a7 k
  unfold asset_Worth.f
  repeat' first
      | (with_reducible exact asset_Value.mono _ _ _ _ _ _ _ _)
      | (with_reducible exact rate_Base.mono _ _ _ _ _)
      | (with_reducible exact LeO.refl _)
      | (with_reducible exact LeO.none _)
      | (with_reducible refine LeO.ite ?_ ?_)
      | (with_reducible refine LeO.bind ?_ (fun _ => ?_))
      | exact asset_Value.mono _ _ _ _ _ _ _ _
      | exact rate_Base.mono _ _ _ _ _
      | exact LeO.none _
      | refine LeO.ite ?_ ?_
      | refine LeO.bind ?_ (fun _ => ?_)
set_option maxHeartbeats 8000000 in
set_option maxRecDepth 100000 in
theorem asset_Worth.calls (k : Nat) (a0_0 : ByteArray) (a0_1 : Int) (a0_2 : Int) (a0_3 : Int) (a0_4 : Int) (a0_5 : Int) (a1 : Int) (A2 : Option Addr) (c2 : Nat) (l2 : List (S94)) (r1 : Int) (r2 : Int) (w : World) (hr2 : Kd.C k94 w A2 l2.length l2) (hc2 : l2.length ≤ c2) (h : asset_Worth.f k a0_0 a0_1 a0_2 a0_3 a0_4 a0_5 a1 l2 = some (r1, r2)) :
    Calls Try.prog 17 #[.agg #[.string a0_0, .int .i64 a0_1, .int .i64 a0_2, .int .i64 a0_3, .int .i64 a0_4, .int .i64 a0_5], .int .i64 a1, .slice A2 l2.length c2] w fun e w' => e = .returned (.tuple #[.int .i64 r1, .int .i64 r2]) ∧ Below w.heap.size w w' := by
  have hu23 := Try.underlying23
  have HR2 := Aside0.mk hr2
  have HC2 := Aside0.mk hc2
  clear hr2 hc2
  have HB := Aside0.mk (Below.refl w.heap.size w)
  have H : ((asset_Value.f k a0_0 a0_1 a0_2 a0_3 a0_4 a0_5 a1).bind fun bt168 => (if bt168.2 = 0 then ((rate_Base.f k l2 bt168.1 a0_2 3).bind fun bt170 => (if bt170.2 = 0 then ((cents_MulDiv.f bt170.1 (wrap64 (1000 - a0_4)) 1000 3).bind fun bt172 => (some (bt172.1, bt172.2))) else (some (0, bt170.2)))) else (some (0, bt168.2)))) = some (r1, r2) := h
  clear h
  replace H := Option.bind_eq_some_iff.mp H
  obtain ⟨⟨t168, t169⟩, A40, H⟩ := H
  replace H : (if t169 = 0 then ((rate_Base.f k l2 t168 a0_2 3).bind fun bt170 => (if bt170.2 = 0 then ((cents_MulDiv.f bt170.1 (wrap64 (1000 - a0_4)) 1000 3).bind fun bt172 => (some (bt172.1, bt172.2))) else (some (0, bt170.2)))) else (some (0, t169))) = some (r1, r2) := H
  have A4 := Aside0.mk A40
  clear A40
  go_enter Try.func17, Try.ntmps17
  go_upto_if 17 with (first | ((with_reducible refine gate_dst (N := 3) rfl ?_); refine box_event ?hg (N := 3) ?hd (cs := #[.string a0_0, .int .i64 a0_1, .int .i64 a0_2, .int .i64 a0_3, .int .i64 a0_4, .int .i64 a0_5]) (t := 23) ?hr ?_; (case hd => rfl); (case hg => rfl); (case hr => first | (go_simp; done) | (go_simp; rfl)); intro gb167 hg w5 hbox hb; have n0_ := Aside0.mk (below_step (by repeat (first | (with_reducible first | exact HB.out | apply below_alloc | apply pw_below_drewN | apply below_drew1) | exact HB.out)) hb); have n1_ := Aside0.mk (hbox); have n2_ := Aside0.mk ((by rw [hg]; exact (below_size (by repeat (first | (with_reducible first | exact HB.out | apply below_alloc | apply pw_below_drewN | apply below_drew1) | exact HB.out))) : w.heap.size ≤ gb167)); have n3_ := Aside0.mk ((by rw [hg]; exact (below_size (by repeat (first | (with_reducible first | exact HB.out | apply below_alloc | apply pw_below_drewN | apply below_drew1) | exact HB.out))) : w.heap.size ≤ gb167)); clear HB; have HB := n0_; have BK167 := n1_; have GW167 := n2_; have GE167 := n3_; clear n0_ n1_ n2_ n3_; clear hb hbox hg; have hcz6_0 : w5.cell? ⟨gb167, 0, none⟩ = some (.string a0_0) := (blk_cell BK167.out 0).trans rfl; have hcz6_1 : w5.cell? ⟨gb167, 1, none⟩ = some (.int .i64 a0_1) := (blk_cell BK167.out 1).trans rfl; have hcz6_2 : w5.cell? ⟨gb167, 2, none⟩ = some (.int .i64 a0_2) := (blk_cell BK167.out 2).trans rfl; have hcz6_3 : w5.cell? ⟨gb167, 3, none⟩ = some (.int .i64 a0_3) := (blk_cell BK167.out 3).trans rfl; have hcz6_4 : w5.cell? ⟨gb167, 4, none⟩ = some (.int .i64 a0_4) := (blk_cell BK167.out 4).trans rfl; have hcz6_5 : w5.cell? ⟨gb167, 5, none⟩ = some (.int .i64 a0_5) := (blk_cell BK167.out 5).trans rfl; have hfz6_0 := blk_frozen BK167.out 0; have hfz6_1 := blk_frozen BK167.out 1; have hfz6_2 := blk_frozen BK167.out 2; have hfz6_3 := blk_frozen BK167.out 3; have hfz6_4 := blk_frozen BK167.out 4; have hfz6_5 := blk_frozen BK167.out 5) | ((with_reducible refine gate_callee (f := 15) rfl ?_); refine goesL_ (some 13) rfl rfl Try.func15 (by kernel_rfl) rfl #[.agg #[.string a0_0, .int .i64 a0_1, .int .i64 a0_2, .int .i64 a0_3, .int .i64 a0_4, .int .i64 a0_5], .int .i64 a1] rfl (by (try simp only [List.map_toArray, List.map_cons, List.map_nil]); first | done | rfl | (simp only [List.length_drop, List.length_take]; rfl)) ?_; (with_reducible refine (asset_Value.calls k a0_0 a0_1 a0_2 a0_3 a0_4 a0_5 a1 t168 t169 _ A4.out).mono ?_); rintro e w7 ⟨rfl, hb⟩; refine ⟨_, rfl, ?_⟩; have n0_ := Aside0.mk (blk_below (g := gb167) (o := .cells #[.string a0_0, .int .i64 a0_1, .int .i64 a0_2, .int .i64 a0_3, .int .i64 a0_4, .int .i64 a0_5] 23 (0, 0)) (by (with_reducible repeat (first | refine blk_drewN ?_ _ | refine blk_drew ?_ | refine blk_alloc ?_ _)); exact BK167.out) hb); have n1_ := Aside0.mk (below_step (by repeat (first | (with_reducible first | exact HB.out | apply below_alloc | apply pw_below_drewN | apply below_drew1 | refine below_set ?_ GE167.out) | exact HB.out)) hb); clear BK167; clear HB; have BK167 := n0_; have HB := n1_; clear n0_ n1_; (try clear hb); (try clear hb2); (try clear hk); (try clear hi)))
  (try simp only [Act.put, List.setIfInBounds_toArray, List.set_cons_zero, List.set_cons_succ])
  by_cases c8 : t169 = 0
  · rw [if_pos c8] at H
    have c8b0 : (t169 == 0) = true := beq_iff_eq.mpr c8
    have c8b1 : (t169 != 0) = false := bne_eq_false_iff_eq.mpr c8
    clear c8
    (try simp only [c8b0, c8b1])
    replace H := Option.bind_eq_some_iff.mp H
    obtain ⟨⟨t170, t171⟩, A90, H⟩ := H
    replace H : (if t171 = 0 then ((cents_MulDiv.f t170 (wrap64 (1000 - a0_4)) 1000 3).bind fun bt172 => (some (bt172.1, bt172.2))) else (some (0, t171))) = some (r1, r2) := H
    have A9 := Aside0.mk A90
    clear A90
    have hcz10_0 : w7.cell? ⟨gb167, 0, none⟩ = some (.string a0_0) := (blk_cell BK167.out 0).trans rfl
    have hcz10_1 : w7.cell? ⟨gb167, 1, none⟩ = some (.int .i64 a0_1) := (blk_cell BK167.out 1).trans rfl
    have hcz10_2 : w7.cell? ⟨gb167, 2, none⟩ = some (.int .i64 a0_2) := (blk_cell BK167.out 2).trans rfl
    have hcz10_3 : w7.cell? ⟨gb167, 3, none⟩ = some (.int .i64 a0_3) := (blk_cell BK167.out 3).trans rfl
    have hcz10_4 : w7.cell? ⟨gb167, 4, none⟩ = some (.int .i64 a0_4) := (blk_cell BK167.out 4).trans rfl
    have hcz10_5 : w7.cell? ⟨gb167, 5, none⟩ = some (.int .i64 a0_5) := (blk_cell BK167.out 5).trans rfl
    have hfz10_0 := blk_frozen BK167.out 0
    have hfz10_1 := blk_frozen BK167.out 1
    have hfz10_2 := blk_frozen BK167.out 2
    have hfz10_3 := blk_frozen BK167.out 3
    have hfz10_4 := blk_frozen BK167.out 4
    have hfz10_5 := blk_frozen BK167.out 5
    go_upto_if 28 with (first | ((with_reducible refine gate_callee (f := 54) rfl ?_); refine goesL_ (some 24) rfl rfl Try.func54 (by kernel_rfl) rfl #[.slice A2 l2.length c2, .int .i64 t168, .int .i64 a0_2, .int .i64 3] rfl (by (try simp only [List.map_toArray, List.map_cons, List.map_nil]); first | done | rfl | (simp only [List.length_drop, List.length_take]; rfl)) ?_; (with_reducible refine (rate_Base.calls k _ _ l2 t168 a0_2 3 t170 t171 _ ?side1 ?side2 A9.out).mono ?_); (case side1 => repeat (first | exact (Kd.C_below HR2.out HB.out) | (with_reducible refine Kd.C_alloc ?_ _) | (with_reducible refine Kd.C_drewN ?_ _) | (with_reducible refine Kd.C_drew ?_))); (case side2 => exact HC2.out); rintro e w11 ⟨rfl, hb⟩; refine ⟨_, rfl, ?_⟩; have n0_ := Aside0.mk (blk_below (g := gb167) (o := .cells #[.string a0_0, .int .i64 a0_1, .int .i64 a0_2, .int .i64 a0_3, .int .i64 a0_4, .int .i64 a0_5] 23 (0, 0)) (by (with_reducible repeat (first | refine blk_drewN ?_ _ | refine blk_drew ?_ | refine blk_alloc ?_ _)); exact BK167.out) hb); have n1_ := Aside0.mk (below_step (by repeat (first | (with_reducible first | exact HB.out | apply below_alloc | apply pw_below_drewN | apply below_drew1 | refine below_set ?_ GE167.out) | exact HB.out)) hb); clear BK167; clear HB; have BK167 := n0_; have HB := n1_; clear n0_ n1_; (try clear hb); (try clear hb2); (try clear hk); (try clear hi)))
    (try simp only [Act.put, List.setIfInBounds_toArray, List.set_cons_zero, List.set_cons_succ])
    by_cases c12 : t171 = 0
    · rw [if_pos c12] at H
      have c12b0 : (t171 == 0) = true := beq_iff_eq.mpr c12
      have c12b1 : (t171 != 0) = false := bne_eq_false_iff_eq.mpr c12
      clear c12
      (try simp only [c12b0, c12b1])
      replace H := Option.bind_eq_some_iff.mp H
      obtain ⟨⟨t172, t173⟩, A130, H⟩ := H
      replace H : (some (t172, t173)) = some (r1, r2) := H
      have A13 := Aside0.mk A130
      clear A130
      simp only [Option.some.injEq, Prod.mk.injEq] at H
      obtain ⟨rfl, rfl⟩ := H
      have hcz14_0 : w11.cell? ⟨gb167, 0, none⟩ = some (.string a0_0) := (blk_cell BK167.out 0).trans rfl
      have hcz14_1 : w11.cell? ⟨gb167, 1, none⟩ = some (.int .i64 a0_1) := (blk_cell BK167.out 1).trans rfl
      have hcz14_2 : w11.cell? ⟨gb167, 2, none⟩ = some (.int .i64 a0_2) := (blk_cell BK167.out 2).trans rfl
      have hcz14_3 : w11.cell? ⟨gb167, 3, none⟩ = some (.int .i64 a0_3) := (blk_cell BK167.out 3).trans rfl
      have hcz14_4 : w11.cell? ⟨gb167, 4, none⟩ = some (.int .i64 a0_4) := (blk_cell BK167.out 4).trans rfl
      have hcz14_5 : w11.cell? ⟨gb167, 5, none⟩ = some (.int .i64 a0_5) := (blk_cell BK167.out 5).trans rfl
      have hfz14_0 := blk_frozen BK167.out 0
      have hfz14_1 := blk_frozen BK167.out 1
      have hfz14_2 := blk_frozen BK167.out 2
      have hfz14_3 := blk_frozen BK167.out 3
      have hfz14_4 := blk_frozen BK167.out 4
      have hfz14_5 := blk_frozen BK167.out 5
      go_wp2_with (first | ((with_reducible refine gate_callee (f := 55) rfl ?_); refine goesL_ (some 34) rfl rfl Try.func55 (by kernel_rfl) rfl #[.int .i64 t170, .int .i64 (wrap64 (1000 - a0_4)), .int .i64 1000, .int .i64 3] rfl (by (try simp only [List.map_toArray, List.map_cons, List.map_nil]); first | done | rfl | (simp only [List.length_drop, List.length_take]; rfl)) ?_; (with_reducible refine (cents_MulDiv.calls t170 (wrap64 (1000 - a0_4)) 1000 3 t172 t173 _ A13.out).mono ?_); rintro e w15 ⟨rfl, hb⟩; refine ⟨_, rfl, ?_⟩; have n0_ := Aside0.mk (blk_below (g := gb167) (o := .cells #[.string a0_0, .int .i64 a0_1, .int .i64 a0_2, .int .i64 a0_3, .int .i64 a0_4, .int .i64 a0_5] 23 (0, 0)) (by (with_reducible repeat (first | refine blk_drewN ?_ _ | refine blk_drew ?_ | refine blk_alloc ?_ _)); exact BK167.out) hb); have n1_ := Aside0.mk (below_step (by repeat (first | (with_reducible first | exact HB.out | apply below_alloc | apply pw_below_drewN | apply below_drew1 | refine below_set ?_ GE167.out) | exact HB.out)) hb); clear BK167; clear HB; have BK167 := n0_; have HB := n1_; clear n0_ n1_; (try clear hb); (try clear hb2); (try clear hk); (try clear hi)))
      go_ret2
      exact ⟨by first | rfl | (simp [errW_none, errW_some] <;> rfl) | (simp [*, errW_none, errW_some] <;> rfl), by repeat (first | (with_reducible first | exact HB.out | apply below_alloc | apply pw_below_drewN | apply below_drew1 | refine below_set ?_ GE167.out) | exact HB.out)⟩
    · rw [if_neg c12] at H
      have c12b0 : (t171 == 0) = false := beq_eq_false_iff_ne.mpr c12
      have c12b1 : (t171 != 0) = true := bne_iff_ne.mpr c12
      (try simp only [c12b0, c12b1])
      simp only [Option.some.injEq, Prod.mk.injEq] at H
      obtain ⟨rfl, rfl⟩ := H
      go_wp2
      go_ret2
      exact ⟨by first | rfl | (simp [errW_none, errW_some] <;> rfl) | (simp [*, errW_none, errW_some] <;> rfl), by repeat (first | (with_reducible first | exact HB.out | apply below_alloc | apply pw_below_drewN | apply below_drew1 | refine below_set ?_ GE167.out) | exact HB.out)⟩
  · rw [if_neg c8] at H
    have c8b0 : (t169 == 0) = false := beq_eq_false_iff_ne.mpr c8
    have c8b1 : (t169 != 0) = true := bne_iff_ne.mpr c8
    (try simp only [c8b0, c8b1])
    simp only [Option.some.injEq, Prod.mk.injEq] at H
    obtain ⟨rfl, rfl⟩ := H
    go_wp2
    go_ret2
    exact ⟨by first | rfl | (simp [errW_none, errW_some] <;> rfl) | (simp [*, errW_none, errW_some] <;> rfl), by repeat (first | (with_reducible first | exact HB.out | apply below_alloc | apply pw_below_drewN | apply below_drew1 | refine below_set ?_ GE167.out) | exact HB.out)⟩
def asset_named_api_Asset.l0 : Nat → ByteArray → List (S23) → Int → Int → Option (ByteArray × Int × Int × Int × Int × Int × Bool)
  | 0, _, _, _, _ => none
  | k + 1, x1, x11, x12, x13 => if x13 < x12 then (if 0 ≤ x13 then (if x13 < (x11.length : Int) then ((asset_Find_1.f ((rd_T23 x11 x13).f0) ((rd_T23 x11 x13).f1) ((rd_T23 x11 x13).f2) ((rd_T23 x11 x13).f3) ((rd_T23 x11 x13).f4) ((rd_T23 x11 x13).f5)).bind fun t261 => (if t261.toList = x1.toList then (some ((rd_T23 x11 x13).f0, (rd_T23 x11 x13).f1, (rd_T23 x11 x13).f2, (rd_T23 x11 x13).f3, (rd_T23 x11 x13).f4, (rd_T23 x11 x13).f5, true)) else (asset_named_api_Asset.l0 k x1 x11 x12 (wrap64 (x13 + 1))))) else (none)) else (none)) else (some ((⟨#[]⟩ : ByteArray), 0, 0, 0, 0, 0, false))
def asset_named_api_Asset.f (k : Nat) (l0 : List (S23)) (a1 : ByteArray)  : Option (ByteArray × Int × Int × Int × Int × Int × Bool) := asset_named_api_Asset.l0 k a1 l0 (l0.length : Int) 0
theorem asset_named_api_Asset.mono_l : ∀ k, (∀ y0 y1 y2 y3, LeO (asset_named_api_Asset.l0 k y0 y1 y2 y3) (asset_named_api_Asset.l0 (k + 1) y0 y1 y2 y3))
  | 0 => fun _ _ _ _ r h => by simp [asset_named_api_Asset.l0] at h
  | k + 1 => by
    have ih0 := asset_named_api_Asset.mono_l k
    · intro y0 y1 y2 y3
      unfold asset_named_api_Asset.l0
      repeat' first
      | (with_reducible exact ih0 _ _ _ _)
      | (with_reducible exact LeO.refl _)
      | (with_reducible exact LeO.none _)
      | (with_reducible refine LeO.ite ?_ ?_)
      | (with_reducible refine LeO.bind ?_ (fun _ => ?_))
      | exact ih0 _ _ _ _
      | exact LeO.none _
      | refine LeO.ite ?_ ?_
      | refine LeO.bind ?_ (fun _ => ?_)
theorem asset_named_api_Asset.mono : ∀ a0 a1 k, LeO (asset_named_api_Asset.f k a0 a1) (asset_named_api_Asset.f (k + 1) a0 a1) := by
  intro a0 a1 k
  have ih0 := asset_named_api_Asset.mono_l k
  unfold asset_named_api_Asset.f
  repeat' first
      | (with_reducible exact ih0 _ _ _ _)
      | (with_reducible exact LeO.refl _)
      | (with_reducible exact LeO.none _)
      | (with_reducible refine LeO.ite ?_ ?_)
      | (with_reducible refine LeO.bind ?_ (fun _ => ?_))
      | exact ih0 _ _ _ _
      | exact LeO.none _
      | refine LeO.ite ?_ ?_
      | refine LeO.bind ?_ (fun _ => ?_)
set_option maxHeartbeats 8000000 in
set_option maxRecDepth 100000 in
theorem asset_named_api_Asset.calls (k : Nat) (A0 : Option Addr) (c0 : Nat) (l0 : List (S23)) (a1 : ByteArray)  (r1 : ByteArray) (r2 : Int) (r3 : Int) (r4 : Int) (r5 : Int) (r6 : Int) (r7 : Bool) (w : World) (hr0 : Kd.C k23 w A0 l0.length l0) (hc0 : l0.length ≤ c0) (h : asset_named_api_Asset.f k l0 a1 = some (r1, r2, r3, r4, r5, r6, r7)) :
    Calls Try.prog 62 #[.slice A0 l0.length c0, .string a1, .func (.func 63) #[] #[]] w fun e w' => e = .returned (.tuple #[.agg #[.string r1, .int .i64 r2, .int .i64 r3, .int .i64 r4, .int .i64 r5, .int .i64 r6], .bool r7]) ∧ Below w.heap.size w w' := by
  have hu23 := Try.underlying23
  have HR0 := Aside0.mk hr0
  have HC0 := Aside0.mk hc0
  clear hr0 hc0
  have HB := Aside0.mk (Below.refl w.heap.size w)
  have H : (asset_named_api_Asset.l0 k a1 l0 (l0.length : Int) 0) = some (r1, r2, r3, r4, r5, r6, r7) := h
  clear h
  have H' := Aside0.mk H
  clear H
  go_enter Try.func62, Try.ntmps62
  go_wp2_with (first | ((with_reducible refine gate_dst (N := 6) rfl ?_); refine box_event ?hg (N := 6) ?hd (cs := #[.string (⟨#[]⟩ : ByteArray), .int .i64 0, .int .i64 0, .int .i64 0, .int .i64 0, .int .i64 0]) (t := 23) ?hr ?_; (case hd => rfl); (case hg => rfl); (case hr => first | (go_simp; done) | (go_simp; rfl)); intro gb258 hg w4 hbox hb; have n0_ := Aside0.mk (below_step (by repeat (first | (with_reducible first | exact HB.out | apply below_alloc | apply pw_below_drewN | apply below_drew1) | exact HB.out)) hb); have n1_ := Aside0.mk (hbox); have n2_ := Aside0.mk ((by rw [hg]; exact (below_size (by repeat (first | (with_reducible first | exact HB.out | apply below_alloc | apply pw_below_drewN | apply below_drew1) | exact HB.out))) : w.heap.size ≤ gb258)); have n3_ := Aside0.mk ((by rw [hg]; exact (below_size (by repeat (first | (with_reducible first | exact HB.out | apply below_alloc | apply pw_below_drewN | apply below_drew1) | exact HB.out))) : w.heap.size ≤ gb258)); clear HB; have HB := n0_; have BK258 := n1_; have GW258 := n2_; have GE258 := n3_; clear n0_ n1_ n2_ n3_; clear hb hbox hg))
  go_loopg [13] k (fun kq v13 w' => ∃ (x13_1 : Int) (x259000_1 : ByteArray) (x259001_1 : Int) (x259002_1 : Int) (x259003_1 : Int) (x259004_1 : Int) (x259005_1 : Int), v13 = .int .i64 x13_1 ∧ Aside0 (asset_named_api_Asset.l0 kq a1 l0 (l0.length : Int) x13_1 = some (r1, r2, r3, r4, r5, r6, r7)) ∧ Aside0 (kq ≤ k) ∧ Aside0 (w'.heap[gb258]? = some (.cells #[.string x259000_1, .int .i64 x259001_1, .int .i64 x259002_1, .int .i64 x259003_1, .int .i64 x259004_1, .int .i64 x259005_1] 23 (0, 0))) ∧ Aside0 (Below w.heap.size w w'))
  case atStart => exact ⟨(0), ((⟨#[]⟩ : ByteArray)), (0), (0), (0), (0), (0), (by first | rfl | (simp; done) | (simp [*]; done)), H', ⟨Nat.le_refl _⟩, ⟨by (with_reducible repeat (first | refine blk_drewN ?_ _ | refine blk_drew ?_ | refine blk_alloc ?_ _)); exact BK258.out⟩, ⟨by repeat (first | (with_reducible first | exact HB.out | apply below_alloc | apply pw_below_drewN | apply below_drew1 | refine below_set ?_ GE258.out) | exact HB.out)⟩⟩
  case round =>
    clear H'
    try clear p2
    obtain ⟨x13_1, x259000_1, x259001_1, x259002_1, x259003_1, x259004_1, x259005_1, rfl, HA, HK1, BK258, HB⟩ := hrel
    cases gk with
    | zero => exact absurd HA.out (by simp [asset_named_api_Asset.l0])
    | succ k1 =>
      have H := HA.out
      clear HA
      simp only [asset_named_api_Asset.l0] at H
      by_cases c5 : x13_1 < (l0.length : Int)
      · rw [if_pos c5] at H
        have c5b0 : decide (x13_1 < (l0.length : Int)) = true := decide_eq_true c5
        clear c5
        (try simp only [c5b0])
        by_cases c6 : 0 ≤ x13_1
        · rw [if_pos c6] at H
          have c6b0 : decide (0 ≤ x13_1) = true := decide_eq_true c6
          clear c6
          by_cases c7 : x13_1 < (l0.length : Int)
          · rw [if_pos c7] at H
            have c7b0 : decide (x13_1 < (l0.length : Int)) = true := decide_eq_true c7
            clear c7
            replace H := Option.bind_eq_some_iff.mp H
            obtain ⟨t261, A80, H⟩ := H
            replace H : (if t261.toList = a1.toList then (some ((rd_T23 l0 x13_1).f0, (rd_T23 l0 x13_1).f1, (rd_T23 l0 x13_1).f2, (rd_T23 l0 x13_1).f3, (rd_T23 l0 x13_1).f4, (rd_T23 l0 x13_1).f5, true)) else (asset_named_api_Asset.l0 k1 a1 l0 (l0.length : Int) (wrap64 (x13_1 + 1)))) = some (r1, r2, r3, r4, r5, r6, r7) := H
            have A8 := Aside0.mk A80
            clear A80
            have p259 : 0 ≤ (x13_1 : Int) := of_decide_eq_true (by first | (with_reducible assumption) | assumption)
            have q259 : x13_1 < (l0.length : Int) := of_decide_eq_true (by first | (with_reducible assumption) | assumption)
            obtain ⟨ad259, e259, hx259_0, hx259_1, hx259_2, hx259_3, hx259_4, hx259_5⟩ := at_T23 HR0.out x13_1 p259 q259
            cases e259
            replace hx259_0 := (HB.out.cell (World.block_lt_of_cell? w _ hx259_0)).trans hx259_0
            replace hx259_1 := (HB.out.cell (World.block_lt_of_cell? w _ hx259_1)).trans hx259_1
            replace hx259_2 := (HB.out.cell (World.block_lt_of_cell? w _ hx259_2)).trans hx259_2
            replace hx259_3 := (HB.out.cell (World.block_lt_of_cell? w _ hx259_3)).trans hx259_3
            replace hx259_4 := (HB.out.cell (World.block_lt_of_cell? w _ hx259_4)).trans hx259_4
            replace hx259_5 := (HB.out.cell (World.block_lt_of_cell? w _ hx259_5)).trans hx259_5
            replace p259 := eq_true p259
            replace q259 := eq_true q259
            go_upto_if 21 with (first | ((with_reducible refine gate_dst (N := 9) rfl ?_); refine box_event ?hg (N := 9) ?hd (cs := #[.string (⟨#[]⟩ : ByteArray), .int .i64 0, .int .i64 0, .int .i64 0, .int .i64 0, .int .i64 0]) (t := 23) ?hr ?_; (case hd => rfl); (case hg => rfl); (case hr => first | (go_simp; done) | (go_simp; rfl)); intro gb260 hg w9 hbox hb; have n0_ := Aside0.mk (blk_below (g := gb258) (o := .cells #[.string x259000_1, .int .i64 x259001_1, .int .i64 x259002_1, .int .i64 x259003_1, .int .i64 x259004_1, .int .i64 x259005_1] 23 (0, 0)) (by (with_reducible repeat (first | refine blk_drewN ?_ _ | refine blk_drew ?_ | refine blk_alloc ?_ _)); exact BK258.out) hb); have n1_ := Aside0.mk (below_step (by repeat (first | (with_reducible first | exact HB.out | apply below_alloc | apply pw_below_drewN | apply below_drew1 | refine below_set ?_ GE258.out) | exact HB.out)) hb); have n2_ := Aside0.mk (hbox); have n3_ := Aside0.mk ((by rw [hg]; exact (below_size (by repeat (first | (with_reducible first | exact HB.out | apply below_alloc | apply pw_below_drewN | apply below_drew1 | refine below_set ?_ GE258.out) | exact HB.out))) : w.heap.size ≤ gb260)); have n4_ := Aside0.mk ((by rw [hg]; exact (below_size (by repeat (first | (with_reducible first | exact HB.out | apply below_alloc | apply pw_below_drewN | apply below_drew1 | refine below_set ?_ GE258.out) | exact HB.out))) : w.heap.size ≤ gb260)); have n5_ := Aside0.mk ((by rw [hg]; exact Nat.ne_of_lt (blk_lt (g := gb258) (o := .cells #[.string x259000_1, .int .i64 x259001_1, .int .i64 x259002_1, .int .i64 x259003_1, .int .i64 x259004_1, .int .i64 x259005_1] 23 (0, 0)) (by (with_reducible repeat (first | refine blk_drewN ?_ _ | refine blk_drew ?_ | refine blk_alloc ?_ _)); exact BK258.out)) : gb258 ≠ gb260)); have n6_ := Aside0.mk ((by rw [hg]; exact Nat.ne_of_gt (blk_lt (g := gb258) (o := .cells #[.string x259000_1, .int .i64 x259001_1, .int .i64 x259002_1, .int .i64 x259003_1, .int .i64 x259004_1, .int .i64 x259005_1] 23 (0, 0)) (by (with_reducible repeat (first | refine blk_drewN ?_ _ | refine blk_drew ?_ | refine blk_alloc ?_ _)); exact BK258.out)) : gb260 ≠ gb258)); clear BK258; clear HB; have BK258 := n0_; have HB := n1_; have BK260 := n2_; have GW260 := n3_; have GE260 := n4_; have NB258_260 := n5_; have NB260_258 := n6_; clear n0_ n1_ n2_ n3_ n4_ n5_ n6_; clear hb hbox hg; have hnb10 := NB260_258.out; have hnc10 := NB258_260.out; have hcz11_0 : w9.cell? ⟨gb260, 0, none⟩ = some (.string (⟨#[]⟩ : ByteArray)) := (blk_cell BK260.out 0).trans rfl; have hcz11_1 : w9.cell? ⟨gb260, 1, none⟩ = some (.int .i64 0) := (blk_cell BK260.out 1).trans rfl; have hcz11_2 : w9.cell? ⟨gb260, 2, none⟩ = some (.int .i64 0) := (blk_cell BK260.out 2).trans rfl; have hcz11_3 : w9.cell? ⟨gb260, 3, none⟩ = some (.int .i64 0) := (blk_cell BK260.out 3).trans rfl; have hcz11_4 : w9.cell? ⟨gb260, 4, none⟩ = some (.int .i64 0) := (blk_cell BK260.out 4).trans rfl; have hcz11_5 : w9.cell? ⟨gb260, 5, none⟩ = some (.int .i64 0) := (blk_cell BK260.out 5).trans rfl; have hfz11_0 := blk_frozen BK260.out 0; have hfz11_1 := blk_frozen BK260.out 1; have hfz11_2 := blk_frozen BK260.out 2; have hfz11_3 := blk_frozen BK260.out 3; have hfz11_4 := blk_frozen BK260.out 4; have hfz11_5 := blk_frozen BK260.out 5) | (go_at_call 63; (with_reducible refine (asset_Find_1.calls ((rd_T23 l0 x13_1).f0) ((rd_T23 l0 x13_1).f1) ((rd_T23 l0 x13_1).f2) ((rd_T23 l0 x13_1).f3) ((rd_T23 l0 x13_1).f4) ((rd_T23 l0 x13_1).f5) t261 _ A8.out).mono ?_); rintro e w12 ⟨rfl, hb⟩; have n0_ := Aside0.mk (blk_below (g := gb258) (o := .cells #[.string x259000_1, .int .i64 x259001_1, .int .i64 x259002_1, .int .i64 x259003_1, .int .i64 x259004_1, .int .i64 x259005_1] 23 (0, 0)) (by (with_reducible repeat (first | refine blk_drewN ?_ _ | refine blk_drew ?_ | refine blk_alloc ?_ _)); refine blk_far ?_ NB258_260.out _; (with_reducible repeat (first | refine blk_drewN ?_ _ | refine blk_drew ?_ | refine blk_alloc ?_ _)); refine blk_far ?_ NB258_260.out _; (with_reducible repeat (first | refine blk_drewN ?_ _ | refine blk_drew ?_ | refine blk_alloc ?_ _)); refine blk_far ?_ NB258_260.out _; (with_reducible repeat (first | refine blk_drewN ?_ _ | refine blk_drew ?_ | refine blk_alloc ?_ _)); refine blk_far ?_ NB258_260.out _; (with_reducible repeat (first | refine blk_drewN ?_ _ | refine blk_drew ?_ | refine blk_alloc ?_ _)); refine blk_far ?_ NB258_260.out _; (with_reducible repeat (first | refine blk_drewN ?_ _ | refine blk_drew ?_ | refine blk_alloc ?_ _)); refine blk_far ?_ NB258_260.out _; (with_reducible repeat (first | refine blk_drewN ?_ _ | refine blk_drew ?_ | refine blk_alloc ?_ _)); exact BK258.out) hb); have n1_ := Aside0.mk (blk_below (g := gb260) (o := .cells #[.string ((rd_T23 l0 x13_1).f0), .int .i64 ((rd_T23 l0 x13_1).f1), .int .i64 ((rd_T23 l0 x13_1).f2), .int .i64 ((rd_T23 l0 x13_1).f3), .int .i64 ((rd_T23 l0 x13_1).f4), .int .i64 ((rd_T23 l0 x13_1).f5)] 23 (0, 0)) (by (with_reducible repeat (first | refine blk_drewN ?_ _ | refine blk_drew ?_ | refine blk_alloc ?_ _)); refine blk_put (cs := #[.string ((rd_T23 l0 x13_1).f0), .int .i64 ((rd_T23 l0 x13_1).f1), .int .i64 ((rd_T23 l0 x13_1).f2), .int .i64 ((rd_T23 l0 x13_1).f3), .int .i64 ((rd_T23 l0 x13_1).f4), .int .i64 0]) ?_ 5 _ rfl; (with_reducible repeat (first | refine blk_drewN ?_ _ | refine blk_drew ?_ | refine blk_alloc ?_ _)); refine blk_put (cs := #[.string ((rd_T23 l0 x13_1).f0), .int .i64 ((rd_T23 l0 x13_1).f1), .int .i64 ((rd_T23 l0 x13_1).f2), .int .i64 ((rd_T23 l0 x13_1).f3), .int .i64 0, .int .i64 0]) ?_ 4 _ rfl; (with_reducible repeat (first | refine blk_drewN ?_ _ | refine blk_drew ?_ | refine blk_alloc ?_ _)); refine blk_put (cs := #[.string ((rd_T23 l0 x13_1).f0), .int .i64 ((rd_T23 l0 x13_1).f1), .int .i64 ((rd_T23 l0 x13_1).f2), .int .i64 0, .int .i64 0, .int .i64 0]) ?_ 3 _ rfl; (with_reducible repeat (first | refine blk_drewN ?_ _ | refine blk_drew ?_ | refine blk_alloc ?_ _)); refine blk_put (cs := #[.string ((rd_T23 l0 x13_1).f0), .int .i64 ((rd_T23 l0 x13_1).f1), .int .i64 0, .int .i64 0, .int .i64 0, .int .i64 0]) ?_ 2 _ rfl; (with_reducible repeat (first | refine blk_drewN ?_ _ | refine blk_drew ?_ | refine blk_alloc ?_ _)); refine blk_put (cs := #[.string ((rd_T23 l0 x13_1).f0), .int .i64 0, .int .i64 0, .int .i64 0, .int .i64 0, .int .i64 0]) ?_ 1 _ rfl; (with_reducible repeat (first | refine blk_drewN ?_ _ | refine blk_drew ?_ | refine blk_alloc ?_ _)); refine blk_put (cs := #[.string (⟨#[]⟩ : ByteArray), .int .i64 0, .int .i64 0, .int .i64 0, .int .i64 0, .int .i64 0]) ?_ 0 _ rfl; (with_reducible repeat (first | refine blk_drewN ?_ _ | refine blk_drew ?_ | refine blk_alloc ?_ _)); exact BK260.out) hb); have n2_ := Aside0.mk (below_step (by repeat (first | (with_reducible first | exact HB.out | apply below_alloc | apply pw_below_drewN | apply below_drew1 | refine below_set ?_ GE258.out | refine below_set ?_ GE260.out) | exact HB.out)) hb); clear BK258; clear BK260; clear HB; have BK258 := n0_; have BK260 := n1_; have HB := n2_; clear n0_ n1_ n2_; (try clear hb); (try clear hb2); (try clear hk); (try clear hi)))
            (try simp only [Act.put, List.setIfInBounds_toArray, List.set_cons_zero, List.set_cons_succ])
            by_cases c13 : t261.toList = a1.toList
            · rw [if_pos c13] at H
              have c13b0 : (t261.toList == a1.toList) = true := beq_iff_eq.mpr c13
              have c13b1 : (t261.toList != a1.toList) = false := bne_eq_false_iff_eq.mpr c13
              clear c13
              (try simp only [c13b0, c13b1])
              simp only [Option.some.injEq, Prod.mk.injEq] at H
              obtain ⟨rfl, rfl, rfl, rfl, rfl, rfl, rfl⟩ := H
              have hnb14 := NB260_258.out
              have hnc14 := NB258_260.out
              have hcz15_0 : w12.cell? ⟨gb260, 0, none⟩ = some (.string ((rd_T23 l0 x13_1).f0)) := (blk_cell BK260.out 0).trans rfl
              have hcz15_1 : w12.cell? ⟨gb260, 1, none⟩ = some (.int .i64 ((rd_T23 l0 x13_1).f1)) := (blk_cell BK260.out 1).trans rfl
              have hcz15_2 : w12.cell? ⟨gb260, 2, none⟩ = some (.int .i64 ((rd_T23 l0 x13_1).f2)) := (blk_cell BK260.out 2).trans rfl
              have hcz15_3 : w12.cell? ⟨gb260, 3, none⟩ = some (.int .i64 ((rd_T23 l0 x13_1).f3)) := (blk_cell BK260.out 3).trans rfl
              have hcz15_4 : w12.cell? ⟨gb260, 4, none⟩ = some (.int .i64 ((rd_T23 l0 x13_1).f4)) := (blk_cell BK260.out 4).trans rfl
              have hcz15_5 : w12.cell? ⟨gb260, 5, none⟩ = some (.int .i64 ((rd_T23 l0 x13_1).f5)) := (blk_cell BK260.out 5).trans rfl
              have hfz15_0 := blk_frozen BK260.out 0
              have hfz15_1 := blk_frozen BK260.out 1
              have hfz15_2 := blk_frozen BK260.out 2
              have hfz15_3 := blk_frozen BK260.out 3
              have hfz15_4 := blk_frozen BK260.out 4
              have hfz15_5 := blk_frozen BK260.out 5
              have hcz16_0 : w12.cell? ⟨gb258, 0, none⟩ = some (.string x259000_1) := (blk_cell BK258.out 0).trans rfl
              have hcz16_1 : w12.cell? ⟨gb258, 1, none⟩ = some (.int .i64 x259001_1) := (blk_cell BK258.out 1).trans rfl
              have hcz16_2 : w12.cell? ⟨gb258, 2, none⟩ = some (.int .i64 x259002_1) := (blk_cell BK258.out 2).trans rfl
              have hcz16_3 : w12.cell? ⟨gb258, 3, none⟩ = some (.int .i64 x259003_1) := (blk_cell BK258.out 3).trans rfl
              have hcz16_4 : w12.cell? ⟨gb258, 4, none⟩ = some (.int .i64 x259004_1) := (blk_cell BK258.out 4).trans rfl
              have hcz16_5 : w12.cell? ⟨gb258, 5, none⟩ = some (.int .i64 x259005_1) := (blk_cell BK258.out 5).trans rfl
              have hfz16_0 := blk_frozen BK258.out 0
              have hfz16_1 := blk_frozen BK258.out 1
              have hfz16_2 := blk_frozen BK258.out 2
              have hfz16_3 := blk_frozen BK258.out 3
              have hfz16_4 := blk_frozen BK258.out 4
              have hfz16_5 := blk_frozen BK258.out 5
              go_wp2
              refine bodyPost_ret (results_ct rfl _ _ gb258 23 #[.string ((rd_T23 l0 x13_1).f0), .int .i64 ((rd_T23 l0 x13_1).f1), .int .i64 ((rd_T23 l0 x13_1).f2), .int .i64 ((rd_T23 l0 x13_1).f3), .int .i64 ((rd_T23 l0 x13_1).f4), .int .i64 ((rd_T23 l0 x13_1).f5)] (0, 0) _ rfl (by (with_reducible repeat (first | refine blk_drewN ?_ _ | refine blk_drew ?_ | refine blk_alloc ?_ _)); refine blk_put (cs := #[.string ((rd_T23 l0 x13_1).f0), .int .i64 ((rd_T23 l0 x13_1).f1), .int .i64 ((rd_T23 l0 x13_1).f2), .int .i64 ((rd_T23 l0 x13_1).f3), .int .i64 ((rd_T23 l0 x13_1).f4), .int .i64 x259005_1]) ?_ 5 _ rfl; (with_reducible repeat (first | refine blk_drewN ?_ _ | refine blk_drew ?_ | refine blk_alloc ?_ _)); refine blk_put (cs := #[.string ((rd_T23 l0 x13_1).f0), .int .i64 ((rd_T23 l0 x13_1).f1), .int .i64 ((rd_T23 l0 x13_1).f2), .int .i64 ((rd_T23 l0 x13_1).f3), .int .i64 x259004_1, .int .i64 x259005_1]) ?_ 4 _ rfl; (with_reducible repeat (first | refine blk_drewN ?_ _ | refine blk_drew ?_ | refine blk_alloc ?_ _)); refine blk_put (cs := #[.string ((rd_T23 l0 x13_1).f0), .int .i64 ((rd_T23 l0 x13_1).f1), .int .i64 ((rd_T23 l0 x13_1).f2), .int .i64 x259003_1, .int .i64 x259004_1, .int .i64 x259005_1]) ?_ 3 _ rfl; (with_reducible repeat (first | refine blk_drewN ?_ _ | refine blk_drew ?_ | refine blk_alloc ?_ _)); refine blk_put (cs := #[.string ((rd_T23 l0 x13_1).f0), .int .i64 ((rd_T23 l0 x13_1).f1), .int .i64 x259002_1, .int .i64 x259003_1, .int .i64 x259004_1, .int .i64 x259005_1]) ?_ 2 _ rfl; (with_reducible repeat (first | refine blk_drewN ?_ _ | refine blk_drew ?_ | refine blk_alloc ?_ _)); refine blk_put (cs := #[.string ((rd_T23 l0 x13_1).f0), .int .i64 x259001_1, .int .i64 x259002_1, .int .i64 x259003_1, .int .i64 x259004_1, .int .i64 x259005_1]) ?_ 1 _ rfl; (with_reducible repeat (first | refine blk_drewN ?_ _ | refine blk_drew ?_ | refine blk_alloc ?_ _)); refine blk_put (cs := #[.string x259000_1, .int .i64 x259001_1, .int .i64 x259002_1, .int .i64 x259003_1, .int .i64 x259004_1, .int .i64 x259005_1]) ?_ 0 _ rfl; (with_reducible repeat (first | refine blk_drewN ?_ _ | refine blk_drew ?_ | refine blk_alloc ?_ _)); exact BK258.out) Try.underlying23 rfl (by kernel_rfl)) rfl ?_
              exact ⟨by first | rfl | (simp [errW_none, errW_some] <;> rfl) | (simp [*, errW_none, errW_some] <;> rfl), by repeat (first | (with_reducible first | exact HB.out | apply below_alloc | apply pw_below_drewN | apply below_drew1 | refine below_set ?_ GE258.out | refine below_set ?_ GE260.out) | exact HB.out)⟩
            · rw [if_neg c13] at H
              have c13b0 : (t261.toList == a1.toList) = false := beq_eq_false_iff_ne.mpr c13
              have c13b1 : (t261.toList != a1.toList) = true := bne_iff_ne.mpr c13
              (try simp only [c13b0, c13b1])
              have H' := Aside0.mk H
              clear H
              go_wp2
              go_roundg k1
              case measure => have := HK1.out; omega
              case rel => exact ⟨(wrap64 (x13_1 + 1)), (x259000_1), (x259001_1), (x259002_1), (x259003_1), (x259004_1), (x259005_1), (by first | rfl | (simp; done) | (simp [*]; done)), H', ⟨by have := HK1.out; omega⟩, ⟨by (with_reducible repeat (first | refine blk_drewN ?_ _ | refine blk_drew ?_ | refine blk_alloc ?_ _)); exact BK258.out⟩, ⟨by repeat (first | (with_reducible first | exact HB.out | apply below_alloc | apply pw_below_drewN | apply below_drew1 | refine below_set ?_ GE258.out | refine below_set ?_ GE260.out) | exact HB.out)⟩⟩
          · rw [if_neg c7] at H
            exact absurd H (by simp)
        · rw [if_neg c6] at H
          exact absurd H (by simp)
      · rw [if_neg c5] at H
        have c5b0 : decide (x13_1 < (l0.length : Int)) = false := decide_eq_false c5
        clear c5
        (try simp only [c5b0])
        simp only [Option.some.injEq, Prod.mk.injEq] at H
        obtain ⟨rfl, rfl, rfl, rfl, rfl, rfl, rfl⟩ := H
        go_wp2_with (first | ((with_reducible refine gate_dst (N := 10) rfl ?_); refine box_event ?hg (N := 10) ?hd (cs := #[.string (⟨#[]⟩ : ByteArray), .int .i64 0, .int .i64 0, .int .i64 0, .int .i64 0, .int .i64 0]) (t := 23) ?hr ?_; (case hd => rfl); (case hg => rfl); (case hr => first | (go_simp; done) | (go_simp; rfl)); intro gb262 hg w17 hbox hb; have n0_ := Aside0.mk (blk_below (g := gb258) (o := .cells #[.string x259000_1, .int .i64 x259001_1, .int .i64 x259002_1, .int .i64 x259003_1, .int .i64 x259004_1, .int .i64 x259005_1] 23 (0, 0)) (by (with_reducible repeat (first | refine blk_drewN ?_ _ | refine blk_drew ?_ | refine blk_alloc ?_ _)); exact BK258.out) hb); have n1_ := Aside0.mk (below_step (by repeat (first | (with_reducible first | exact HB.out | apply below_alloc | apply pw_below_drewN | apply below_drew1 | refine below_set ?_ GE258.out) | exact HB.out)) hb); have n2_ := Aside0.mk (hbox); have n3_ := Aside0.mk ((by rw [hg]; exact (below_size (by repeat (first | (with_reducible first | exact HB.out | apply below_alloc | apply pw_below_drewN | apply below_drew1 | refine below_set ?_ GE258.out) | exact HB.out))) : w.heap.size ≤ gb262)); have n4_ := Aside0.mk ((by rw [hg]; exact (below_size (by repeat (first | (with_reducible first | exact HB.out | apply below_alloc | apply pw_below_drewN | apply below_drew1 | refine below_set ?_ GE258.out) | exact HB.out))) : w.heap.size ≤ gb262)); have n5_ := Aside0.mk ((by rw [hg]; exact Nat.ne_of_lt (blk_lt (g := gb258) (o := .cells #[.string x259000_1, .int .i64 x259001_1, .int .i64 x259002_1, .int .i64 x259003_1, .int .i64 x259004_1, .int .i64 x259005_1] 23 (0, 0)) (by (with_reducible repeat (first | refine blk_drewN ?_ _ | refine blk_drew ?_ | refine blk_alloc ?_ _)); exact BK258.out)) : gb258 ≠ gb262)); have n6_ := Aside0.mk ((by rw [hg]; exact Nat.ne_of_gt (blk_lt (g := gb258) (o := .cells #[.string x259000_1, .int .i64 x259001_1, .int .i64 x259002_1, .int .i64 x259003_1, .int .i64 x259004_1, .int .i64 x259005_1] 23 (0, 0)) (by (with_reducible repeat (first | refine blk_drewN ?_ _ | refine blk_drew ?_ | refine blk_alloc ?_ _)); exact BK258.out)) : gb262 ≠ gb258)); clear BK258; clear HB; have BK258 := n0_; have HB := n1_; have BK262 := n2_; have GW262 := n3_; have GE262 := n4_; have NB258_262 := n5_; have NB262_258 := n6_; clear n0_ n1_ n2_ n3_ n4_ n5_ n6_; clear hb hbox hg; have hnb18 := NB262_258.out; have hnc18 := NB258_262.out; have hcz19_0 : w17.cell? ⟨gb262, 0, none⟩ = some (.string (⟨#[]⟩ : ByteArray)) := (blk_cell BK262.out 0).trans rfl; have hcz19_1 : w17.cell? ⟨gb262, 1, none⟩ = some (.int .i64 0) := (blk_cell BK262.out 1).trans rfl; have hcz19_2 : w17.cell? ⟨gb262, 2, none⟩ = some (.int .i64 0) := (blk_cell BK262.out 2).trans rfl; have hcz19_3 : w17.cell? ⟨gb262, 3, none⟩ = some (.int .i64 0) := (blk_cell BK262.out 3).trans rfl; have hcz19_4 : w17.cell? ⟨gb262, 4, none⟩ = some (.int .i64 0) := (blk_cell BK262.out 4).trans rfl; have hcz19_5 : w17.cell? ⟨gb262, 5, none⟩ = some (.int .i64 0) := (blk_cell BK262.out 5).trans rfl; have hfz19_0 := blk_frozen BK262.out 0; have hfz19_1 := blk_frozen BK262.out 1; have hfz19_2 := blk_frozen BK262.out 2; have hfz19_3 := blk_frozen BK262.out 3; have hfz19_4 := blk_frozen BK262.out 4; have hfz19_5 := blk_frozen BK262.out 5; have hcz20_0 : w17.cell? ⟨gb258, 0, none⟩ = some (.string x259000_1) := (blk_cell BK258.out 0).trans rfl; have hcz20_1 : w17.cell? ⟨gb258, 1, none⟩ = some (.int .i64 x259001_1) := (blk_cell BK258.out 1).trans rfl; have hcz20_2 : w17.cell? ⟨gb258, 2, none⟩ = some (.int .i64 x259002_1) := (blk_cell BK258.out 2).trans rfl; have hcz20_3 : w17.cell? ⟨gb258, 3, none⟩ = some (.int .i64 x259003_1) := (blk_cell BK258.out 3).trans rfl; have hcz20_4 : w17.cell? ⟨gb258, 4, none⟩ = some (.int .i64 x259004_1) := (blk_cell BK258.out 4).trans rfl; have hcz20_5 : w17.cell? ⟨gb258, 5, none⟩ = some (.int .i64 x259005_1) := (blk_cell BK258.out 5).trans rfl; have hfz20_0 := blk_frozen BK258.out 0; have hfz20_1 := blk_frozen BK258.out 1; have hfz20_2 := blk_frozen BK258.out 2; have hfz20_3 := blk_frozen BK258.out 3; have hfz20_4 := blk_frozen BK258.out 4; have hfz20_5 := blk_frozen BK258.out 5))
        refine bodyPost_ret (results_ct rfl _ _ gb258 23 #[.string (⟨#[]⟩ : ByteArray), .int .i64 0, .int .i64 0, .int .i64 0, .int .i64 0, .int .i64 0] (0, 0) _ rfl (by (with_reducible repeat (first | refine blk_drewN ?_ _ | refine blk_drew ?_ | refine blk_alloc ?_ _)); refine blk_put (cs := #[.string (⟨#[]⟩ : ByteArray), .int .i64 0, .int .i64 0, .int .i64 0, .int .i64 0, .int .i64 x259005_1]) ?_ 5 _ rfl; (with_reducible repeat (first | refine blk_drewN ?_ _ | refine blk_drew ?_ | refine blk_alloc ?_ _)); refine blk_put (cs := #[.string (⟨#[]⟩ : ByteArray), .int .i64 0, .int .i64 0, .int .i64 0, .int .i64 x259004_1, .int .i64 x259005_1]) ?_ 4 _ rfl; (with_reducible repeat (first | refine blk_drewN ?_ _ | refine blk_drew ?_ | refine blk_alloc ?_ _)); refine blk_put (cs := #[.string (⟨#[]⟩ : ByteArray), .int .i64 0, .int .i64 0, .int .i64 x259003_1, .int .i64 x259004_1, .int .i64 x259005_1]) ?_ 3 _ rfl; (with_reducible repeat (first | refine blk_drewN ?_ _ | refine blk_drew ?_ | refine blk_alloc ?_ _)); refine blk_put (cs := #[.string (⟨#[]⟩ : ByteArray), .int .i64 0, .int .i64 x259002_1, .int .i64 x259003_1, .int .i64 x259004_1, .int .i64 x259005_1]) ?_ 2 _ rfl; (with_reducible repeat (first | refine blk_drewN ?_ _ | refine blk_drew ?_ | refine blk_alloc ?_ _)); refine blk_put (cs := #[.string (⟨#[]⟩ : ByteArray), .int .i64 x259001_1, .int .i64 x259002_1, .int .i64 x259003_1, .int .i64 x259004_1, .int .i64 x259005_1]) ?_ 1 _ rfl; (with_reducible repeat (first | refine blk_drewN ?_ _ | refine blk_drew ?_ | refine blk_alloc ?_ _)); refine blk_put (cs := #[.string x259000_1, .int .i64 x259001_1, .int .i64 x259002_1, .int .i64 x259003_1, .int .i64 x259004_1, .int .i64 x259005_1]) ?_ 0 _ rfl; (with_reducible repeat (first | refine blk_drewN ?_ _ | refine blk_drew ?_ | refine blk_alloc ?_ _)); exact BK258.out) Try.underlying23 rfl (by kernel_rfl)) rfl ?_
        exact ⟨by first | rfl | (simp [errW_none, errW_some] <;> rfl) | (simp [*, errW_none, errW_some] <;> rfl), by repeat (first | (with_reducible first | exact HB.out | apply below_alloc | apply pw_below_drewN | apply below_drew1 | refine below_set ?_ GE258.out | refine below_set ?_ GE262.out) | exact HB.out)⟩
def asset_Find.f (k : Nat) (l0 : List (S23)) (a1 : ByteArray) : Option (ByteArray × Int × Int × Int × Int × Int × Bool) := (asset_named_api_Asset.f k l0 a1).bind fun bt264 => (some (bt264.1, bt264.2.1, bt264.2.2.1, bt264.2.2.2.1, bt264.2.2.2.2.1, bt264.2.2.2.2.2.1, bt264.2.2.2.2.2.2))
theorem asset_Find.mono : ∀ a0 a1 k, LeO (asset_Find.f k a0 a1) (asset_Find.f (k + 1) a0 a1) := by
  intro a0 a1 k
  unfold asset_Find.f
  repeat' first
      | (with_reducible exact asset_named_api_Asset.mono _ _ _)
      | (with_reducible exact LeO.refl _)
      | (with_reducible exact LeO.none _)
      | (with_reducible refine LeO.ite ?_ ?_)
      | (with_reducible refine LeO.bind ?_ (fun _ => ?_))
      | exact asset_named_api_Asset.mono _ _ _
      | exact LeO.none _
      | refine LeO.ite ?_ ?_
      | refine LeO.bind ?_ (fun _ => ?_)
set_option maxHeartbeats 8000000 in
set_option maxRecDepth 100000 in
theorem asset_Find.calls (k : Nat) (A0 : Option Addr) (c0 : Nat) (l0 : List (S23)) (a1 : ByteArray) (r1 : ByteArray) (r2 : Int) (r3 : Int) (r4 : Int) (r5 : Int) (r6 : Int) (r7 : Bool) (w : World) (hr0 : Kd.C k23 w A0 l0.length l0) (hc0 : l0.length ≤ c0) (h : asset_Find.f k l0 a1 = some (r1, r2, r3, r4, r5, r6, r7)) :
    Calls Try.prog 23 #[.slice A0 l0.length c0, .string a1] w fun e w' => e = .returned (.tuple #[.agg #[.string r1, .int .i64 r2, .int .i64 r3, .int .i64 r4, .int .i64 r5, .int .i64 r6], .bool r7]) ∧ Below w.heap.size w w' := by
  have hu23 := Try.underlying23
  have HR0 := Aside0.mk hr0
  have HC0 := Aside0.mk hc0
  clear hr0 hc0
  have HB := Aside0.mk (Below.refl w.heap.size w)
  have H : ((asset_named_api_Asset.f k l0 a1).bind fun bt264 => (some (bt264.1, bt264.2.1, bt264.2.2.1, bt264.2.2.2.1, bt264.2.2.2.2.1, bt264.2.2.2.2.2.1, bt264.2.2.2.2.2.2))) = some (r1, r2, r3, r4, r5, r6, r7) := h
  clear h
  replace H := Option.bind_eq_some_iff.mp H
  obtain ⟨⟨t264, t265, t266, t267, t268, t269, t270⟩, A30, H⟩ := H
  replace H : (some (t264, t265, t266, t267, t268, t269, t270)) = some (r1, r2, r3, r4, r5, r6, r7) := H
  have A3 := Aside0.mk A30
  clear A30
  simp only [Option.some.injEq, Prod.mk.injEq] at H
  obtain ⟨rfl, rfl, rfl, rfl, rfl, rfl, rfl⟩ := H
  go_enter Try.func23, Try.ntmps23
  go_wp2_with (first | ((with_reducible refine gate_dst (N := 4) rfl ?_); refine box_event ?hg (N := 4) ?hd (cs := #[.string (⟨#[]⟩ : ByteArray), .int .i64 0, .int .i64 0, .int .i64 0, .int .i64 0, .int .i64 0]) (t := 23) ?hr ?_; (case hd => rfl); (case hg => rfl); (case hr => first | (go_simp; done) | (go_simp; rfl)); intro gb263 hg w4 hbox hb; have n0_ := Aside0.mk (below_step (by repeat (first | (with_reducible first | exact HB.out | apply below_alloc | apply pw_below_drewN | apply below_drew1) | exact HB.out)) hb); have n1_ := Aside0.mk (hbox); have n2_ := Aside0.mk ((by rw [hg]; exact (below_size (by repeat (first | (with_reducible first | exact HB.out | apply below_alloc | apply pw_below_drewN | apply below_drew1) | exact HB.out))) : w.heap.size ≤ gb263)); have n3_ := Aside0.mk ((by rw [hg]; exact (below_size (by repeat (first | (with_reducible first | exact HB.out | apply below_alloc | apply pw_below_drewN | apply below_drew1) | exact HB.out))) : w.heap.size ≤ gb263)); clear HB; have HB := n0_; have BK263 := n1_; have GW263 := n2_; have GE263 := n3_; clear n0_ n1_ n2_ n3_; clear hb hbox hg) | ((with_reducible refine gate_callee (f := 62) rfl ?_); refine goesL_ (some 8) rfl rfl Try.func62 (by kernel_rfl) rfl #[.slice A0 l0.length c0, .string a1, .func (.func 63) #[] #[]] rfl (by (try simp only [List.map_toArray, List.map_cons, List.map_nil]); first | done | rfl | (simp only [List.length_drop, List.length_take]; rfl)) ?_; (with_reducible refine (asset_named_api_Asset.calls k _ _ l0 a1  t264 t265 t266 t267 t268 t269 t270 _ ?side1 ?side2 A3.out).mono ?_); (case side1 => repeat (first | exact (Kd.C_below HR0.out HB.out) | (with_reducible refine Kd.C_alloc ?_ _) | (with_reducible refine Kd.C_drewN ?_ _) | (with_reducible refine Kd.C_drew ?_))); (case side2 => exact HC0.out); rintro e w5 ⟨rfl, hb⟩; refine ⟨_, rfl, ?_⟩; have n0_ := Aside0.mk (blk_below (g := gb263) (o := .cells #[.string (⟨#[]⟩ : ByteArray), .int .i64 0, .int .i64 0, .int .i64 0, .int .i64 0, .int .i64 0] 23 (0, 0)) (by (with_reducible repeat (first | refine blk_drewN ?_ _ | refine blk_drew ?_ | refine blk_alloc ?_ _)); exact BK263.out) hb); have n1_ := Aside0.mk (below_step (by repeat (first | (with_reducible first | exact HB.out | apply below_alloc | apply pw_below_drewN | apply below_drew1 | refine below_set ?_ GE263.out) | exact HB.out)) hb); clear BK263; clear HB; have BK263 := n0_; have HB := n1_; clear n0_ n1_; (try clear hb); (try clear hb2); (try clear hk); (try clear hi); have hcz6_0 : w5.cell? ⟨gb263, 0, none⟩ = some (.string (⟨#[]⟩ : ByteArray)) := (blk_cell BK263.out 0).trans rfl; have hcz6_1 : w5.cell? ⟨gb263, 1, none⟩ = some (.int .i64 0) := (blk_cell BK263.out 1).trans rfl; have hcz6_2 : w5.cell? ⟨gb263, 2, none⟩ = some (.int .i64 0) := (blk_cell BK263.out 2).trans rfl; have hcz6_3 : w5.cell? ⟨gb263, 3, none⟩ = some (.int .i64 0) := (blk_cell BK263.out 3).trans rfl; have hcz6_4 : w5.cell? ⟨gb263, 4, none⟩ = some (.int .i64 0) := (blk_cell BK263.out 4).trans rfl; have hcz6_5 : w5.cell? ⟨gb263, 5, none⟩ = some (.int .i64 0) := (blk_cell BK263.out 5).trans rfl; have hfz6_0 := blk_frozen BK263.out 0; have hfz6_1 := blk_frozen BK263.out 1; have hfz6_2 := blk_frozen BK263.out 2; have hfz6_3 := blk_frozen BK263.out 3; have hfz6_4 := blk_frozen BK263.out 4; have hfz6_5 := blk_frozen BK263.out 5))
  refine bodyPost_ret (results_ct rfl _ _ gb263 23 #[.string t264, .int .i64 t265, .int .i64 t266, .int .i64 t267, .int .i64 t268, .int .i64 t269] (0, 0) _ rfl (by (with_reducible repeat (first | refine blk_drewN ?_ _ | refine blk_drew ?_ | refine blk_alloc ?_ _)); refine blk_put (cs := #[.string t264, .int .i64 t265, .int .i64 t266, .int .i64 t267, .int .i64 t268, .int .i64 0]) ?_ 5 _ rfl; (with_reducible repeat (first | refine blk_drewN ?_ _ | refine blk_drew ?_ | refine blk_alloc ?_ _)); refine blk_put (cs := #[.string t264, .int .i64 t265, .int .i64 t266, .int .i64 t267, .int .i64 0, .int .i64 0]) ?_ 4 _ rfl; (with_reducible repeat (first | refine blk_drewN ?_ _ | refine blk_drew ?_ | refine blk_alloc ?_ _)); refine blk_put (cs := #[.string t264, .int .i64 t265, .int .i64 t266, .int .i64 0, .int .i64 0, .int .i64 0]) ?_ 3 _ rfl; (with_reducible repeat (first | refine blk_drewN ?_ _ | refine blk_drew ?_ | refine blk_alloc ?_ _)); refine blk_put (cs := #[.string t264, .int .i64 t265, .int .i64 0, .int .i64 0, .int .i64 0, .int .i64 0]) ?_ 2 _ rfl; (with_reducible repeat (first | refine blk_drewN ?_ _ | refine blk_drew ?_ | refine blk_alloc ?_ _)); refine blk_put (cs := #[.string t264, .int .i64 0, .int .i64 0, .int .i64 0, .int .i64 0, .int .i64 0]) ?_ 1 _ rfl; (with_reducible repeat (first | refine blk_drewN ?_ _ | refine blk_drew ?_ | refine blk_alloc ?_ _)); refine blk_put (cs := #[.string (⟨#[]⟩ : ByteArray), .int .i64 0, .int .i64 0, .int .i64 0, .int .i64 0, .int .i64 0]) ?_ 0 _ rfl; (with_reducible repeat (first | refine blk_drewN ?_ _ | refine blk_drew ?_ | refine blk_alloc ?_ _)); exact BK263.out) Try.underlying23 rfl (by kernel_rfl)) rfl ?_
  exact ⟨by first | rfl | (simp [errW_none, errW_some] <;> rfl) | (simp [*, errW_none, errW_some] <;> rfl), by repeat (first | (with_reducible first | exact HB.out | apply below_alloc | apply pw_below_drewN | apply below_drew1 | refine below_set ?_ GE263.out) | exact HB.out)⟩
def asset_CheckAll.l0 : Nat → List (S23) → List (S23) → Int → Int → Option (Int)
  | 0, _, _, _, _ => none
  | k + 1, x0, x9, x10, x11 => if x11 < x10 then (if 0 ≤ x11 then (if x11 < (x9.length : Int) then ((asset_Check.f k ((rd_T23 x9 x11).f0) ((rd_T23 x9 x11).f1) ((rd_T23 x9 x11).f2) ((rd_T23 x9 x11).f3) ((rd_T23 x9 x11).f4) ((rd_T23 x9 x11).f5)).bind fun t276 => (if t276 = 0 then (if x11 > 0 then (if 0 ≤ (wrap64 (x11 - 1)) then (if (wrap64 (x11 - 1)) < (x0.length : Int) then (if (Op.bytesLess (((rd_T23 x9 x11).f0).toList) (((rd_T23 x0 (wrap64 (x11 - 1))).f0).toList)) = true then (some 12) else (if (((rd_T23 x9 x11).f0).toList) = (((rd_T23 x0 (wrap64 (x11 - 1))).f0).toList) then (some 12) else (asset_CheckAll.l0 k x0 x9 x10 (wrap64 (x11 + 1))))) else (none)) else (none)) else (asset_CheckAll.l0 k x0 x9 x10 (wrap64 (x11 + 1)))) else (some t276))) else (none)) else (none)) else (some 0)
def asset_CheckAll.f (k : Nat) (l0 : List (S23)) : Option (Int) := if (l0.length : Int) > 1024 then (some 8) else (asset_CheckAll.l0 k l0 l0 (l0.length : Int) 0)
theorem asset_CheckAll.mono_l : ∀ k, (∀ y0 y1 y2 y3, LeO (asset_CheckAll.l0 k y0 y1 y2 y3) (asset_CheckAll.l0 (k + 1) y0 y1 y2 y3))
  | 0 => fun _ _ _ _ r h => by simp [asset_CheckAll.l0] at h
  | k + 1 => by
    have ih0 := asset_CheckAll.mono_l k
    · intro y0 y1 y2 y3
      unfold asset_CheckAll.l0
      repeat' first
      | (with_reducible exact ih0 _ _ _ _)
      | (with_reducible exact asset_Check.mono _ _ _ _ _ _ _)
      | (with_reducible exact LeO.refl _)
      | (with_reducible exact LeO.none _)
      | (with_reducible refine LeO.ite ?_ ?_)
      | (with_reducible refine LeO.bind ?_ (fun _ => ?_))
      | exact ih0 _ _ _ _
      | exact asset_Check.mono _ _ _ _ _ _ _
      | exact LeO.none _
      | refine LeO.ite ?_ ?_
      | refine LeO.bind ?_ (fun _ => ?_)
theorem asset_CheckAll.mono : ∀ a0 k, LeO (asset_CheckAll.f k a0) (asset_CheckAll.f (k + 1) a0) := by
  intro a0 k
  have ih0 := asset_CheckAll.mono_l k
  unfold asset_CheckAll.f
  repeat' first
      | (with_reducible exact ih0 _ _ _ _)
      | (with_reducible exact asset_Check.mono _ _ _ _ _ _ _)
      | (with_reducible exact LeO.refl _)
      | (with_reducible exact LeO.none _)
      | (with_reducible refine LeO.ite ?_ ?_)
      | (with_reducible refine LeO.bind ?_ (fun _ => ?_))
      | exact ih0 _ _ _ _
      | exact asset_Check.mono _ _ _ _ _ _ _
      | exact LeO.none _
      | refine LeO.ite ?_ ?_
      | refine LeO.bind ?_ (fun _ => ?_)
set_option maxHeartbeats 8000000 in
set_option maxRecDepth 100000 in
theorem asset_CheckAll.calls (k : Nat) (A0 : Option Addr) (c0 : Nat) (l0 : List (S23)) (r : Int) (w : World) (hr0 : Kd.C k23 w A0 l0.length l0) (hc0 : l0.length ≤ c0) (h : asset_CheckAll.f k l0 = some r) :
    Calls Try.prog 27 #[.slice A0 l0.length c0] w fun e w' => e = .returned (.int .i64 r) ∧ Below w.heap.size w w' := by
  have hu23 := Try.underlying23
  have HR0 := Aside0.mk hr0
  have HC0 := Aside0.mk hc0
  clear hr0 hc0
  have HB := Aside0.mk (Below.refl w.heap.size w)
  have H : (if (l0.length : Int) > 1024 then (some 8) else (asset_CheckAll.l0 k l0 l0 (l0.length : Int) 0)) = some r := h
  clear h
  by_cases c2 : (l0.length : Int) > 1024
  · rw [if_pos c2] at H
    have c2b0 : decide (1024 < (l0.length : Int)) = true := decide_eq_true c2
    have c2b1 : decide (1024 < l0.length) = true := decide_eq_true (by omega)
    clear c2
    obtain rfl := Option.some.inj H
    go_enter Try.func27, Try.ntmps27
    go_wp2
    repeat (go_quiet (fail); try go_wp2)
    go_ret
    exact ⟨by first | rfl | (simp [errW_none, errW_some] <;> rfl) | (simp [*, errW_none, errW_some] <;> rfl), by repeat (first | (with_reducible first | exact HB.out | apply below_alloc | apply pw_below_drewN | apply below_drew1) | exact HB.out)⟩
  · rw [if_neg c2] at H
    have c2b0 : decide (1024 < (l0.length : Int)) = false := decide_eq_false c2
    have c2b1 : decide (1024 < l0.length) = false := decide_eq_false (by omega)
    clear c2
    have H' := Aside0.mk H
    clear H
    go_enter Try.func27, Try.ntmps27
    go_wp2
    repeat (go_quiet (fail); try go_wp2)
    go_loopg [11] k (fun kq v11 w' => ∃ (x11_1 : Int), v11 = .int .i64 x11_1 ∧ Aside0 (asset_CheckAll.l0 kq l0 l0 (l0.length : Int) x11_1 = some r) ∧ Aside0 (kq ≤ k) ∧ Aside0 (Below w.heap.size w w'))
    case atStart => exact ⟨(0), (by first | rfl | (simp; done) | (simp [*]; done)), H', ⟨Nat.le_refl _⟩, ⟨by repeat (first | (with_reducible first | exact HB.out | apply below_alloc | apply pw_below_drewN | apply below_drew1) | exact HB.out)⟩⟩
    case round =>
      clear H'
      try clear c2
      try clear c2b0
      try clear c2b1
      try clear p2
      obtain ⟨x11_1, rfl, HA, HK1, HB⟩ := hrel
      cases gk with
      | zero => exact absurd HA.out (by simp [asset_CheckAll.l0])
      | succ k1 =>
        have H := HA.out
        clear HA
        simp only [asset_CheckAll.l0] at H
        by_cases c3 : x11_1 < (l0.length : Int)
        · rw [if_pos c3] at H
          have c3b0 : decide (x11_1 < (l0.length : Int)) = true := decide_eq_true c3
          clear c3
          (try simp only [c3b0])
          by_cases c4 : 0 ≤ x11_1
          · rw [if_pos c4] at H
            have c4b0 : decide (0 ≤ x11_1) = true := decide_eq_true c4
            clear c4
            by_cases c5 : x11_1 < (l0.length : Int)
            · rw [if_pos c5] at H
              have c5b0 : decide (x11_1 < (l0.length : Int)) = true := decide_eq_true c5
              clear c5
              replace H := Option.bind_eq_some_iff.mp H
              obtain ⟨t276, A60, H⟩ := H
              replace H : (if t276 = 0 then (if x11_1 > 0 then (if 0 ≤ (wrap64 (x11_1 - 1)) then (if (wrap64 (x11_1 - 1)) < (l0.length : Int) then (if (Op.bytesLess (((rd_T23 l0 x11_1).f0).toList) (((rd_T23 l0 (wrap64 (x11_1 - 1))).f0).toList)) = true then (some 12) else (if (((rd_T23 l0 x11_1).f0).toList) = (((rd_T23 l0 (wrap64 (x11_1 - 1))).f0).toList) then (some 12) else (asset_CheckAll.l0 k1 l0 l0 (l0.length : Int) (wrap64 (x11_1 + 1))))) else (none)) else (none)) else (asset_CheckAll.l0 k1 l0 l0 (l0.length : Int) (wrap64 (x11_1 + 1)))) else (some t276)) = some r := H
              have A6 := Aside0.mk A60
              clear A60
              have p274 : 0 ≤ (x11_1 : Int) := of_decide_eq_true (by first | (with_reducible assumption) | assumption)
              have q274 : x11_1 < (l0.length : Int) := of_decide_eq_true (by first | (with_reducible assumption) | assumption)
              obtain ⟨ad274, e274, hx274_0, hx274_1, hx274_2, hx274_3, hx274_4, hx274_5⟩ := at_T23 HR0.out x11_1 p274 q274
              cases e274
              replace hx274_0 := (HB.out.cell (World.block_lt_of_cell? w _ hx274_0)).trans hx274_0
              replace hx274_1 := (HB.out.cell (World.block_lt_of_cell? w _ hx274_1)).trans hx274_1
              replace hx274_2 := (HB.out.cell (World.block_lt_of_cell? w _ hx274_2)).trans hx274_2
              replace hx274_3 := (HB.out.cell (World.block_lt_of_cell? w _ hx274_3)).trans hx274_3
              replace hx274_4 := (HB.out.cell (World.block_lt_of_cell? w _ hx274_4)).trans hx274_4
              replace hx274_5 := (HB.out.cell (World.block_lt_of_cell? w _ hx274_5)).trans hx274_5
              replace p274 := eq_true p274
              replace q274 := eq_true q274
              go_upto_if 19 with (first | ((with_reducible refine gate_dst (N := 4) rfl ?_); refine box_event ?hg (N := 4) ?hd (cs := #[.string (⟨#[]⟩ : ByteArray), .int .i64 0, .int .i64 0, .int .i64 0, .int .i64 0, .int .i64 0]) (t := 23) ?hr ?_; (case hd => rfl); (case hg => rfl); (case hr => first | (go_simp; done) | (go_simp; rfl)); intro gb275 hg w7 hbox hb; have n0_ := Aside0.mk (below_step (by repeat (first | (with_reducible first | exact HB.out | apply below_alloc | apply pw_below_drewN | apply below_drew1) | exact HB.out)) hb); have n1_ := Aside0.mk (hbox); have n2_ := Aside0.mk ((by rw [hg]; exact (below_size (by repeat (first | (with_reducible first | exact HB.out | apply below_alloc | apply pw_below_drewN | apply below_drew1) | exact HB.out))) : w.heap.size ≤ gb275)); have n3_ := Aside0.mk ((by rw [hg]; exact (below_size (by repeat (first | (with_reducible first | exact HB.out | apply below_alloc | apply pw_below_drewN | apply below_drew1) | exact HB.out))) : w.heap.size ≤ gb275)); clear HB; have HB := n0_; have BK275 := n1_; have GW275 := n2_; have GE275 := n3_; clear n0_ n1_ n2_ n3_; clear hb hbox hg; have hcz8_0 : w7.cell? ⟨gb275, 0, none⟩ = some (.string (⟨#[]⟩ : ByteArray)) := (blk_cell BK275.out 0).trans rfl; have hcz8_1 : w7.cell? ⟨gb275, 1, none⟩ = some (.int .i64 0) := (blk_cell BK275.out 1).trans rfl; have hcz8_2 : w7.cell? ⟨gb275, 2, none⟩ = some (.int .i64 0) := (blk_cell BK275.out 2).trans rfl; have hcz8_3 : w7.cell? ⟨gb275, 3, none⟩ = some (.int .i64 0) := (blk_cell BK275.out 3).trans rfl; have hcz8_4 : w7.cell? ⟨gb275, 4, none⟩ = some (.int .i64 0) := (blk_cell BK275.out 4).trans rfl; have hcz8_5 : w7.cell? ⟨gb275, 5, none⟩ = some (.int .i64 0) := (blk_cell BK275.out 5).trans rfl; have hfz8_0 := blk_frozen BK275.out 0; have hfz8_1 := blk_frozen BK275.out 1; have hfz8_2 := blk_frozen BK275.out 2; have hfz8_3 := blk_frozen BK275.out 3; have hfz8_4 := blk_frozen BK275.out 4; have hfz8_5 := blk_frozen BK275.out 5) | (go_at_call 25; (with_reducible refine (asset_Check.calls k1 ((rd_T23 l0 x11_1).f0) ((rd_T23 l0 x11_1).f1) ((rd_T23 l0 x11_1).f2) ((rd_T23 l0 x11_1).f3) ((rd_T23 l0 x11_1).f4) ((rd_T23 l0 x11_1).f5) t276 _ A6.out).mono ?_); rintro e w9 ⟨rfl, hb⟩; have n0_ := Aside0.mk (blk_below (g := gb275) (o := .cells #[.string ((rd_T23 l0 x11_1).f0), .int .i64 ((rd_T23 l0 x11_1).f1), .int .i64 ((rd_T23 l0 x11_1).f2), .int .i64 ((rd_T23 l0 x11_1).f3), .int .i64 ((rd_T23 l0 x11_1).f4), .int .i64 ((rd_T23 l0 x11_1).f5)] 23 (0, 0)) (by (with_reducible repeat (first | refine blk_drewN ?_ _ | refine blk_drew ?_ | refine blk_alloc ?_ _)); refine blk_put (cs := #[.string ((rd_T23 l0 x11_1).f0), .int .i64 ((rd_T23 l0 x11_1).f1), .int .i64 ((rd_T23 l0 x11_1).f2), .int .i64 ((rd_T23 l0 x11_1).f3), .int .i64 ((rd_T23 l0 x11_1).f4), .int .i64 0]) ?_ 5 _ rfl; (with_reducible repeat (first | refine blk_drewN ?_ _ | refine blk_drew ?_ | refine blk_alloc ?_ _)); refine blk_put (cs := #[.string ((rd_T23 l0 x11_1).f0), .int .i64 ((rd_T23 l0 x11_1).f1), .int .i64 ((rd_T23 l0 x11_1).f2), .int .i64 ((rd_T23 l0 x11_1).f3), .int .i64 0, .int .i64 0]) ?_ 4 _ rfl; (with_reducible repeat (first | refine blk_drewN ?_ _ | refine blk_drew ?_ | refine blk_alloc ?_ _)); refine blk_put (cs := #[.string ((rd_T23 l0 x11_1).f0), .int .i64 ((rd_T23 l0 x11_1).f1), .int .i64 ((rd_T23 l0 x11_1).f2), .int .i64 0, .int .i64 0, .int .i64 0]) ?_ 3 _ rfl; (with_reducible repeat (first | refine blk_drewN ?_ _ | refine blk_drew ?_ | refine blk_alloc ?_ _)); refine blk_put (cs := #[.string ((rd_T23 l0 x11_1).f0), .int .i64 ((rd_T23 l0 x11_1).f1), .int .i64 0, .int .i64 0, .int .i64 0, .int .i64 0]) ?_ 2 _ rfl; (with_reducible repeat (first | refine blk_drewN ?_ _ | refine blk_drew ?_ | refine blk_alloc ?_ _)); refine blk_put (cs := #[.string ((rd_T23 l0 x11_1).f0), .int .i64 0, .int .i64 0, .int .i64 0, .int .i64 0, .int .i64 0]) ?_ 1 _ rfl; (with_reducible repeat (first | refine blk_drewN ?_ _ | refine blk_drew ?_ | refine blk_alloc ?_ _)); refine blk_put (cs := #[.string (⟨#[]⟩ : ByteArray), .int .i64 0, .int .i64 0, .int .i64 0, .int .i64 0, .int .i64 0]) ?_ 0 _ rfl; (with_reducible repeat (first | refine blk_drewN ?_ _ | refine blk_drew ?_ | refine blk_alloc ?_ _)); exact BK275.out) hb); have n1_ := Aside0.mk (below_step (by repeat (first | (with_reducible first | exact HB.out | apply below_alloc | apply pw_below_drewN | apply below_drew1 | refine below_set ?_ GE275.out) | exact HB.out)) hb); clear BK275; clear HB; have BK275 := n0_; have HB := n1_; clear n0_ n1_; (try clear hb); (try clear hb2); (try clear hk); (try clear hi)))
              repeat (go_quiet (first | ((with_reducible refine gate_dst (N := 4) rfl ?_); refine box_event ?hg (N := 4) ?hd (cs := #[.string (⟨#[]⟩ : ByteArray), .int .i64 0, .int .i64 0, .int .i64 0, .int .i64 0, .int .i64 0]) (t := 23) ?hr ?_; (case hd => rfl); (case hg => rfl); (case hr => first | (go_simp; done) | (go_simp; rfl)); intro gb275 hg w7 hbox hb; have n0_ := Aside0.mk (below_step (by repeat (first | (with_reducible first | exact HB.out | apply below_alloc | apply pw_below_drewN | apply below_drew1) | exact HB.out)) hb); have n1_ := Aside0.mk (hbox); have n2_ := Aside0.mk ((by rw [hg]; exact (below_size (by repeat (first | (with_reducible first | exact HB.out | apply below_alloc | apply pw_below_drewN | apply below_drew1) | exact HB.out))) : w.heap.size ≤ gb275)); have n3_ := Aside0.mk ((by rw [hg]; exact (below_size (by repeat (first | (with_reducible first | exact HB.out | apply below_alloc | apply pw_below_drewN | apply below_drew1) | exact HB.out))) : w.heap.size ≤ gb275)); clear HB; have HB := n0_; have BK275 := n1_; have GW275 := n2_; have GE275 := n3_; clear n0_ n1_ n2_ n3_; clear hb hbox hg; have hcz8_0 : w7.cell? ⟨gb275, 0, none⟩ = some (.string (⟨#[]⟩ : ByteArray)) := (blk_cell BK275.out 0).trans rfl; have hcz8_1 : w7.cell? ⟨gb275, 1, none⟩ = some (.int .i64 0) := (blk_cell BK275.out 1).trans rfl; have hcz8_2 : w7.cell? ⟨gb275, 2, none⟩ = some (.int .i64 0) := (blk_cell BK275.out 2).trans rfl; have hcz8_3 : w7.cell? ⟨gb275, 3, none⟩ = some (.int .i64 0) := (blk_cell BK275.out 3).trans rfl; have hcz8_4 : w7.cell? ⟨gb275, 4, none⟩ = some (.int .i64 0) := (blk_cell BK275.out 4).trans rfl; have hcz8_5 : w7.cell? ⟨gb275, 5, none⟩ = some (.int .i64 0) := (blk_cell BK275.out 5).trans rfl; have hfz8_0 := blk_frozen BK275.out 0; have hfz8_1 := blk_frozen BK275.out 1; have hfz8_2 := blk_frozen BK275.out 2; have hfz8_3 := blk_frozen BK275.out 3; have hfz8_4 := blk_frozen BK275.out 4; have hfz8_5 := blk_frozen BK275.out 5) | (go_at_call 25; (with_reducible refine (asset_Check.calls k1 ((rd_T23 l0 x11_1).f0) ((rd_T23 l0 x11_1).f1) ((rd_T23 l0 x11_1).f2) ((rd_T23 l0 x11_1).f3) ((rd_T23 l0 x11_1).f4) ((rd_T23 l0 x11_1).f5) t276 _ A6.out).mono ?_); rintro e w9 ⟨rfl, hb⟩; have n0_ := Aside0.mk (blk_below (g := gb275) (o := .cells #[.string ((rd_T23 l0 x11_1).f0), .int .i64 ((rd_T23 l0 x11_1).f1), .int .i64 ((rd_T23 l0 x11_1).f2), .int .i64 ((rd_T23 l0 x11_1).f3), .int .i64 ((rd_T23 l0 x11_1).f4), .int .i64 ((rd_T23 l0 x11_1).f5)] 23 (0, 0)) (by (with_reducible repeat (first | refine blk_drewN ?_ _ | refine blk_drew ?_ | refine blk_alloc ?_ _)); refine blk_put (cs := #[.string ((rd_T23 l0 x11_1).f0), .int .i64 ((rd_T23 l0 x11_1).f1), .int .i64 ((rd_T23 l0 x11_1).f2), .int .i64 ((rd_T23 l0 x11_1).f3), .int .i64 ((rd_T23 l0 x11_1).f4), .int .i64 0]) ?_ 5 _ rfl; (with_reducible repeat (first | refine blk_drewN ?_ _ | refine blk_drew ?_ | refine blk_alloc ?_ _)); refine blk_put (cs := #[.string ((rd_T23 l0 x11_1).f0), .int .i64 ((rd_T23 l0 x11_1).f1), .int .i64 ((rd_T23 l0 x11_1).f2), .int .i64 ((rd_T23 l0 x11_1).f3), .int .i64 0, .int .i64 0]) ?_ 4 _ rfl; (with_reducible repeat (first | refine blk_drewN ?_ _ | refine blk_drew ?_ | refine blk_alloc ?_ _)); refine blk_put (cs := #[.string ((rd_T23 l0 x11_1).f0), .int .i64 ((rd_T23 l0 x11_1).f1), .int .i64 ((rd_T23 l0 x11_1).f2), .int .i64 0, .int .i64 0, .int .i64 0]) ?_ 3 _ rfl; (with_reducible repeat (first | refine blk_drewN ?_ _ | refine blk_drew ?_ | refine blk_alloc ?_ _)); refine blk_put (cs := #[.string ((rd_T23 l0 x11_1).f0), .int .i64 ((rd_T23 l0 x11_1).f1), .int .i64 0, .int .i64 0, .int .i64 0, .int .i64 0]) ?_ 2 _ rfl; (with_reducible repeat (first | refine blk_drewN ?_ _ | refine blk_drew ?_ | refine blk_alloc ?_ _)); refine blk_put (cs := #[.string ((rd_T23 l0 x11_1).f0), .int .i64 0, .int .i64 0, .int .i64 0, .int .i64 0, .int .i64 0]) ?_ 1 _ rfl; (with_reducible repeat (first | refine blk_drewN ?_ _ | refine blk_drew ?_ | refine blk_alloc ?_ _)); refine blk_put (cs := #[.string (⟨#[]⟩ : ByteArray), .int .i64 0, .int .i64 0, .int .i64 0, .int .i64 0, .int .i64 0]) ?_ 0 _ rfl; (with_reducible repeat (first | refine blk_drewN ?_ _ | refine blk_drew ?_ | refine blk_alloc ?_ _)); exact BK275.out) hb); have n1_ := Aside0.mk (below_step (by repeat (first | (with_reducible first | exact HB.out | apply below_alloc | apply pw_below_drewN | apply below_drew1 | refine below_set ?_ GE275.out) | exact HB.out)) hb); clear BK275; clear HB; have BK275 := n0_; have HB := n1_; clear n0_ n1_; (try clear hb); (try clear hb2); (try clear hk); (try clear hi))); go_upto_if 19 with (first | ((with_reducible refine gate_dst (N := 4) rfl ?_); refine box_event ?hg (N := 4) ?hd (cs := #[.string (⟨#[]⟩ : ByteArray), .int .i64 0, .int .i64 0, .int .i64 0, .int .i64 0, .int .i64 0]) (t := 23) ?hr ?_; (case hd => rfl); (case hg => rfl); (case hr => first | (go_simp; done) | (go_simp; rfl)); intro gb275 hg w7 hbox hb; have n0_ := Aside0.mk (below_step (by repeat (first | (with_reducible first | exact HB.out | apply below_alloc | apply pw_below_drewN | apply below_drew1) | exact HB.out)) hb); have n1_ := Aside0.mk (hbox); have n2_ := Aside0.mk ((by rw [hg]; exact (below_size (by repeat (first | (with_reducible first | exact HB.out | apply below_alloc | apply pw_below_drewN | apply below_drew1) | exact HB.out))) : w.heap.size ≤ gb275)); have n3_ := Aside0.mk ((by rw [hg]; exact (below_size (by repeat (first | (with_reducible first | exact HB.out | apply below_alloc | apply pw_below_drewN | apply below_drew1) | exact HB.out))) : w.heap.size ≤ gb275)); clear HB; have HB := n0_; have BK275 := n1_; have GW275 := n2_; have GE275 := n3_; clear n0_ n1_ n2_ n3_; clear hb hbox hg; have hcz8_0 : w7.cell? ⟨gb275, 0, none⟩ = some (.string (⟨#[]⟩ : ByteArray)) := (blk_cell BK275.out 0).trans rfl; have hcz8_1 : w7.cell? ⟨gb275, 1, none⟩ = some (.int .i64 0) := (blk_cell BK275.out 1).trans rfl; have hcz8_2 : w7.cell? ⟨gb275, 2, none⟩ = some (.int .i64 0) := (blk_cell BK275.out 2).trans rfl; have hcz8_3 : w7.cell? ⟨gb275, 3, none⟩ = some (.int .i64 0) := (blk_cell BK275.out 3).trans rfl; have hcz8_4 : w7.cell? ⟨gb275, 4, none⟩ = some (.int .i64 0) := (blk_cell BK275.out 4).trans rfl; have hcz8_5 : w7.cell? ⟨gb275, 5, none⟩ = some (.int .i64 0) := (blk_cell BK275.out 5).trans rfl; have hfz8_0 := blk_frozen BK275.out 0; have hfz8_1 := blk_frozen BK275.out 1; have hfz8_2 := blk_frozen BK275.out 2; have hfz8_3 := blk_frozen BK275.out 3; have hfz8_4 := blk_frozen BK275.out 4; have hfz8_5 := blk_frozen BK275.out 5) | (go_at_call 25; (with_reducible refine (asset_Check.calls k1 ((rd_T23 l0 x11_1).f0) ((rd_T23 l0 x11_1).f1) ((rd_T23 l0 x11_1).f2) ((rd_T23 l0 x11_1).f3) ((rd_T23 l0 x11_1).f4) ((rd_T23 l0 x11_1).f5) t276 _ A6.out).mono ?_); rintro e w9 ⟨rfl, hb⟩; have n0_ := Aside0.mk (blk_below (g := gb275) (o := .cells #[.string ((rd_T23 l0 x11_1).f0), .int .i64 ((rd_T23 l0 x11_1).f1), .int .i64 ((rd_T23 l0 x11_1).f2), .int .i64 ((rd_T23 l0 x11_1).f3), .int .i64 ((rd_T23 l0 x11_1).f4), .int .i64 ((rd_T23 l0 x11_1).f5)] 23 (0, 0)) (by (with_reducible repeat (first | refine blk_drewN ?_ _ | refine blk_drew ?_ | refine blk_alloc ?_ _)); refine blk_put (cs := #[.string ((rd_T23 l0 x11_1).f0), .int .i64 ((rd_T23 l0 x11_1).f1), .int .i64 ((rd_T23 l0 x11_1).f2), .int .i64 ((rd_T23 l0 x11_1).f3), .int .i64 ((rd_T23 l0 x11_1).f4), .int .i64 0]) ?_ 5 _ rfl; (with_reducible repeat (first | refine blk_drewN ?_ _ | refine blk_drew ?_ | refine blk_alloc ?_ _)); refine blk_put (cs := #[.string ((rd_T23 l0 x11_1).f0), .int .i64 ((rd_T23 l0 x11_1).f1), .int .i64 ((rd_T23 l0 x11_1).f2), .int .i64 ((rd_T23 l0 x11_1).f3), .int .i64 0, .int .i64 0]) ?_ 4 _ rfl; (with_reducible repeat (first | refine blk_drewN ?_ _ | refine blk_drew ?_ | refine blk_alloc ?_ _)); refine blk_put (cs := #[.string ((rd_T23 l0 x11_1).f0), .int .i64 ((rd_T23 l0 x11_1).f1), .int .i64 ((rd_T23 l0 x11_1).f2), .int .i64 0, .int .i64 0, .int .i64 0]) ?_ 3 _ rfl; (with_reducible repeat (first | refine blk_drewN ?_ _ | refine blk_drew ?_ | refine blk_alloc ?_ _)); refine blk_put (cs := #[.string ((rd_T23 l0 x11_1).f0), .int .i64 ((rd_T23 l0 x11_1).f1), .int .i64 0, .int .i64 0, .int .i64 0, .int .i64 0]) ?_ 2 _ rfl; (with_reducible repeat (first | refine blk_drewN ?_ _ | refine blk_drew ?_ | refine blk_alloc ?_ _)); refine blk_put (cs := #[.string ((rd_T23 l0 x11_1).f0), .int .i64 0, .int .i64 0, .int .i64 0, .int .i64 0, .int .i64 0]) ?_ 1 _ rfl; (with_reducible repeat (first | refine blk_drewN ?_ _ | refine blk_drew ?_ | refine blk_alloc ?_ _)); refine blk_put (cs := #[.string (⟨#[]⟩ : ByteArray), .int .i64 0, .int .i64 0, .int .i64 0, .int .i64 0, .int .i64 0]) ?_ 0 _ rfl; (with_reducible repeat (first | refine blk_drewN ?_ _ | refine blk_drew ?_ | refine blk_alloc ?_ _)); exact BK275.out) hb); have n1_ := Aside0.mk (below_step (by repeat (first | (with_reducible first | exact HB.out | apply below_alloc | apply pw_below_drewN | apply below_drew1 | refine below_set ?_ GE275.out) | exact HB.out)) hb); clear BK275; clear HB; have BK275 := n0_; have HB := n1_; clear n0_ n1_; (try clear hb); (try clear hb2); (try clear hk); (try clear hi))))
              (try simp only [Act.put, List.setIfInBounds_toArray, List.set_cons_zero, List.set_cons_succ])
              by_cases c10 : t276 = 0
              · rw [if_pos c10] at H
                have c10b0 : (t276 == 0) = true := beq_iff_eq.mpr c10
                have c10b1 : (t276 != 0) = false := bne_eq_false_iff_eq.mpr c10
                clear c10
                (try simp only [c10b0, c10b1])
                by_cases c11 : x11_1 > 0
                · rw [if_pos c11] at H
                  have c11b0 : decide (0 < x11_1) = true := decide_eq_true c11
                  clear c11
                  obtain ⟨ji12, hji12⟩ : ∃ j_ : Int, (wrap64 (x11_1 - 1)) = j_ := ⟨_, rfl⟩
                  replace H : (if 0 ≤ (ji12) then (if (ji12) < (l0.length : Int) then (if (Op.bytesLess (((rd_T23 l0 x11_1).f0).toList) (((rd_T23 l0 (ji12)).f0).toList)) = true then (some 12) else (if (((rd_T23 l0 x11_1).f0).toList) = (((rd_T23 l0 (ji12)).f0).toList) then (some 12) else (asset_CheckAll.l0 k1 l0 l0 (l0.length : Int) (wrap64 (x11_1 + 1))))) else (none)) else (none)) = some r := by first | (rw [hji12] at H; exact H) | (simp only [hji12] at H ⊢; exact H)
                  have hji12w : (IntKind.i64.wrap (x11_1 - 1)) = ji12 := (i64_w _).trans hji12
                  by_cases c13 : 0 ≤ (ji12)
                  · rw [if_pos c13] at H
                    have c13b0 : decide (0 ≤ (ji12)) = true := decide_eq_true c13
                    clear c13
                    by_cases c14 : (ji12) < (l0.length : Int)
                    · rw [if_pos c14] at H
                      have c14b0 : decide ((ji12) < (l0.length : Int)) = true := decide_eq_true c14
                      clear c14
                      by_cases c15 : (Op.bytesLess (((rd_T23 l0 x11_1).f0).toList) (((rd_T23 l0 (ji12)).f0).toList)) = true
                      · rw [if_pos c15] at H
                        have c15b0 : (Op.bytesLess (((rd_T23 l0 x11_1).f0).toList) (((rd_T23 l0 (ji12)).f0).toList)) = true := c15
                        clear c15
                        obtain rfl := Option.some.inj H
                        have hcz16_0 : w9.cell? ⟨gb275, 0, none⟩ = some (.string ((rd_T23 l0 x11_1).f0)) := (blk_cell BK275.out 0).trans rfl
                        have hcz16_1 : w9.cell? ⟨gb275, 1, none⟩ = some (.int .i64 ((rd_T23 l0 x11_1).f1)) := (blk_cell BK275.out 1).trans rfl
                        have hcz16_2 : w9.cell? ⟨gb275, 2, none⟩ = some (.int .i64 ((rd_T23 l0 x11_1).f2)) := (blk_cell BK275.out 2).trans rfl
                        have hcz16_3 : w9.cell? ⟨gb275, 3, none⟩ = some (.int .i64 ((rd_T23 l0 x11_1).f3)) := (blk_cell BK275.out 3).trans rfl
                        have hcz16_4 : w9.cell? ⟨gb275, 4, none⟩ = some (.int .i64 ((rd_T23 l0 x11_1).f4)) := (blk_cell BK275.out 4).trans rfl
                        have hcz16_5 : w9.cell? ⟨gb275, 5, none⟩ = some (.int .i64 ((rd_T23 l0 x11_1).f5)) := (blk_cell BK275.out 5).trans rfl
                        have hfz16_0 := blk_frozen BK275.out 0
                        have hfz16_1 := blk_frozen BK275.out 1
                        have hfz16_2 := blk_frozen BK275.out 2
                        have hfz16_3 := blk_frozen BK275.out 3
                        have hfz16_4 := blk_frozen BK275.out 4
                        have hfz16_5 := blk_frozen BK275.out 5
                        have p277 : 0 ≤ ((ji12) : Int) := of_decide_eq_true (by first | (with_reducible assumption) | assumption)
                        have q277 : (ji12) < (l0.length : Int) := of_decide_eq_true (by first | (with_reducible assumption) | assumption)
                        obtain ⟨ad277, e277, hx277_0, hx277_1, hx277_2, hx277_3, hx277_4, hx277_5⟩ := at_T23 HR0.out (ji12) p277 q277
                        obtain rfl : ad274 = ad277 := (by injection e277)
                        replace hx277_0 := (HB.out.cell (World.block_lt_of_cell? w _ hx277_0)).trans hx277_0
                        replace hx277_1 := (HB.out.cell (World.block_lt_of_cell? w _ hx277_1)).trans hx277_1
                        replace hx277_2 := (HB.out.cell (World.block_lt_of_cell? w _ hx277_2)).trans hx277_2
                        replace hx277_3 := (HB.out.cell (World.block_lt_of_cell? w _ hx277_3)).trans hx277_3
                        replace hx277_4 := (HB.out.cell (World.block_lt_of_cell? w _ hx277_4)).trans hx277_4
                        replace hx277_5 := (HB.out.cell (World.block_lt_of_cell? w _ hx277_5)).trans hx277_5
                        replace p277 := eq_true p277
                        replace q277 := eq_true q277
                        go_wp2
                        repeat (go_quiet (fail); try go_wp2)
                        go_ret
                        exact ⟨by first | rfl | (simp [errW_none, errW_some] <;> rfl) | (simp only [← hji12]; first | rfl | (simp [errW_none, errW_some] <;> rfl)) | (simp [*, errW_none, errW_some] <;> rfl), by repeat (first | (with_reducible first | exact HB.out | apply below_alloc | apply pw_below_drewN | apply below_drew1 | refine below_set ?_ GE275.out) | exact HB.out)⟩
                      · rw [if_neg c15] at H
                        have c15b0 : (Op.bytesLess (((rd_T23 l0 x11_1).f0).toList) (((rd_T23 l0 (ji12)).f0).toList)) = false := by simpa using c15
                        clear c15
                        by_cases c17 : (((rd_T23 l0 x11_1).f0).toList) = (((rd_T23 l0 (ji12)).f0).toList)
                        · rw [if_pos c17] at H
                          have c17b0 : ((((rd_T23 l0 x11_1).f0).toList) == (((rd_T23 l0 (ji12)).f0).toList)) = true := beq_iff_eq.mpr c17
                          have c17b1 : ((((rd_T23 l0 x11_1).f0).toList) != (((rd_T23 l0 (ji12)).f0).toList)) = false := bne_eq_false_iff_eq.mpr c17
                          clear c17
                          obtain rfl := Option.some.inj H
                          have hcz18_0 : w9.cell? ⟨gb275, 0, none⟩ = some (.string ((rd_T23 l0 x11_1).f0)) := (blk_cell BK275.out 0).trans rfl
                          have hcz18_1 : w9.cell? ⟨gb275, 1, none⟩ = some (.int .i64 ((rd_T23 l0 x11_1).f1)) := (blk_cell BK275.out 1).trans rfl
                          have hcz18_2 : w9.cell? ⟨gb275, 2, none⟩ = some (.int .i64 ((rd_T23 l0 x11_1).f2)) := (blk_cell BK275.out 2).trans rfl
                          have hcz18_3 : w9.cell? ⟨gb275, 3, none⟩ = some (.int .i64 ((rd_T23 l0 x11_1).f3)) := (blk_cell BK275.out 3).trans rfl
                          have hcz18_4 : w9.cell? ⟨gb275, 4, none⟩ = some (.int .i64 ((rd_T23 l0 x11_1).f4)) := (blk_cell BK275.out 4).trans rfl
                          have hcz18_5 : w9.cell? ⟨gb275, 5, none⟩ = some (.int .i64 ((rd_T23 l0 x11_1).f5)) := (blk_cell BK275.out 5).trans rfl
                          have hfz18_0 := blk_frozen BK275.out 0
                          have hfz18_1 := blk_frozen BK275.out 1
                          have hfz18_2 := blk_frozen BK275.out 2
                          have hfz18_3 := blk_frozen BK275.out 3
                          have hfz18_4 := blk_frozen BK275.out 4
                          have hfz18_5 := blk_frozen BK275.out 5
                          have p277 : 0 ≤ ((ji12) : Int) := of_decide_eq_true (by first | (with_reducible assumption) | assumption)
                          have q277 : (ji12) < (l0.length : Int) := of_decide_eq_true (by first | (with_reducible assumption) | assumption)
                          obtain ⟨ad277, e277, hx277_0, hx277_1, hx277_2, hx277_3, hx277_4, hx277_5⟩ := at_T23 HR0.out (ji12) p277 q277
                          obtain rfl : ad274 = ad277 := (by injection e277)
                          replace hx277_0 := (HB.out.cell (World.block_lt_of_cell? w _ hx277_0)).trans hx277_0
                          replace hx277_1 := (HB.out.cell (World.block_lt_of_cell? w _ hx277_1)).trans hx277_1
                          replace hx277_2 := (HB.out.cell (World.block_lt_of_cell? w _ hx277_2)).trans hx277_2
                          replace hx277_3 := (HB.out.cell (World.block_lt_of_cell? w _ hx277_3)).trans hx277_3
                          replace hx277_4 := (HB.out.cell (World.block_lt_of_cell? w _ hx277_4)).trans hx277_4
                          replace hx277_5 := (HB.out.cell (World.block_lt_of_cell? w _ hx277_5)).trans hx277_5
                          replace p277 := eq_true p277
                          replace q277 := eq_true q277
                          go_wp2
                          repeat (go_quiet (fail); try go_wp2)
                          go_ret
                          exact ⟨by first | rfl | (simp [errW_none, errW_some] <;> rfl) | (simp only [← hji12]; first | rfl | (simp [errW_none, errW_some] <;> rfl)) | (simp [*, errW_none, errW_some] <;> rfl), by repeat (first | (with_reducible first | exact HB.out | apply below_alloc | apply pw_below_drewN | apply below_drew1 | refine below_set ?_ GE275.out) | exact HB.out)⟩
                        · rw [if_neg c17] at H
                          have c17b0 : ((((rd_T23 l0 x11_1).f0).toList) == (((rd_T23 l0 (ji12)).f0).toList)) = false := beq_eq_false_iff_ne.mpr c17
                          have c17b1 : ((((rd_T23 l0 x11_1).f0).toList) != (((rd_T23 l0 (ji12)).f0).toList)) = true := bne_iff_ne.mpr c17
                          have H' := Aside0.mk H
                          clear H
                          have hcz19_0 : w9.cell? ⟨gb275, 0, none⟩ = some (.string ((rd_T23 l0 x11_1).f0)) := (blk_cell BK275.out 0).trans rfl
                          have hcz19_1 : w9.cell? ⟨gb275, 1, none⟩ = some (.int .i64 ((rd_T23 l0 x11_1).f1)) := (blk_cell BK275.out 1).trans rfl
                          have hcz19_2 : w9.cell? ⟨gb275, 2, none⟩ = some (.int .i64 ((rd_T23 l0 x11_1).f2)) := (blk_cell BK275.out 2).trans rfl
                          have hcz19_3 : w9.cell? ⟨gb275, 3, none⟩ = some (.int .i64 ((rd_T23 l0 x11_1).f3)) := (blk_cell BK275.out 3).trans rfl
                          have hcz19_4 : w9.cell? ⟨gb275, 4, none⟩ = some (.int .i64 ((rd_T23 l0 x11_1).f4)) := (blk_cell BK275.out 4).trans rfl
                          have hcz19_5 : w9.cell? ⟨gb275, 5, none⟩ = some (.int .i64 ((rd_T23 l0 x11_1).f5)) := (blk_cell BK275.out 5).trans rfl
                          have hfz19_0 := blk_frozen BK275.out 0
                          have hfz19_1 := blk_frozen BK275.out 1
                          have hfz19_2 := blk_frozen BK275.out 2
                          have hfz19_3 := blk_frozen BK275.out 3
                          have hfz19_4 := blk_frozen BK275.out 4
                          have hfz19_5 := blk_frozen BK275.out 5
                          have p277 : 0 ≤ ((ji12) : Int) := of_decide_eq_true (by first | (with_reducible assumption) | assumption)
                          have q277 : (ji12) < (l0.length : Int) := of_decide_eq_true (by first | (with_reducible assumption) | assumption)
                          obtain ⟨ad277, e277, hx277_0, hx277_1, hx277_2, hx277_3, hx277_4, hx277_5⟩ := at_T23 HR0.out (ji12) p277 q277
                          obtain rfl : ad274 = ad277 := (by injection e277)
                          replace hx277_0 := (HB.out.cell (World.block_lt_of_cell? w _ hx277_0)).trans hx277_0
                          replace hx277_1 := (HB.out.cell (World.block_lt_of_cell? w _ hx277_1)).trans hx277_1
                          replace hx277_2 := (HB.out.cell (World.block_lt_of_cell? w _ hx277_2)).trans hx277_2
                          replace hx277_3 := (HB.out.cell (World.block_lt_of_cell? w _ hx277_3)).trans hx277_3
                          replace hx277_4 := (HB.out.cell (World.block_lt_of_cell? w _ hx277_4)).trans hx277_4
                          replace hx277_5 := (HB.out.cell (World.block_lt_of_cell? w _ hx277_5)).trans hx277_5
                          replace p277 := eq_true p277
                          replace q277 := eq_true q277
                          go_wp2
                          repeat (go_quiet (fail); try go_wp2)
                          go_roundg k1
                          case measure => have := HK1.out; omega
                          case rel => exact ⟨(wrap64 (x11_1 + 1)), (by first | rfl | (simp; done) | (simp [*]; done)), H', ⟨by have := HK1.out; omega⟩, ⟨by repeat (first | (with_reducible first | exact HB.out | apply below_alloc | apply pw_below_drewN | apply below_drew1 | refine below_set ?_ GE275.out) | exact HB.out)⟩⟩
                    · rw [if_neg c14] at H
                      exact absurd H (by simp)
                  · rw [if_neg c13] at H
                    exact absurd H (by simp)
                · rw [if_neg c11] at H
                  have c11b0 : decide (0 < x11_1) = false := decide_eq_false c11
                  clear c11
                  have H' := Aside0.mk H
                  clear H
                  go_wp2
                  repeat (go_quiet (fail); try go_wp2)
                  go_roundg k1
                  case measure => have := HK1.out; omega
                  case rel => exact ⟨(wrap64 (x11_1 + 1)), (by first | rfl | (simp; done) | (simp [*]; done)), H', ⟨by have := HK1.out; omega⟩, ⟨by repeat (first | (with_reducible first | exact HB.out | apply below_alloc | apply pw_below_drewN | apply below_drew1 | refine below_set ?_ GE275.out) | exact HB.out)⟩⟩
              · rw [if_neg c10] at H
                have c10b0 : (t276 == 0) = false := beq_eq_false_iff_ne.mpr c10
                have c10b1 : (t276 != 0) = true := bne_iff_ne.mpr c10
                (try simp only [c10b0, c10b1])
                obtain rfl := Option.some.inj H
                go_wp2
                repeat (go_quiet (fail); try go_wp2)
                go_ret
                exact ⟨by first | rfl | (simp [errW_none, errW_some] <;> rfl) | (simp [*, errW_none, errW_some] <;> rfl), by repeat (first | (with_reducible first | exact HB.out | apply below_alloc | apply pw_below_drewN | apply below_drew1 | refine below_set ?_ GE275.out) | exact HB.out)⟩
            · rw [if_neg c5] at H
              exact absurd H (by simp)
          · rw [if_neg c4] at H
            exact absurd H (by simp)
        · rw [if_neg c3] at H
          have c3b0 : decide (x11_1 < (l0.length : Int)) = false := decide_eq_false c3
          clear c3
          (try simp only [c3b0])
          obtain rfl := Option.some.inj H
          go_wp2
          repeat (go_quiet (fail); try go_wp2)
          go_ret
          exact ⟨by first | rfl | (simp [errW_none, errW_some] <;> rfl) | (simp [*, errW_none, errW_some] <;> rfl), by repeat (first | (with_reducible first | exact HB.out | apply below_alloc | apply pw_below_drewN | apply below_drew1) | exact HB.out)⟩
def pledge_Worth.l0 : Nat → List (S23) → List (S94) → List Int → List (S85) → Int → Int → Option (Int × Int)
  | 0, _, _, _, _, _, _ => none
  | k + 1, x2, x3, x10, x29, x30, x31 => if x31 < x30 then (if 0 ≤ x31 then (if x31 < (x29.length : Int) then ((asset_Find.f k x2 ((rd_T85 x29 x31).f1)).bind fun bt542 => (if bt542.2.2.2.2.2.2 = true then ((asset_Worth.f k bt542.1 bt542.2.1 bt542.2.2.1 bt542.2.2.2.1 bt542.2.2.2.2.1 bt542.2.2.2.2.2.1 ((rd_T85 x29 x31).f2) x3).bind fun bt550 => (if bt550.2 = 0 then (if x10.length < 17592186044416 then (pledge_Worth.l0 k x2 x3 (x10 ++ [bt550.1]) x29 x30 (wrap64 (x31 + 1))) else (none)) else (some (0, bt550.2)))) else (some (0, 11)))) else (none)) else (none)) else ((cents_Sum.f k x10).bind fun bt538 => (some (bt538.1, bt538.2)))
def pledge_Worth.f (k : Nat) (l0 : List (S85)) (a1_0 : ByteArray) (a1_1 : ByteArray) (l2 : List (S23)) (l3 : List (S94)) : Option (Int × Int) := (pledge_Check.f k l0).bind fun t533 => (if t533 = 0 then ((asset_CheckAll.f k l2).bind fun t534 => (if t534 = 0 then ((pledge_Of.f k l0 a1_0 a1_1).bind fun t535 => (pledge_Worth.l0 k l2 l3 ([] : List Int) t535 (t535.length : Int) 0)) else (some (0, t534)))) else (some (0, t533)))
theorem pledge_Worth.mono_l : ∀ k, (∀ y0 y1 y2 y3 y4 y5, LeO (pledge_Worth.l0 k y0 y1 y2 y3 y4 y5) (pledge_Worth.l0 (k + 1) y0 y1 y2 y3 y4 y5))
  | 0 => fun _ _ _ _ _ _ r h => by simp [pledge_Worth.l0] at h
  | k + 1 => by
    have ih0 := pledge_Worth.mono_l k
    · intro y0 y1 y2 y3 y4 y5
      unfold pledge_Worth.l0
      repeat' first
      | (with_reducible exact ih0 _ _ _ _ _ _)
      | (with_reducible exact asset_CheckAll.mono _ _)
      | (with_reducible exact asset_Find.mono _ _ _)
      | (with_reducible exact asset_Worth.mono _ _ _ _ _ _ _ _ _)
      | (with_reducible exact cents_Sum.mono _ _)
      | (with_reducible exact pledge_Check.mono _ _)
      | (with_reducible exact pledge_Of.mono _ _ _ _)
      | (with_reducible exact LeO.refl _)
      | (with_reducible exact LeO.none _)
      | (with_reducible refine LeO.ite ?_ ?_)
      | (with_reducible refine LeO.bind ?_ (fun _ => ?_))
      | exact ih0 _ _ _ _ _ _
      | exact asset_CheckAll.mono _ _
      | exact asset_Find.mono _ _ _
      | exact asset_Worth.mono _ _ _ _ _ _ _ _ _
      | exact cents_Sum.mono _ _
      | exact pledge_Check.mono _ _
      | exact pledge_Of.mono _ _ _ _
      | exact LeO.none _
      | refine LeO.ite ?_ ?_
      | refine LeO.bind ?_ (fun _ => ?_)
theorem pledge_Worth.mono : ∀ a0 a1 a2 a3 a4 k, LeO (pledge_Worth.f k a0 a1 a2 a3 a4) (pledge_Worth.f (k + 1) a0 a1 a2 a3 a4) := by
  intro a0 a1 a2 a3 a4 k
  have ih0 := pledge_Worth.mono_l k
  unfold pledge_Worth.f
  repeat' first
      | (with_reducible exact ih0 _ _ _ _ _ _)
      | (with_reducible exact asset_CheckAll.mono _ _)
      | (with_reducible exact asset_Find.mono _ _ _)
      | (with_reducible exact asset_Worth.mono _ _ _ _ _ _ _ _ _)
      | (with_reducible exact cents_Sum.mono _ _)
      | (with_reducible exact pledge_Check.mono _ _)
      | (with_reducible exact pledge_Of.mono _ _ _ _)
      | (with_reducible exact LeO.refl _)
      | (with_reducible exact LeO.none _)
      | (with_reducible refine LeO.ite ?_ ?_)
      | (with_reducible refine LeO.bind ?_ (fun _ => ?_))
      | exact ih0 _ _ _ _ _ _
      | exact asset_CheckAll.mono _ _
      | exact asset_Find.mono _ _ _
      | exact asset_Worth.mono _ _ _ _ _ _ _ _ _
      | exact cents_Sum.mono _ _
      | exact pledge_Check.mono _ _
      | exact pledge_Of.mono _ _ _ _
      | exact LeO.none _
      | refine LeO.ite ?_ ?_
      | refine LeO.bind ?_ (fun _ => ?_)
set_option maxHeartbeats 8000000 in
set_option maxRecDepth 100000 in
theorem pledge_Worth.calls (k : Nat) (A0 : Option Addr) (c0 : Nat) (l0 : List (S85)) (a1_0 : ByteArray) (a1_1 : ByteArray) (A2 : Option Addr) (c2 : Nat) (l2 : List (S23)) (A3 : Option Addr) (c3 : Nat) (l3 : List (S94)) (r1 : Int) (r2 : Int) (w : World) (hr0 : Kd.C k85 w A0 l0.length l0) (hc0 : l0.length ≤ c0) (hr2 : Kd.C k23 w A2 l2.length l2) (hc2 : l2.length ≤ c2) (hr3 : Kd.C k94 w A3 l3.length l3) (hc3 : l3.length ≤ c3) (h : pledge_Worth.f k l0 a1_0 a1_1 l2 l3 = some (r1, r2)) :
    Calls Try.prog 40 #[.slice A0 l0.length c0, .agg #[.string a1_0, .string a1_1], .slice A2 l2.length c2, .slice A3 l3.length c3] w fun e w' => e = .returned (.tuple #[.int .i64 r1, .int .i64 r2]) ∧ Below w.heap.size w w' := by
  have hu67 := Try.underlying67
  have hu85 := Try.underlying85
  have hu23 := Try.underlying23
  have HR0 := Aside0.mk hr0
  have HC0 := Aside0.mk hc0
  clear hr0 hc0
  have HR2 := Aside0.mk hr2
  have HC2 := Aside0.mk hc2
  clear hr2 hc2
  have HR3 := Aside0.mk hr3
  have HC3 := Aside0.mk hc3
  clear hr3 hc3
  have HB := Aside0.mk (Below.refl w.heap.size w)
  have H : ((pledge_Check.f k l0).bind fun t533 => (if t533 = 0 then ((asset_CheckAll.f k l2).bind fun t534 => (if t534 = 0 then ((pledge_Of.f k l0 a1_0 a1_1).bind fun t535 => (pledge_Worth.l0 k l2 l3 ([] : List Int) t535 (t535.length : Int) 0)) else (some (0, t534)))) else (some (0, t533)))) = some (r1, r2) := h
  clear h
  replace H := Option.bind_eq_some_iff.mp H
  obtain ⟨t533, A50, H⟩ := H
  replace H : (if t533 = 0 then ((asset_CheckAll.f k l2).bind fun t534 => (if t534 = 0 then ((pledge_Of.f k l0 a1_0 a1_1).bind fun t535 => (pledge_Worth.l0 k l2 l3 ([] : List Int) t535 (t535.length : Int) 0)) else (some (0, t534)))) else (some (0, t533))) = some (r1, r2) := H
  have A5 := Aside0.mk A50
  clear A50
  go_enter Try.func40, Try.ntmps40
  go_upto_if 20 with (first | ((with_reducible refine gate_dst (N := 5) rfl ?_); refine box_event ?hg (N := 5) ?hd (cs := #[.string a1_0, .string a1_1]) (t := 67) ?hr ?_; (case hd => rfl); (case hg => rfl); (case hr => first | (go_simp; done) | (go_simp; rfl)); intro gb532 hg w6 hbox hb; have n0_ := Aside0.mk (below_step (by repeat (first | (with_reducible first | exact HB.out | apply below_alloc | apply pw_below_drewN | apply below_drew1) | exact HB.out)) hb); have n1_ := Aside0.mk (hbox); have n2_ := Aside0.mk ((by rw [hg]; exact (below_size (by repeat (first | (with_reducible first | exact HB.out | apply below_alloc | apply pw_below_drewN | apply below_drew1) | exact HB.out))) : w.heap.size ≤ gb532)); have n3_ := Aside0.mk ((by rw [hg]; exact (below_size (by repeat (first | (with_reducible first | exact HB.out | apply below_alloc | apply pw_below_drewN | apply below_drew1) | exact HB.out))) : w.heap.size ≤ gb532)); clear HB; have HB := n0_; have BK532 := n1_; have GW532 := n2_; have GE532 := n3_; clear n0_ n1_ n2_ n3_; clear hb hbox hg) | ((with_reducible refine gate_callee (f := 48) rfl ?_); refine goesL_ (some 18) rfl rfl Try.func48 (by kernel_rfl) rfl #[.slice A0 l0.length c0] rfl (by (try simp only [List.map_toArray, List.map_cons, List.map_nil]); first | done | rfl | (simp only [List.length_drop, List.length_take]; rfl)) ?_; (with_reducible refine (pledge_Check.calls k _ _ l0 t533 _ ?side1 ?side2 A5.out).mono ?_); (case side1 => repeat (first | exact (Kd.C_below HR0.out HB.out) | (with_reducible refine Kd.C_alloc ?_ _) | (with_reducible refine Kd.C_drewN ?_ _) | (with_reducible refine Kd.C_drew ?_))); (case side2 => exact HC0.out); rintro e w7 ⟨rfl, hb⟩; refine ⟨_, rfl, ?_⟩; have n0_ := Aside0.mk (blk_below (g := gb532) (o := .cells #[.string a1_0, .string a1_1] 67 (0, 0)) (by (with_reducible repeat (first | refine blk_drewN ?_ _ | refine blk_drew ?_ | refine blk_alloc ?_ _)); exact BK532.out) hb); have n1_ := Aside0.mk (below_step (by repeat (first | (with_reducible first | exact HB.out | apply below_alloc | apply pw_below_drewN | apply below_drew1 | refine below_set ?_ GE532.out) | exact HB.out)) hb); clear BK532; clear HB; have BK532 := n0_; have HB := n1_; clear n0_ n1_; (try clear hb); (try clear hb2); (try clear hk); (try clear hi)))
  (try simp only [Act.put, List.setIfInBounds_toArray, List.set_cons_zero, List.set_cons_succ])
  by_cases c8 : t533 = 0
  · rw [if_pos c8] at H
    have c8b0 : (t533 == 0) = true := beq_iff_eq.mpr c8
    have c8b1 : (t533 != 0) = false := bne_eq_false_iff_eq.mpr c8
    clear c8
    (try simp only [c8b0, c8b1])
    replace H := Option.bind_eq_some_iff.mp H
    obtain ⟨t534, A90, H⟩ := H
    replace H : (if t534 = 0 then ((pledge_Of.f k l0 a1_0 a1_1).bind fun t535 => (pledge_Worth.l0 k l2 l3 ([] : List Int) t535 (t535.length : Int) 0)) else (some (0, t534))) = some (r1, r2) := H
    have A9 := Aside0.mk A90
    clear A90
    go_upto_if 25 with (first | ((with_reducible refine gate_callee (f := 27) rfl ?_); refine goesL_ (some 23) rfl rfl Try.func27 (by kernel_rfl) rfl #[.slice A2 l2.length c2] rfl (by (try simp only [List.map_toArray, List.map_cons, List.map_nil]); first | done | rfl | (simp only [List.length_drop, List.length_take]; rfl)) ?_; (with_reducible refine (asset_CheckAll.calls k _ _ l2 t534 _ ?side1 ?side2 A9.out).mono ?_); (case side1 => repeat (first | exact (Kd.C_below HR2.out HB.out) | (with_reducible refine Kd.C_alloc ?_ _) | (with_reducible refine Kd.C_drewN ?_ _) | (with_reducible refine Kd.C_drew ?_))); (case side2 => exact HC2.out); rintro e w10 ⟨rfl, hb⟩; refine ⟨_, rfl, ?_⟩; have n0_ := Aside0.mk (blk_below (g := gb532) (o := .cells #[.string a1_0, .string a1_1] 67 (0, 0)) (by (with_reducible repeat (first | refine blk_drewN ?_ _ | refine blk_drew ?_ | refine blk_alloc ?_ _)); exact BK532.out) hb); have n1_ := Aside0.mk (below_step (by repeat (first | (with_reducible first | exact HB.out | apply below_alloc | apply pw_below_drewN | apply below_drew1 | refine below_set ?_ GE532.out) | exact HB.out)) hb); clear BK532; clear HB; have BK532 := n0_; have HB := n1_; clear n0_ n1_; (try clear hb); (try clear hb2); (try clear hk); (try clear hi)))
    (try simp only [Act.put, List.setIfInBounds_toArray, List.set_cons_zero, List.set_cons_succ])
    by_cases c11 : t534 = 0
    · rw [if_pos c11] at H
      have c11b0 : (t534 == 0) = true := beq_iff_eq.mpr c11
      have c11b1 : (t534 != 0) = false := bne_eq_false_iff_eq.mpr c11
      clear c11
      (try simp only [c11b0, c11b1])
      replace H := Option.bind_eq_some_iff.mp H
      obtain ⟨t535, A120, H⟩ := H
      replace H : (pledge_Worth.l0 k l2 l3 ([] : List Int) t535 (t535.length : Int) 0) = some (r1, r2) := H
      have A12 := Aside0.mk A120
      clear A120
      have H' := Aside0.mk H
      clear H
      have hcz13_0 : w10.cell? ⟨gb532, 0, none⟩ = some (.string a1_0) := (blk_cell BK532.out 0).trans rfl
      have hcz13_1 : w10.cell? ⟨gb532, 1, none⟩ = some (.string a1_1) := (blk_cell BK532.out 1).trans rfl
      have hfz13_0 := blk_frozen BK532.out 0
      have hfz13_1 := blk_frozen BK532.out 1
      go_wp2_with (first | ((with_reducible refine gate_callee (f := 47) rfl ?_); refine goesL_ (some 29) rfl rfl Try.func47 (by kernel_rfl) rfl #[.slice A0 l0.length c0, .agg #[.string a1_0, .string a1_1]] rfl (by (try simp only [List.map_toArray, List.map_cons, List.map_nil]); first | done | rfl | (simp only [List.length_drop, List.length_take]; rfl)) ?_; (with_reducible refine (pledge_Of.calls k _ _ l0 a1_0 a1_1 t535 _ ?side1 ?side2 A12.out).mono ?_); (case side1 => repeat (first | exact (Kd.C_below HR0.out HB.out) | (with_reducible refine Kd.C_alloc ?_ _) | (with_reducible refine Kd.C_drewN ?_ _) | (with_reducible refine Kd.C_drew ?_))); (case side2 => exact HC0.out); rintro e w14 ⟨v536, rfl, ho0, hb⟩; refine ⟨_, rfl, ?_⟩; have n0_ := Aside0.mk (Kd.R_lower ho0 (below_size (by repeat (first | (with_reducible first | exact HB.out | apply below_alloc | apply pw_below_drewN | apply below_drew1 | refine below_set ?_ GE532.out) | exact HB.out)))); have n1_ := Aside0.mk (blk_below (g := gb532) (o := .cells #[.string a1_0, .string a1_1] 67 (0, 0)) (by (with_reducible repeat (first | refine blk_drewN ?_ _ | refine blk_drew ?_ | refine blk_alloc ?_ _)); exact BK532.out) hb); have n2_ := Aside0.mk (below_step (by repeat (first | (with_reducible first | exact HB.out | apply below_alloc | apply pw_below_drewN | apply below_drew1 | refine below_set ?_ GE532.out) | exact HB.out)) hb); clear BK532; clear HB; have HO537 := n0_; have BK532 := n1_; have HB := n2_; clear n0_ n1_ n2_; (try clear hb); (try clear hb2); (try clear hk); (try clear hi); (try clear ho0); obtain ⟨Ao15, co15, eo15⟩ := Kd.R_slice HO537.out; subst eo15))
      go_loopg [10, 31] k (fun kq v10 v31 w' => ∃ (x10_1 : List Int) (x31_1 : Int), v31 = .int .i64 x31_1 ∧ Aside0 (pledge_Worth.l0 kq l2 l3 x10_1 t535 (t535.length : Int) x31_1 = some (r1, r2)) ∧ Aside0 (kq ≤ k) ∧ Aside0 (Kd.R (Kd.int .i64) 3 w' w.heap.size (fun _ => True) v10 x10_1) ∧ Aside0 (Kd.R k85 85 w' w.heap.size (fun _ => True) (.slice Ao15 t535.length co15) t535) ∧ Aside0 (w'.heap[gb532]? = some (.cells #[.string a1_0, .string a1_1] 67 (0, 0))) ∧ Aside0 (Below w.heap.size w w'))
      case atStart => exact ⟨(([] : List Int)), (0), (by first | rfl | (simp; done) | (simp [*]; done)), H', ⟨Nat.le_refl _⟩, ⟨by first | exact Kd.R_nil _ _ _ _ _ | exact Kd.N_nil _ _ _ _ _ | exact Kd.V_nil _ _ _ _ _ | exact Kd.Q_nil _ _ _ _ _ | exact Kd.S_nil _ _ _ _ _⟩, ⟨by (with_reducible repeat (first | apply Kd.R_alloc | apply Kd.R_drewN | apply Kd.R_drew)); exact HO537.out⟩, ⟨by (with_reducible repeat (first | refine blk_drewN ?_ _ | refine blk_drew ?_ | refine blk_alloc ?_ _)); exact BK532.out⟩, ⟨by repeat (first | (with_reducible first | exact HB.out | apply below_alloc | apply pw_below_drewN | apply below_drew1 | refine below_set ?_ GE532.out) | exact HB.out)⟩⟩
      case round =>
        clear H'
        try clear c1
        try clear c2
        try clear p2
        try clear c3
        try clear c4
        try clear c8
        try clear c8b0
        try clear c8b1
        try clear c11
        try clear c11b0
        try clear c11b1
        try clear hcz13_0
        try clear hcz13_1
        try clear hfz13_0
        try clear hfz13_1
        obtain ⟨x10_1, x31_1, rfl, HA, HK1, HO_10, HO_29, BK532, HB⟩ := hrel
        cases gk with
        | zero => exact absurd HA.out (by simp [pledge_Worth.l0])
        | succ k1 =>
          have H := HA.out
          clear HA
          simp only [pledge_Worth.l0] at H
          by_cases c16 : x31_1 < (t535.length : Int)
          · rw [if_pos c16] at H
            have c16b0 : decide (x31_1 < (t535.length : Int)) = true := decide_eq_true c16
            clear c16
            (try simp only [c16b0])
            by_cases c17 : 0 ≤ x31_1
            · rw [if_pos c17] at H
              have c17b0 : decide (0 ≤ x31_1) = true := decide_eq_true c17
              clear c17
              by_cases c18 : x31_1 < (t535.length : Int)
              · rw [if_pos c18] at H
                have c18b0 : decide (x31_1 < (t535.length : Int)) = true := decide_eq_true c18
                clear c18
                replace H := Option.bind_eq_some_iff.mp H
                obtain ⟨⟨t542, t543, t544, t545, t546, t547, t548⟩, A190, H⟩ := H
                replace H : (if t548 = true then ((asset_Worth.f k1 t542 t543 t544 t545 t546 t547 ((rd_T85 t535 x31_1).f2) l3).bind fun bt550 => (if bt550.2 = 0 then (if x10_1.length < 17592186044416 then (pledge_Worth.l0 k1 l2 l3 (x10_1 ++ [bt550.1]) t535 (t535.length : Int) (wrap64 (x31_1 + 1))) else (none)) else (some (0, bt550.2)))) else (some (0, 11))) = some (r1, r2) := H
                have A19 := Aside0.mk A190
                clear A190
                have p540 : 0 ≤ (x31_1 : Int) := of_decide_eq_true (by first | (with_reducible assumption) | assumption)
                have q540 : x31_1 < (t535.length : Int) := of_decide_eq_true (by first | (with_reducible assumption) | assumption)
                obtain ⟨ad540, e540, hx540_0, hx540_1, hx540_2, hx540_3⟩ := at_T85 (Kd.R_reads' HO_29.out).2.2 x31_1 p540 q540
                cases e540
                replace p540 := eq_true p540
                replace q540 := eq_true q540
                go_upto_if 43 with (first | ((with_reducible refine gate_dst (N := 12) rfl ?_); refine box_event ?hg (N := 12) ?hd (cs := #[.string (⟨#[]⟩ : ByteArray), .string (⟨#[]⟩ : ByteArray), .string (⟨#[]⟩ : ByteArray), .int .i64 0]) (t := 85) ?hr ?_; (case hd => rfl); (case hg => rfl); (case hr => first | (go_simp; done) | (go_simp; rfl)); intro gb541 hg w20 hbox hb; have n0_ := Aside0.mk (Kd.R_below (by (with_reducible repeat (first | apply Kd.R_alloc | apply Kd.R_drewN | apply Kd.R_drew)); exact HO_10.out) hb); have n1_ := Aside0.mk (Kd.R_below (Kd.R_elderB (by (with_reducible repeat (first | apply Kd.R_alloc | apply Kd.R_drewN | apply Kd.R_drew)); exact HO_29.out) gb541 (Nat.le_of_eq hg.symm)) hb); have n2_ := Aside0.mk (blk_below (g := gb532) (o := .cells #[.string a1_0, .string a1_1] 67 (0, 0)) (by (with_reducible repeat (first | refine blk_drewN ?_ _ | refine blk_drew ?_ | refine blk_alloc ?_ _)); exact BK532.out) hb); have n3_ := Aside0.mk (below_step (by repeat (first | (with_reducible first | exact HB.out | apply below_alloc | apply pw_below_drewN | apply below_drew1 | refine below_set ?_ GE532.out) | exact HB.out)) hb); have n4_ := Aside0.mk (hbox); have n5_ := Aside0.mk ((by rw [hg]; exact (below_size (by repeat (first | (with_reducible first | exact HB.out | apply below_alloc | apply pw_below_drewN | apply below_drew1 | refine below_set ?_ GE532.out) | exact HB.out))) : w.heap.size ≤ gb541)); have n6_ := Aside0.mk ((by rw [hg]; exact (below_size (by repeat (first | (with_reducible first | exact HB.out | apply below_alloc | apply pw_below_drewN | apply below_drew1 | refine below_set ?_ GE532.out) | exact HB.out))) : w.heap.size ≤ gb541)); have n7_ := Aside0.mk ((by rw [hg]; exact Nat.ne_of_lt (blk_lt (g := gb532) (o := .cells #[.string a1_0, .string a1_1] 67 (0, 0)) (by (with_reducible repeat (first | refine blk_drewN ?_ _ | refine blk_drew ?_ | refine blk_alloc ?_ _)); exact BK532.out)) : gb532 ≠ gb541)); have n8_ := Aside0.mk ((by rw [hg]; exact Nat.ne_of_gt (blk_lt (g := gb532) (o := .cells #[.string a1_0, .string a1_1] 67 (0, 0)) (by (with_reducible repeat (first | refine blk_drewN ?_ _ | refine blk_drew ?_ | refine blk_alloc ?_ _)); exact BK532.out)) : gb541 ≠ gb532)); clear HO_10; clear HO_29; clear BK532; clear HB; have HO_10 := n0_; have HO_29 := n1_; have BK532 := n2_; have HB := n3_; have BK541 := n4_; have GW541 := n5_; have GE541 := n6_; have NB532_541 := n7_; have NB541_532 := n8_; clear n0_ n1_ n2_ n3_ n4_ n5_ n6_ n7_ n8_; clear hb hbox hg; have hnb21 := NB541_532.out; have hnc21 := NB532_541.out; have hcz22_0 : w20.cell? ⟨gb541, 0, none⟩ = some (.string (⟨#[]⟩ : ByteArray)) := (blk_cell BK541.out 0).trans rfl; have hcz22_1 : w20.cell? ⟨gb541, 1, none⟩ = some (.string (⟨#[]⟩ : ByteArray)) := (blk_cell BK541.out 1).trans rfl; have hcz22_2 : w20.cell? ⟨gb541, 2, none⟩ = some (.string (⟨#[]⟩ : ByteArray)) := (blk_cell BK541.out 2).trans rfl; have hcz22_3 : w20.cell? ⟨gb541, 3, none⟩ = some (.int .i64 0) := (blk_cell BK541.out 3).trans rfl; have hfz22_0 := blk_frozen BK541.out 0; have hfz22_1 := blk_frozen BK541.out 1; have hfz22_2 := blk_frozen BK541.out 2; have hfz22_3 := blk_frozen BK541.out 3) | ((with_reducible refine gate_callee (f := 23) rfl ?_); refine goesL_ (some 39) rfl rfl Try.func23 (by kernel_rfl) rfl #[.slice A2 l2.length c2, .string ((rd_T85 t535 x31_1).f1)] rfl (by (try simp only [List.map_toArray, List.map_cons, List.map_nil]); first | done | rfl | (simp only [List.length_drop, List.length_take]; rfl)) ?_; (with_reducible refine (asset_Find.calls k1 _ _ l2 ((rd_T85 t535 x31_1).f1) t542 t543 t544 t545 t546 t547 t548 _ ?side1 ?side2 A19.out).mono ?_); (case side1 => exact Kd.C_below HR2.out (by repeat (first | (with_reducible first | exact HB.out | apply below_alloc | apply pw_below_drewN | apply below_drew1 | refine below_set ?_ GE532.out | refine below_set ?_ GE541.out) | exact HB.out))); (case side2 => exact HC2.out); rintro e w23 ⟨rfl, hb⟩; refine ⟨_, rfl, ?_⟩; have n0_ := Aside0.mk (Kd.R_below (by (with_reducible repeat (first | apply Kd.R_alloc | apply Kd.R_drewN | apply Kd.R_drew)); exact (Kd.R_mono (Kd.R_far (p := ⟨gb541, 3, none⟩) (Kd.R_far (p := ⟨gb541, 2, none⟩) (Kd.R_far (p := ⟨gb541, 1, none⟩) (Kd.R_far (p := ⟨gb541, 0, none⟩) (Kd.R_types HO_10.out BK541.out (by decide)) (fun _ hk => hk.2) (.string ((rd_T85 t535 x31_1).f0.f0))) (fun _ hk => hk.2) (.string ((rd_T85 t535 x31_1).f0.f1))) (fun _ hk => hk.2) (.string ((rd_T85 t535 x31_1).f1))) (fun _ hk => hk.2) (.int .i64 ((rd_T85 t535 x31_1).f2))) (fun _ h_ => h_.1))) hb); have n1_ := Aside0.mk (Kd.R_below (by (with_reducible repeat (first | apply Kd.R_alloc | apply Kd.R_drewN | apply Kd.R_drew)); exact (Kd.R_mono (Kd.R_far (p := ⟨gb541, 3, none⟩) (Kd.R_far (p := ⟨gb541, 2, none⟩) (Kd.R_far (p := ⟨gb541, 1, none⟩) (Kd.R_far (p := ⟨gb541, 0, none⟩) (Kd.R_mono HO_29.out (fun k_ hk => (⟨hk, hk.2⟩ : _ ∧ k_ ≠ gb541))) (fun _ hk => hk.2) (.string ((rd_T85 t535 x31_1).f0.f0))) (fun _ hk => hk.2) (.string ((rd_T85 t535 x31_1).f0.f1))) (fun _ hk => hk.2) (.string ((rd_T85 t535 x31_1).f1))) (fun _ hk => hk.2) (.int .i64 ((rd_T85 t535 x31_1).f2))) (fun _ h_ => h_.1))) hb); have n2_ := Aside0.mk (blk_below (g := gb532) (o := .cells #[.string a1_0, .string a1_1] 67 (0, 0)) (by (with_reducible repeat (first | refine blk_drewN ?_ _ | refine blk_drew ?_ | refine blk_alloc ?_ _)); refine blk_far ?_ NB532_541.out _; (with_reducible repeat (first | refine blk_drewN ?_ _ | refine blk_drew ?_ | refine blk_alloc ?_ _)); refine blk_far ?_ NB532_541.out _; (with_reducible repeat (first | refine blk_drewN ?_ _ | refine blk_drew ?_ | refine blk_alloc ?_ _)); refine blk_far ?_ NB532_541.out _; (with_reducible repeat (first | refine blk_drewN ?_ _ | refine blk_drew ?_ | refine blk_alloc ?_ _)); refine blk_far ?_ NB532_541.out _; (with_reducible repeat (first | refine blk_drewN ?_ _ | refine blk_drew ?_ | refine blk_alloc ?_ _)); exact BK532.out) hb); have n3_ := Aside0.mk (blk_below (g := gb541) (o := .cells #[.string ((rd_T85 t535 x31_1).f0.f0), .string ((rd_T85 t535 x31_1).f0.f1), .string ((rd_T85 t535 x31_1).f1), .int .i64 ((rd_T85 t535 x31_1).f2)] 85 (0, 0)) (by (with_reducible repeat (first | refine blk_drewN ?_ _ | refine blk_drew ?_ | refine blk_alloc ?_ _)); refine blk_put (cs := #[.string ((rd_T85 t535 x31_1).f0.f0), .string ((rd_T85 t535 x31_1).f0.f1), .string ((rd_T85 t535 x31_1).f1), .int .i64 0]) ?_ 3 _ rfl; (with_reducible repeat (first | refine blk_drewN ?_ _ | refine blk_drew ?_ | refine blk_alloc ?_ _)); refine blk_put (cs := #[.string ((rd_T85 t535 x31_1).f0.f0), .string ((rd_T85 t535 x31_1).f0.f1), .string (⟨#[]⟩ : ByteArray), .int .i64 0]) ?_ 2 _ rfl; (with_reducible repeat (first | refine blk_drewN ?_ _ | refine blk_drew ?_ | refine blk_alloc ?_ _)); refine blk_put (cs := #[.string ((rd_T85 t535 x31_1).f0.f0), .string (⟨#[]⟩ : ByteArray), .string (⟨#[]⟩ : ByteArray), .int .i64 0]) ?_ 1 _ rfl; (with_reducible repeat (first | refine blk_drewN ?_ _ | refine blk_drew ?_ | refine blk_alloc ?_ _)); refine blk_put (cs := #[.string (⟨#[]⟩ : ByteArray), .string (⟨#[]⟩ : ByteArray), .string (⟨#[]⟩ : ByteArray), .int .i64 0]) ?_ 0 _ rfl; (with_reducible repeat (first | refine blk_drewN ?_ _ | refine blk_drew ?_ | refine blk_alloc ?_ _)); exact BK541.out) hb); have n4_ := Aside0.mk (below_step (by repeat (first | (with_reducible first | exact HB.out | apply below_alloc | apply pw_below_drewN | apply below_drew1 | refine below_set ?_ GE532.out | refine below_set ?_ GE541.out) | exact HB.out)) hb); clear HO_10; clear HO_29; clear BK532; clear BK541; clear HB; have HO_10 := n0_; have HO_29 := n1_; have BK532 := n2_; have BK541 := n3_; have HB := n4_; clear n0_ n1_ n2_ n3_ n4_; (try clear hb); (try clear hb2); (try clear hk); (try clear hi)) | ((with_reducible refine gate_dst (N := 13) rfl ?_); refine box_event ?hg (N := 13) ?hd (cs := #[.string (⟨#[]⟩ : ByteArray), .int .i64 0, .int .i64 0, .int .i64 0, .int .i64 0, .int .i64 0]) (t := 23) ?hr ?_; (case hd => rfl); (case hg => rfl); (case hr => first | (go_simp; done) | (go_simp; rfl)); intro gb549 hg w24 hbox hb; have n0_ := Aside0.mk (Kd.R_below (by (with_reducible repeat (first | apply Kd.R_alloc | apply Kd.R_drewN | apply Kd.R_drew)); exact HO_10.out) hb); have n1_ := Aside0.mk (Kd.R_below (by (with_reducible repeat (first | apply Kd.R_alloc | apply Kd.R_drewN | apply Kd.R_drew)); exact HO_29.out) hb); have n2_ := Aside0.mk (blk_below (g := gb532) (o := .cells #[.string a1_0, .string a1_1] 67 (0, 0)) (by (with_reducible repeat (first | refine blk_drewN ?_ _ | refine blk_drew ?_ | refine blk_alloc ?_ _)); exact BK532.out) hb); have n3_ := Aside0.mk (blk_below (g := gb541) (o := .cells #[.string ((rd_T85 t535 x31_1).f0.f0), .string ((rd_T85 t535 x31_1).f0.f1), .string ((rd_T85 t535 x31_1).f1), .int .i64 ((rd_T85 t535 x31_1).f2)] 85 (0, 0)) (by (with_reducible repeat (first | refine blk_drewN ?_ _ | refine blk_drew ?_ | refine blk_alloc ?_ _)); exact BK541.out) hb); have n4_ := Aside0.mk (below_step (by repeat (first | (with_reducible first | exact HB.out | apply below_alloc | apply pw_below_drewN | apply below_drew1 | refine below_set ?_ GE532.out | refine below_set ?_ GE541.out) | exact HB.out)) hb); have n5_ := Aside0.mk (hbox); have n6_ := Aside0.mk ((by rw [hg]; exact (below_size (by repeat (first | (with_reducible first | exact HB.out | apply below_alloc | apply pw_below_drewN | apply below_drew1 | refine below_set ?_ GE532.out | refine below_set ?_ GE541.out) | exact HB.out))) : w.heap.size ≤ gb549)); have n7_ := Aside0.mk ((by rw [hg]; exact (below_size (by repeat (first | (with_reducible first | exact HB.out | apply below_alloc | apply pw_below_drewN | apply below_drew1 | refine below_set ?_ GE532.out | refine below_set ?_ GE541.out) | exact HB.out))) : w.heap.size ≤ gb549)); have n8_ := Aside0.mk ((by rw [hg]; exact Nat.ne_of_lt (blk_lt (g := gb532) (o := .cells #[.string a1_0, .string a1_1] 67 (0, 0)) (by (with_reducible repeat (first | refine blk_drewN ?_ _ | refine blk_drew ?_ | refine blk_alloc ?_ _)); exact BK532.out)) : gb532 ≠ gb549)); have n9_ := Aside0.mk ((by rw [hg]; exact Nat.ne_of_gt (blk_lt (g := gb532) (o := .cells #[.string a1_0, .string a1_1] 67 (0, 0)) (by (with_reducible repeat (first | refine blk_drewN ?_ _ | refine blk_drew ?_ | refine blk_alloc ?_ _)); exact BK532.out)) : gb549 ≠ gb532)); have n10_ := Aside0.mk ((by rw [hg]; exact Nat.ne_of_lt (blk_lt (g := gb541) (o := .cells #[.string ((rd_T85 t535 x31_1).f0.f0), .string ((rd_T85 t535 x31_1).f0.f1), .string ((rd_T85 t535 x31_1).f1), .int .i64 ((rd_T85 t535 x31_1).f2)] 85 (0, 0)) (by (with_reducible repeat (first | refine blk_drewN ?_ _ | refine blk_drew ?_ | refine blk_alloc ?_ _)); exact BK541.out)) : gb541 ≠ gb549)); have n11_ := Aside0.mk ((by rw [hg]; exact Nat.ne_of_gt (blk_lt (g := gb541) (o := .cells #[.string ((rd_T85 t535 x31_1).f0.f0), .string ((rd_T85 t535 x31_1).f0.f1), .string ((rd_T85 t535 x31_1).f1), .int .i64 ((rd_T85 t535 x31_1).f2)] 85 (0, 0)) (by (with_reducible repeat (first | refine blk_drewN ?_ _ | refine blk_drew ?_ | refine blk_alloc ?_ _)); exact BK541.out)) : gb549 ≠ gb541)); clear HO_10; clear HO_29; clear BK532; clear BK541; clear HB; have HO_10 := n0_; have HO_29 := n1_; have BK532 := n2_; have BK541 := n3_; have HB := n4_; have BK549 := n5_; have GW549 := n6_; have GE549 := n7_; have NB532_549 := n8_; have NB549_532 := n9_; have NB541_549 := n10_; have NB549_541 := n11_; clear n0_ n1_ n2_ n3_ n4_ n5_ n6_ n7_ n8_ n9_ n10_ n11_; clear hb hbox hg; have hnb25 := NB549_532.out; have hnc25 := NB532_549.out; have hnb26 := NB549_541.out; have hnc26 := NB541_549.out; have hcz27_0 : w24.cell? ⟨gb549, 0, none⟩ = some (.string (⟨#[]⟩ : ByteArray)) := (blk_cell BK549.out 0).trans rfl; have hcz27_1 : w24.cell? ⟨gb549, 1, none⟩ = some (.int .i64 0) := (blk_cell BK549.out 1).trans rfl; have hcz27_2 : w24.cell? ⟨gb549, 2, none⟩ = some (.int .i64 0) := (blk_cell BK549.out 2).trans rfl; have hcz27_3 : w24.cell? ⟨gb549, 3, none⟩ = some (.int .i64 0) := (blk_cell BK549.out 3).trans rfl; have hcz27_4 : w24.cell? ⟨gb549, 4, none⟩ = some (.int .i64 0) := (blk_cell BK549.out 4).trans rfl; have hcz27_5 : w24.cell? ⟨gb549, 5, none⟩ = some (.int .i64 0) := (blk_cell BK549.out 5).trans rfl; have hfz27_0 := blk_frozen BK549.out 0; have hfz27_1 := blk_frozen BK549.out 1; have hfz27_2 := blk_frozen BK549.out 2; have hfz27_3 := blk_frozen BK549.out 3; have hfz27_4 := blk_frozen BK549.out 4; have hfz27_5 := blk_frozen BK549.out 5))
                (try simp only [Act.put, List.setIfInBounds_toArray, List.set_cons_zero, List.set_cons_succ])
                by_cases c28 : t548 = true
                · subst c28
                  have H1 : ((asset_Worth.f k1 t542 t543 t544 t545 t546 t547 ((rd_T85 t535 x31_1).f2) l3).bind fun bt550 => (if bt550.2 = 0 then (if x10_1.length < 17592186044416 then (pledge_Worth.l0 k1 l2 l3 (x10_1 ++ [bt550.1]) t535 (t535.length : Int) (wrap64 (x31_1 + 1))) else (none)) else (some (0, bt550.2)))) = some (r1, r2) := by rw [if_pos rfl] at H; exact H
                  clear H
                  have H := H1
                  clear H1
                  replace H := Option.bind_eq_some_iff.mp H
                  obtain ⟨⟨t550, t551⟩, A290, H⟩ := H
                  replace H : (if t551 = 0 then (if x10_1.length < 17592186044416 then (pledge_Worth.l0 k1 l2 l3 (x10_1 ++ [t550]) t535 (t535.length : Int) (wrap64 (x31_1 + 1))) else (none)) else (some (0, t551))) = some (r1, r2) := H
                  have A29 := Aside0.mk A290
                  clear A290
                  have hnb30 := NB549_532.out
                  have hnc30 := NB532_549.out
                  have hnb31 := NB549_541.out
                  have hnc31 := NB541_549.out
                  have hcz32_0 : w24.cell? ⟨gb549, 0, none⟩ = some (.string (⟨#[]⟩ : ByteArray)) := (blk_cell BK549.out 0).trans rfl
                  have hcz32_1 : w24.cell? ⟨gb549, 1, none⟩ = some (.int .i64 0) := (blk_cell BK549.out 1).trans rfl
                  have hcz32_2 : w24.cell? ⟨gb549, 2, none⟩ = some (.int .i64 0) := (blk_cell BK549.out 2).trans rfl
                  have hcz32_3 : w24.cell? ⟨gb549, 3, none⟩ = some (.int .i64 0) := (blk_cell BK549.out 3).trans rfl
                  have hcz32_4 : w24.cell? ⟨gb549, 4, none⟩ = some (.int .i64 0) := (blk_cell BK549.out 4).trans rfl
                  have hcz32_5 : w24.cell? ⟨gb549, 5, none⟩ = some (.int .i64 0) := (blk_cell BK549.out 5).trans rfl
                  have hfz32_0 := blk_frozen BK549.out 0
                  have hfz32_1 := blk_frozen BK549.out 1
                  have hfz32_2 := blk_frozen BK549.out 2
                  have hfz32_3 := blk_frozen BK549.out 3
                  have hfz32_4 := blk_frozen BK549.out 4
                  have hfz32_5 := blk_frozen BK549.out 5
                  have hnb33 := NB541_532.out
                  have hnc33 := NB532_541.out
                  have hcz34_0 : w24.cell? ⟨gb541, 0, none⟩ = some (.string ((rd_T85 t535 x31_1).f0.f0)) := (blk_cell BK541.out 0).trans rfl
                  have hcz34_1 : w24.cell? ⟨gb541, 1, none⟩ = some (.string ((rd_T85 t535 x31_1).f0.f1)) := (blk_cell BK541.out 1).trans rfl
                  have hcz34_2 : w24.cell? ⟨gb541, 2, none⟩ = some (.string ((rd_T85 t535 x31_1).f1)) := (blk_cell BK541.out 2).trans rfl
                  have hcz34_3 : w24.cell? ⟨gb541, 3, none⟩ = some (.int .i64 ((rd_T85 t535 x31_1).f2)) := (blk_cell BK541.out 3).trans rfl
                  have hfz34_0 := blk_frozen BK541.out 0
                  have hfz34_1 := blk_frozen BK541.out 1
                  have hfz34_2 := blk_frozen BK541.out 2
                  have hfz34_3 := blk_frozen BK541.out 3
                  go_upto_if 53 with (first | ((with_reducible refine gate_callee (f := 17) rfl ?_); refine goesL_ (some 49) rfl rfl Try.func17 (by kernel_rfl) rfl #[.agg #[.string t542, .int .i64 t543, .int .i64 t544, .int .i64 t545, .int .i64 t546, .int .i64 t547], .int .i64 ((rd_T85 t535 x31_1).f2), .slice A3 l3.length c3] rfl (by (try simp only [List.map_toArray, List.map_cons, List.map_nil]); first | done | rfl | (simp only [List.length_drop, List.length_take]; rfl)) ?_; (with_reducible refine (asset_Worth.calls k1 t542 t543 t544 t545 t546 t547 ((rd_T85 t535 x31_1).f2) _ _ l3 t550 t551 _ ?side1 ?side2 A29.out).mono ?_); (case side1 => exact Kd.C_below HR3.out (by repeat (first | (with_reducible first | exact HB.out | apply below_alloc | apply pw_below_drewN | apply below_drew1 | refine below_set ?_ GE532.out | refine below_set ?_ GE541.out | refine below_set ?_ GE549.out) | exact HB.out))); (case side2 => exact HC3.out); rintro e w35 ⟨rfl, hb⟩; refine ⟨_, rfl, ?_⟩; have n0_ := Aside0.mk (Kd.R_below (by (with_reducible repeat (first | apply Kd.R_alloc | apply Kd.R_drewN | apply Kd.R_drew)); exact (Kd.R_mono (Kd.R_far (p := ⟨gb549, 5, none⟩) (Kd.R_far (p := ⟨gb549, 4, none⟩) (Kd.R_far (p := ⟨gb549, 3, none⟩) (Kd.R_far (p := ⟨gb549, 2, none⟩) (Kd.R_far (p := ⟨gb549, 1, none⟩) (Kd.R_far (p := ⟨gb549, 0, none⟩) (Kd.R_types HO_10.out BK549.out (by decide)) (fun _ hk => hk.2) (.string t542)) (fun _ hk => hk.2) (.int .i64 t543)) (fun _ hk => hk.2) (.int .i64 t544)) (fun _ hk => hk.2) (.int .i64 t545)) (fun _ hk => hk.2) (.int .i64 t546)) (fun _ hk => hk.2) (.int .i64 t547)) (fun _ h_ => h_.1))) hb); have n1_ := Aside0.mk (Kd.R_below (by (with_reducible repeat (first | apply Kd.R_alloc | apply Kd.R_drewN | apply Kd.R_drew)); exact (Kd.R_mono (Kd.R_far (p := ⟨gb549, 5, none⟩) (Kd.R_far (p := ⟨gb549, 4, none⟩) (Kd.R_far (p := ⟨gb549, 3, none⟩) (Kd.R_far (p := ⟨gb549, 2, none⟩) (Kd.R_far (p := ⟨gb549, 1, none⟩) (Kd.R_far (p := ⟨gb549, 0, none⟩) (Kd.R_types HO_29.out BK549.out (by decide)) (fun _ hk => hk.2) (.string t542)) (fun _ hk => hk.2) (.int .i64 t543)) (fun _ hk => hk.2) (.int .i64 t544)) (fun _ hk => hk.2) (.int .i64 t545)) (fun _ hk => hk.2) (.int .i64 t546)) (fun _ hk => hk.2) (.int .i64 t547)) (fun _ h_ => h_.1))) hb); have n2_ := Aside0.mk (blk_below (g := gb532) (o := .cells #[.string a1_0, .string a1_1] 67 (0, 0)) (by (with_reducible repeat (first | refine blk_drewN ?_ _ | refine blk_drew ?_ | refine blk_alloc ?_ _)); refine blk_far ?_ NB532_549.out _; (with_reducible repeat (first | refine blk_drewN ?_ _ | refine blk_drew ?_ | refine blk_alloc ?_ _)); refine blk_far ?_ NB532_549.out _; (with_reducible repeat (first | refine blk_drewN ?_ _ | refine blk_drew ?_ | refine blk_alloc ?_ _)); refine blk_far ?_ NB532_549.out _; (with_reducible repeat (first | refine blk_drewN ?_ _ | refine blk_drew ?_ | refine blk_alloc ?_ _)); refine blk_far ?_ NB532_549.out _; (with_reducible repeat (first | refine blk_drewN ?_ _ | refine blk_drew ?_ | refine blk_alloc ?_ _)); refine blk_far ?_ NB532_549.out _; (with_reducible repeat (first | refine blk_drewN ?_ _ | refine blk_drew ?_ | refine blk_alloc ?_ _)); refine blk_far ?_ NB532_549.out _; (with_reducible repeat (first | refine blk_drewN ?_ _ | refine blk_drew ?_ | refine blk_alloc ?_ _)); exact BK532.out) hb); have n3_ := Aside0.mk (blk_below (g := gb541) (o := .cells #[.string ((rd_T85 t535 x31_1).f0.f0), .string ((rd_T85 t535 x31_1).f0.f1), .string ((rd_T85 t535 x31_1).f1), .int .i64 ((rd_T85 t535 x31_1).f2)] 85 (0, 0)) (by (with_reducible repeat (first | refine blk_drewN ?_ _ | refine blk_drew ?_ | refine blk_alloc ?_ _)); refine blk_far ?_ NB541_549.out _; (with_reducible repeat (first | refine blk_drewN ?_ _ | refine blk_drew ?_ | refine blk_alloc ?_ _)); refine blk_far ?_ NB541_549.out _; (with_reducible repeat (first | refine blk_drewN ?_ _ | refine blk_drew ?_ | refine blk_alloc ?_ _)); refine blk_far ?_ NB541_549.out _; (with_reducible repeat (first | refine blk_drewN ?_ _ | refine blk_drew ?_ | refine blk_alloc ?_ _)); refine blk_far ?_ NB541_549.out _; (with_reducible repeat (first | refine blk_drewN ?_ _ | refine blk_drew ?_ | refine blk_alloc ?_ _)); refine blk_far ?_ NB541_549.out _; (with_reducible repeat (first | refine blk_drewN ?_ _ | refine blk_drew ?_ | refine blk_alloc ?_ _)); refine blk_far ?_ NB541_549.out _; (with_reducible repeat (first | refine blk_drewN ?_ _ | refine blk_drew ?_ | refine blk_alloc ?_ _)); exact BK541.out) hb); have n4_ := Aside0.mk (blk_below (g := gb549) (o := .cells #[.string t542, .int .i64 t543, .int .i64 t544, .int .i64 t545, .int .i64 t546, .int .i64 t547] 23 (0, 0)) (by (with_reducible repeat (first | refine blk_drewN ?_ _ | refine blk_drew ?_ | refine blk_alloc ?_ _)); refine blk_put (cs := #[.string t542, .int .i64 t543, .int .i64 t544, .int .i64 t545, .int .i64 t546, .int .i64 0]) ?_ 5 _ rfl; (with_reducible repeat (first | refine blk_drewN ?_ _ | refine blk_drew ?_ | refine blk_alloc ?_ _)); refine blk_put (cs := #[.string t542, .int .i64 t543, .int .i64 t544, .int .i64 t545, .int .i64 0, .int .i64 0]) ?_ 4 _ rfl; (with_reducible repeat (first | refine blk_drewN ?_ _ | refine blk_drew ?_ | refine blk_alloc ?_ _)); refine blk_put (cs := #[.string t542, .int .i64 t543, .int .i64 t544, .int .i64 0, .int .i64 0, .int .i64 0]) ?_ 3 _ rfl; (with_reducible repeat (first | refine blk_drewN ?_ _ | refine blk_drew ?_ | refine blk_alloc ?_ _)); refine blk_put (cs := #[.string t542, .int .i64 t543, .int .i64 0, .int .i64 0, .int .i64 0, .int .i64 0]) ?_ 2 _ rfl; (with_reducible repeat (first | refine blk_drewN ?_ _ | refine blk_drew ?_ | refine blk_alloc ?_ _)); refine blk_put (cs := #[.string t542, .int .i64 0, .int .i64 0, .int .i64 0, .int .i64 0, .int .i64 0]) ?_ 1 _ rfl; (with_reducible repeat (first | refine blk_drewN ?_ _ | refine blk_drew ?_ | refine blk_alloc ?_ _)); refine blk_put (cs := #[.string (⟨#[]⟩ : ByteArray), .int .i64 0, .int .i64 0, .int .i64 0, .int .i64 0, .int .i64 0]) ?_ 0 _ rfl; (with_reducible repeat (first | refine blk_drewN ?_ _ | refine blk_drew ?_ | refine blk_alloc ?_ _)); exact BK549.out) hb); have n5_ := Aside0.mk (below_step (by repeat (first | (with_reducible first | exact HB.out | apply below_alloc | apply pw_below_drewN | apply below_drew1 | refine below_set ?_ GE532.out | refine below_set ?_ GE541.out | refine below_set ?_ GE549.out) | exact HB.out)) hb); clear HO_10; clear HO_29; clear BK532; clear BK541; clear BK549; clear HB; have HO_10 := n0_; have HO_29 := n1_; have BK532 := n2_; have BK541 := n3_; have BK549 := n4_; have HB := n5_; clear n0_ n1_ n2_ n3_ n4_ n5_; (try clear hb); (try clear hb2); (try clear hk); (try clear hi)))
                  (try simp only [Act.put, List.setIfInBounds_toArray, List.set_cons_zero, List.set_cons_succ])
                  by_cases c36 : t551 = 0
                  · rw [if_pos c36] at H
                    have c36b0 : (t551 == 0) = true := beq_iff_eq.mpr c36
                    have c36b1 : (t551 != 0) = false := bne_eq_false_iff_eq.mpr c36
                    clear c36
                    (try simp only [c36b0, c36b1])
                    by_cases c37 : x10_1.length < 17592186044416
                    · rw [if_pos c37] at H
                      have LMc37 := Aside0.mk c37
                      clear c37
                      obtain ⟨y552, hy552⟩ : ∃ y_ : List Int, y_ = (x10_1 ++ [t550]) := ⟨_, rfl⟩
                      replace H : (pledge_Worth.l0 k1 l2 l3 y552 t535 (t535.length : Int) (wrap64 (x31_1 + 1))) = some (r1, r2) := by first | (rw [hy552]; with_reducible exact H) | (have H2_ := (Option.bind_some _ _).symm.trans H; rw [hy552]; with_reducible exact H2_) | (have H2_ := (Option.bind_some _ _).symm.trans H; with_reducible exact H2_) | with_reducible exact H | (rw [hy552]; exact H) | exact H
                      have Ny552 := Aside0.mk hy552
                      clear hy552
                      have H' := Aside0.mk H
                      clear H
                      go_wp2_with (first | ((with_reducible refine gate_builtin (b := .append) (xs := #[.tmp 55, .tmp 57]) rfl ?_); at_builtin; refine Kd.R_append (Kd.int .i64) (w0 := w) w.heap.size rfl (.tmp 55) (.tmp 57) 112 3 (.int .i64 0) 8 rfl Try.underlying112 info3 rfl (by decide) (by omega) u10 x10_1 t550 [.int .i64 t550] (fun _ => True) (fun _ => False) rfl rfl ?aP (fun _ hk => hk.elim) ?aF ?aO ?aB ?aS ?aL ?_; (case aP => exact rfl); (case aB => exact (by repeat (first | (with_reducible first | exact HB.out | apply below_alloc | apply pw_below_drewN | apply below_drew1 | refine below_set ?_ GE532.out | refine below_set ?_ GE541.out | refine below_set ?_ GE549.out) | exact HB.out))); (case aF => exact (fun _ _ => trivial)); (case aO => exact (by (with_reducible repeat (first | apply Kd.R_alloc | apply Kd.R_drewN | apply Kd.R_drew)); exact HO_10.out)); (case aS => exact (below_size (by repeat (first | (with_reducible first | exact HB.out | apply below_alloc | apply pw_below_drewN | apply below_drew1 | refine below_set ?_ GE532.out | refine below_set ?_ GE541.out | refine below_set ?_ GE549.out) | exact HB.out)))); (case aL => have := LMc37.out; omega); intro v553 w38 ho hb hg hat; rw [← Ny552.out] at ho; have n0_ := Aside0.mk (Kd.R_over' (by (with_reducible repeat (first | apply Kd.R_alloc | apply Kd.R_drewN | apply Kd.R_drew)); exact HO_29.out) (Kd.R_typed (by (with_reducible repeat (first | apply Kd.R_alloc | apply Kd.R_drewN | apply Kd.R_drew)); exact HO_10.out)) (by decide) hg); have n1_ := Aside0.mk (blk_grown (g := gb532) (o := .cells #[.string a1_0, .string a1_1] 67 (0, 0)) (by (with_reducible repeat (first | refine blk_drewN ?_ _ | refine blk_drew ?_ | refine blk_alloc ?_ _)); exact BK532.out) hg (Kd.R_ne HO_10.out BK532.out (by decide))); have n2_ := Aside0.mk (blk_grown (g := gb541) (o := .cells #[.string ((rd_T85 t535 x31_1).f0.f0), .string ((rd_T85 t535 x31_1).f0.f1), .string ((rd_T85 t535 x31_1).f1), .int .i64 ((rd_T85 t535 x31_1).f2)] 85 (0, 0)) (by (with_reducible repeat (first | refine blk_drewN ?_ _ | refine blk_drew ?_ | refine blk_alloc ?_ _)); exact BK541.out) hg (Kd.R_ne HO_10.out BK541.out (by decide))); have n3_ := Aside0.mk (blk_grown (g := gb549) (o := .cells #[.string t542, .int .i64 t543, .int .i64 t544, .int .i64 t545, .int .i64 t546, .int .i64 t547] 23 (0, 0)) (by (with_reducible repeat (first | refine blk_drewN ?_ _ | refine blk_drew ?_ | refine blk_alloc ?_ _)); exact BK549.out) hg (Kd.R_ne HO_10.out BK549.out (by decide))); have n4_ := Aside0.mk (hb); have n5_ := Aside0.mk (ho); clear HO_29; clear BK532; clear BK541; clear BK549; clear HB; clear HO_10; have HO_29 := n0_; have BK532 := n1_; have BK541 := n2_; have BK549 := n3_; have HB := n4_; have HO554 := n5_; clear n0_ n1_ n2_ n3_ n4_ n5_; clear ho hb hg hat))
                      go_roundg k1
                      case measure => have := HK1.out; omega
                      case rel => exact ⟨(y552), (wrap64 (x31_1 + 1)), (by first | rfl | (simp; done) | (simp [*]; done)), H', ⟨by have := HK1.out; omega⟩, ⟨by (with_reducible repeat (first | apply Kd.R_alloc | apply Kd.R_drewN | apply Kd.R_drew)); exact HO554.out⟩, ⟨by (with_reducible repeat (first | apply Kd.R_alloc | apply Kd.R_drewN | apply Kd.R_drew)); exact Kd.R_mono HO_29.out (fun _ hk => trivial)⟩, ⟨by (with_reducible repeat (first | refine blk_drewN ?_ _ | refine blk_drew ?_ | refine blk_alloc ?_ _)); exact BK532.out⟩, ⟨by repeat (first | (with_reducible first | exact HB.out | apply below_alloc | apply pw_below_drewN | apply below_drew1 | refine below_set ?_ GE532.out | refine below_set ?_ GE541.out | refine below_set ?_ GE549.out) | exact HB.out)⟩⟩
                    · rw [if_neg c37] at H
                      exact absurd H (by simp)
                  · rw [if_neg c36] at H
                    have c36b0 : (t551 == 0) = false := beq_eq_false_iff_ne.mpr c36
                    have c36b1 : (t551 != 0) = true := bne_iff_ne.mpr c36
                    (try simp only [c36b0, c36b1])
                    simp only [Option.some.injEq, Prod.mk.injEq] at H
                    obtain ⟨rfl, rfl⟩ := H
                    go_wp2
                    go_ret2
                    exact ⟨by first | rfl | (simp [errW_none, errW_some] <;> rfl) | (simp [*, errW_none, errW_some] <;> rfl), by repeat (first | (with_reducible first | exact HB.out | apply below_alloc | apply pw_below_drewN | apply below_drew1 | refine below_set ?_ GE532.out | refine below_set ?_ GE541.out | refine below_set ?_ GE549.out) | exact HB.out)⟩
                · replace c28 := Bool.eq_false_iff.mpr c28
                  subst c28
                  have H1 : (some (0, 11)) = some (r1, r2) := by rw [if_neg (show ¬ (false = true) by decide)] at H; exact H
                  clear H
                  have H := H1
                  clear H1
                  simp only [Option.some.injEq, Prod.mk.injEq] at H
                  obtain ⟨rfl, rfl⟩ := H
                  go_wp2
                  go_ret2
                  exact ⟨by first | rfl | (simp [errW_none, errW_some] <;> rfl) | (simp [*, errW_none, errW_some] <;> rfl), by repeat (first | (with_reducible first | exact HB.out | apply below_alloc | apply pw_below_drewN | apply below_drew1 | refine below_set ?_ GE532.out | refine below_set ?_ GE541.out | refine below_set ?_ GE549.out) | exact HB.out)⟩
              · rw [if_neg c18] at H
                exact absurd H (by simp)
            · rw [if_neg c17] at H
              exact absurd H (by simp)
          · rw [if_neg c16] at H
            have c16b0 : decide (x31_1 < (t535.length : Int)) = false := decide_eq_false c16
            clear c16
            (try simp only [c16b0])
            replace H := Option.bind_eq_some_iff.mp H
            obtain ⟨⟨t538, t539⟩, A390, H⟩ := H
            replace H : (some (t538, t539)) = some (r1, r2) := H
            have A39 := Aside0.mk A390
            clear A390
            simp only [Option.some.injEq, Prod.mk.injEq] at H
            obtain ⟨rfl, rfl⟩ := H
            obtain ⟨Ao40, co40, eo40⟩ := Kd.R_slice HO_10.out
            subst eo40
            go_wp2_with (first | ((with_reducible refine gate_callee (f := 75) rfl ?_); refine goesL_ (some 61) rfl rfl Try.func75 (by kernel_rfl) rfl #[.slice Ao40 x10_1.length co40] rfl (by (try simp only [List.map_toArray, List.map_cons, List.map_nil]); first | done | rfl | (simp only [List.length_drop, List.length_take]; rfl)) ?_; (with_reducible refine (cents_Sum.calls k1 _ _ x10_1 t538 t539 _ ?side1 ?side2 A39.out).mono ?_); (case side1 => repeat (first | exact (Kd.R_reads' HO_10.out).2.2 | (with_reducible refine Kd.C_alloc ?_ _) | (with_reducible refine Kd.C_drewN ?_ _) | (with_reducible refine Kd.C_drew ?_))); (case side2 => exact (Kd.R_reads' HO_10.out).2.1); rintro e w' ⟨rfl, ⟨nd, rfl⟩⟩; refine ⟨_, rfl, ?_⟩))
            go_ret2
            exact ⟨by first | rfl | (simp [errW_none, errW_some] <;> rfl) | (simp [*, errW_none, errW_some] <;> rfl), by repeat (first | (with_reducible first | exact HB.out | apply below_alloc | apply pw_below_drewN | apply below_drew1 | refine below_set ?_ GE532.out) | exact HB.out)⟩
    · rw [if_neg c11] at H
      have c11b0 : (t534 == 0) = false := beq_eq_false_iff_ne.mpr c11
      have c11b1 : (t534 != 0) = true := bne_iff_ne.mpr c11
      (try simp only [c11b0, c11b1])
      simp only [Option.some.injEq, Prod.mk.injEq] at H
      obtain ⟨rfl, rfl⟩ := H
      go_wp2
      go_ret2
      exact ⟨by first | rfl | (simp [errW_none, errW_some] <;> rfl) | (simp [*, errW_none, errW_some] <;> rfl), by repeat (first | (with_reducible first | exact HB.out | apply below_alloc | apply pw_below_drewN | apply below_drew1 | refine below_set ?_ GE532.out) | exact HB.out)⟩
  · rw [if_neg c8] at H
    have c8b0 : (t533 == 0) = false := beq_eq_false_iff_ne.mpr c8
    have c8b1 : (t533 != 0) = true := bne_iff_ne.mpr c8
    (try simp only [c8b0, c8b1])
    simp only [Option.some.injEq, Prod.mk.injEq] at H
    obtain ⟨rfl, rfl⟩ := H
    go_wp2
    go_ret2
    exact ⟨by first | rfl | (simp [errW_none, errW_some] <;> rfl) | (simp [*, errW_none, errW_some] <;> rfl), by repeat (first | (with_reducible first | exact HB.out | apply below_alloc | apply pw_below_drewN | apply below_drew1 | refine below_set ?_ GE532.out) | exact HB.out)⟩
set_option maxHeartbeats 8000000 in
set_option maxRecDepth 100000 in
theorem asset_Units_1.calls (k : Nat) (ba br bn : Nat) (s : ByteArray) (a1 a2 a3 a4 a5 n qty m e : Int) (A : Option Addr) (c : Nat) (l : List S94) (w : World)
    (ha : Aside0 (w.heap[ba]? = some (.cells #[.string s, .int .i64 a1, .int .i64 a2, .int .i64 a3, .int .i64 a4, .int .i64 a5] 23 (0, 0)))) (hr : Aside0 (w.heap[br]? = some (.cells #[.slice A l.length c] 24 (0, 0)))) (hn : Aside0 (w.heap[bn]? = some (.cells #[.int .i64 n] 3 (0, 0))))
    (hC : Aside0 (Kd.C k94 w A l.length l)) (hc : Aside0 (l.length ≤ c)) (hw : Aside0 (asset_Worth.f k s a1 a2 a3 a4 a5 qty l = some (m, e))) :
    Calls Try.prog 59 #[.int .i64 qty, .pointer (some ⟨ba, 0, none⟩), .pointer (some ⟨br, 0, none⟩), .pointer (some ⟨bn, 0, none⟩)] w fun en w' => en = .returned (.bool (decide (e ≠ 0) || decide (n ≤ m))) ∧ Below w.heap.size w w' := by
  have hu23 := Try.underlying23
  have la : ba < w.heap.size := blk_lt ha.out
  have lr : br < w.heap.size := blk_lt hr.out
  have ln : bn < w.heap.size := blk_lt hn.out
  have c0' : w.cell? ⟨ba, 0, none⟩ = some (.string s) := (blk_cell ha.out 0).trans rfl
  have c1' : w.cell? ⟨ba, 1, none⟩ = some (.int .i64 a1) := (blk_cell ha.out 1).trans rfl
  have c2' : w.cell? ⟨ba, 2, none⟩ = some (.int .i64 a2) := (blk_cell ha.out 2).trans rfl
  have c3' : w.cell? ⟨ba, 3, none⟩ = some (.int .i64 a3) := (blk_cell ha.out 3).trans rfl
  have c4' : w.cell? ⟨ba, 4, none⟩ = some (.int .i64 a4) := (blk_cell ha.out 4).trans rfl
  have c5' : w.cell? ⟨ba, 5, none⟩ = some (.int .i64 a5) := (blk_cell ha.out 5).trans rfl
  have cr' : w.cell? ⟨br, 0, none⟩ = some (.slice A l.length c) := (blk_cell hr.out 0).trans rfl
  go_enter Try.func59, Try.ntmps59
  go_wp2_with fail
  refine (asset_Worth.calls k s a1 a2 a3 a4 a5 qty A c l m e _ (Kd.C_below hC.out ?_) hc.out hw.out).mono ?_
  · repeat (first | exact Below.refl _ _ | apply below_alloc | apply pw_below_drewN | apply below_drew)
  rintro en w1 ⟨rfl, hb⟩
  have HB := Aside0.mk (below_then (by repeat (first | exact Below.refl _ _ | apply below_alloc | apply pw_below_drewN | apply below_drew)) (Nat.le_refl _) hb)
  have hnn := (hb.block bn (by first | omega | (simp; omega))).trans (by first | exact hn.out | (simp; exact hn.out))
  have cn' : w1.cell? ⟨bn, 0, none⟩ = some (.int .i64 n) := (blk_cell hnn 0).trans rfl
  have ln1 : bn < w1.heap.size := blk_lt hnn
  clear hb hnn
  by_cases he : e = 0
  · subst he
    by_cases hm : n ≤ m
    · go_wp2
      go_ret
      exact ⟨by simp [hm], by repeat (first | exact HB.out | apply below_alloc | apply pw_below_drewN | apply below_drew)⟩
    · have hm' : m < n := by omega
      go_wp2
      go_ret
      exact ⟨by simp [hm], by repeat (first | exact HB.out | apply below_alloc | apply pw_below_drewN | apply below_drew)⟩
  · go_wp2
    go_ret
    exact ⟨by simp [he], by repeat (first | exact HB.out | apply below_alloc | apply pw_below_drewN | apply below_drew)⟩
def asset_Units.l0 : Nat → ByteArray → Int → Int → Int → Int → Int → Int → List S94 → Int → Int → Option Int
  | 0, _, _, _, _, _, _, _, _, _, _ => none
  | k + 1, s, a1, a2, a3, a4, a5, n, l, lo, hi => if lo < hi then (asset_Worth.f k s a1 a2 a3 a4 a5 (wrap64 (lo + (wrap64 (Int.tdiv (wrap64 (hi - lo)) 2)))) l).bind fun t => if t.2 ≠ 0 ∨ n ≤ t.1 then asset_Units.l0 k s a1 a2 a3 a4 a5 n l lo (wrap64 (lo + (wrap64 (Int.tdiv (wrap64 (hi - lo)) 2)))) else asset_Units.l0 k s a1 a2 a3 a4 a5 n l (wrap64 ((wrap64 (lo + (wrap64 (Int.tdiv (wrap64 (hi - lo)) 2)))) + 1)) hi else some lo
theorem asset_Units.mono_l : ∀ k s a1 a2 a3 a4 a5 n l lo hi, LeO (asset_Units.l0 k s a1 a2 a3 a4 a5 n l lo hi) (asset_Units.l0 (k + 1) s a1 a2 a3 a4 a5 n l lo hi)
  | 0 => fun _ _ _ _ _ _ _ _ _ _ r h => by simp [asset_Units.l0] at h
  | k + 1 => by
    intro s a1 a2 a3 a4 a5 n l lo hi
    have ih := asset_Units.mono_l k
    rw [asset_Units.l0, asset_Units.l0]
    refine LeO.ite (LeO.bind (asset_Worth.mono _ _ _ _ _ _ _ _ _) fun _ => LeO.ite (ih _ _ _ _ _ _ _ _ _ _) (ih _ _ _ _ _ _ _ _ _ _)) (LeO.refl _)
def asset_Units.f (k : Nat) (s : ByteArray) (a1 a2 a3 a4 a5 n : Int) (l : List S94) : Option (Int × Int) :=
  (asset_Check.f k s a1 a2 a3 a4 a5).bind fun t => if t = 0 then
    (rate_Check.f k l).bind fun u => if u = 0 then
      if a2 ≥ (l.length : Int) then some (0, 25) else
        (asset_money.f n).bind fun b => if b = true then
          if a4 = 1000 then some (0, 4) else
            (asset_Units.l0 k s a1 a2 a3 a4 a5 n l 0 1152921504606846976).bind fun low => (asset_Worth.f k s a1 a2 a3 a4 a5 low l).bind fun t => if t.2 ≠ 0 ∨ t.1 < n then some (0, 3) else some (low, 0)
        else some (0, 2)
    else some (0, u)
  else some (0, t)
theorem asset_Units.mono : ∀ s a1 a2 a3 a4 a5 n l k, LeO (asset_Units.f k s a1 a2 a3 a4 a5 n l) (asset_Units.f (k + 1) s a1 a2 a3 a4 a5 n l) := by
  intro s a1 a2 a3 a4 a5 n l k
  unfold asset_Units.f
  refine LeO.bind (asset_Check.mono _ _ _ _ _ _ _) fun _ => LeO.ite (LeO.bind (rate_Check.mono _ _) fun _ => LeO.ite (LeO.ite (LeO.refl _) (LeO.bind (LeO.refl _) fun _ => LeO.ite (LeO.ite (LeO.refl _) (LeO.bind (asset_Units.mono_l _ _ _ _ _ _ _ _ _ _ _) fun _ => LeO.bind (asset_Worth.mono _ _ _ _ _ _ _ _ _) fun _ => LeO.refl _)) (LeO.refl _))) (LeO.refl _)) (LeO.refl _)
set_option maxHeartbeats 8000000 in
set_option maxRecDepth 100000 in
theorem asset_Units.calls (k : Nat) (s : ByteArray) (a1 a2 a3 a4 a5 n : Int) (A2 : Option Addr) (c2 : Nat) (l2 : List S94) (r1 r2 : Int) (w : World) (hr2 : Kd.C k94 w A2 l2.length l2) (hc2 : l2.length ≤ c2) (h : asset_Units.f k s a1 a2 a3 a4 a5 n l2 = some (r1, r2)) :
    Calls Try.prog 20 #[.agg #[.string s, .int .i64 a1, .int .i64 a2, .int .i64 a3, .int .i64 a4, .int .i64 a5], .int .i64 n, .slice A2 l2.length c2] w fun e w' => e = .returned (.tuple #[.int .i64 r1, .int .i64 r2]) ∧ Below w.heap.size w w' := by
  have hu23 := Try.underlying23
  have HR := Aside0.mk hr2
  have HC := Aside0.mk hc2
  clear hr2 hc2
  obtain ⟨t, ht, h⟩ := Option.bind_eq_some_iff.1 h
  have HT := Aside0.mk ht
  clear ht
  go_enter Try.func20, Try.ntmps20
  go_wp2_with fail
  refine (asset_Check.calls k s a1 a2 a3 a4 a5 t _ HT.out).mono ?_
  rintro e w1 ⟨rfl, hb⟩
  have HA := Aside0.mk (show w1.heap[w.heap.size]? = some (.cells #[.string s, .int .i64 a1, .int .i64 a2, .int .i64 a3, .int .i64 a4, .int .i64 a5] 23 (0, 0)) from (hb.block _ (by first | (simp; done) | (simp; omega) | omega)).trans (blk_alloc (blk_alloc (heap_alloc_new w _) _) _))
  have HN := Aside0.mk (show w1.heap[w.heap.size + 1]? = some (.cells #[.int .i64 n] 3 (0, 0)) from (hb.block _ (by first | (simp; done) | (simp; omega) | omega)).trans (blk_alloc (by simpa using heap_alloc_new (w.alloc (.cells #[.string s, .int .i64 a1, .int .i64 a2, .int .i64 a3, .int .i64 a4, .int .i64 a5] 23 (0, 0))) (.cells #[.int .i64 n] 3 (0, 0))) _))
  have HS := Aside0.mk (show w1.heap[w.heap.size + 2]? = some (.cells #[.slice A2 l2.length c2] 24 (0, 0)) from (hb.block _ (by first | (simp; done) | (simp; omega) | omega)).trans (by simpa using heap_alloc_new ((w.alloc (.cells #[.string s, .int .i64 a1, .int .i64 a2, .int .i64 a3, .int .i64 a4, .int .i64 a5] 23 (0, 0))).alloc (.cells #[.int .i64 n] 3 (0, 0))) (.cells #[.slice A2 l2.length c2] 24 (0, 0))))
  have HB := Aside0.mk ((below_alloc (below_alloc (below_alloc (Below.refl w.heap.size w) _) _) _).trans (hb.mono (by first | (simp; done) | (simp; omega) | omega)))
  clear hb
  by_cases ht0 : t = 0
  · subst ht0
    simp only [if_true] at h
    obtain ⟨u, hu, h⟩ := Option.bind_eq_some_iff.1 h
    have HU := Aside0.mk hu
    clear hu
    have ls1 : w.heap.size + 2 < w1.heap.size := blk_lt HS.out
    have cs1 : w1.cell? ⟨w.heap.size + 2, 0, none⟩ = some (.slice A2 l2.length c2) := (blk_cell HS.out 0).trans rfl
    go_wp2_with fail
    refine (rate_Check.calls k A2 c2 l2 u _ (Kd.C_below HR.out ?_) HC.out HU.out).mono ?_
    · repeat (first | exact HB.out | apply below_alloc | apply pw_below_drewN | apply below_drew)
    rintro e w2 ⟨rfl, hb⟩
    have hA := (hb.block w.heap.size (by first | omega | (simp; omega))).trans (by first | exact HA.out | (simp; exact HA.out))
    have hN := (hb.block (w.heap.size + 1) (by first | omega | (simp; omega))).trans (by first | exact HN.out | (simp; exact HN.out))
    have hS := (hb.block (w.heap.size + 2) (by first | omega | (simp; omega))).trans (by first | exact HS.out | (simp; exact HS.out))
    have hB := HB.out.trans (hb.mono (by omega))
    clear HA HN HS HB hb ls1 cs1
    have HA := Aside0.mk hA
    have HN := Aside0.mk hN
    have HS := Aside0.mk hS
    have HB := Aside0.mk hB
    clear hA hN hS hB
    by_cases hu0 : u = 0
    · subst hu0
      simp only [if_true] at h
      have ls : w.heap.size + 2 < w2.heap.size := blk_lt HS.out
      have cs' : w2.cell? ⟨w.heap.size + 2, 0, none⟩ = some (.slice A2 l2.length c2) := (blk_cell HS.out 0).trans rfl
      have ln : w.heap.size + 1 < w2.heap.size := by omega
      have cn' : w2.cell? ⟨w.heap.size + 1, 0, none⟩ = some (.int .i64 n) := (blk_cell HN.out 0).trans rfl
      have la : w.heap.size < w2.heap.size := by omega
      have c2' : w2.cell? ⟨w.heap.size, 2, none⟩ = some (.int .i64 a2) := (blk_cell HA.out 2).trans rfl
      have c4' : w2.cell? ⟨w.heap.size, 4, none⟩ = some (.int .i64 a4) := (blk_cell HA.out 4).trans rfl
      by_cases hcu : a2 ≥ (l2.length : Int)
      · rw [if_pos hcu] at h
        obtain ⟨rfl, rfl⟩ : (0 : Int) = r1 ∧ (25 : Int) = r2 := by simpa using h
        have hcu' : (l2.length : Int) ≤ a2 := hcu
        go_wp2
        go_ret2
        exact ⟨rfl, by repeat (first | exact HB.out | apply below_alloc | apply pw_below_drewN | apply below_drew)⟩
      · rw [if_neg hcu] at h
        have hcu' : a2 < (l2.length : Int) := by omega
        obtain ⟨b, hb, h⟩ := Option.bind_eq_some_iff.1 h
        have HM := Aside0.mk hb
        clear hb
        cases b with
        | false =>
          obtain ⟨rfl, rfl⟩ : (0 : Int) = r1 ∧ (2 : Int) = r2 := by simpa using h
          go_wp2_with (first | (go_at_call 50; (with_reducible refine (asset_money.calls n _ _ HM.out).mono ?_); rintro e w' ⟨rfl, ⟨nd, rfl⟩⟩))
          go_ret2
          exact ⟨rfl, by repeat (first | exact HB.out | apply below_alloc | apply pw_below_drewN | apply below_drew)⟩
        | true =>
          simp only [if_true] at h
          by_cases h4 : a4 = 1000
          · rw [if_pos h4] at h
            obtain ⟨rfl, rfl⟩ : (0 : Int) = r1 ∧ (4 : Int) = r2 := by simpa using h
            have h4b : (a4 == 1000) = true := beq_iff_eq.2 h4
            go_wp2_with (first | (go_at_call 50; (with_reducible refine (asset_money.calls n _ _ HM.out).mono ?_); rintro e w' ⟨rfl, ⟨nd, rfl⟩⟩))
            go_ret2
            exact ⟨rfl, by repeat (first | exact HB.out | apply below_alloc | apply pw_below_drewN | apply below_drew)⟩
          · rw [if_neg h4] at h
            have h4b : (a4 == 1000) = false := beq_eq_false_iff_ne.2 h4
            obtain ⟨low, hlow, h⟩ := Option.bind_eq_some_iff.1 h
            have H' := Aside0.mk hlow
            clear hlow
            obtain ⟨⟨m1, m2⟩, hm, h⟩ := Option.bind_eq_some_iff.1 h
            have HE := Aside0.mk hm
            have HZ := Aside0.mk h
            clear hm h
            go_wp2_with (first | (go_at_call 50; (with_reducible refine (asset_money.calls n _ _ HM.out).mono ?_); rintro e w' ⟨rfl, ⟨nd, rfl⟩⟩))
            go_loopg [11, 12] k (fun kq v11 v12 w' => ∃ (lo hi : Int), v11 = .int .i64 lo ∧ v12 = .int .i64 hi ∧ Aside0 (asset_Units.l0 kq s a1 a2 a3 a4 a5 n l2 lo hi = some low) ∧ Aside0 (kq ≤ k) ∧ Aside0 (w'.heap[w.heap.size]? = some (.cells #[.string s, .int .i64 a1, .int .i64 a2, .int .i64 a3, .int .i64 a4, .int .i64 a5] 23 (0, 0))) ∧ Aside0 (w'.heap[w.heap.size + 1]? = some (.cells #[.int .i64 n] 3 (0, 0))) ∧ Aside0 (w'.heap[w.heap.size + 2]? = some (.cells #[.slice A2 l2.length c2] 24 (0, 0))) ∧ Aside0 (Below w.heap.size w w'))
            case atStart => exact ⟨0, 1152921504606846976, rfl, rfl, H', ⟨Nat.le_refl _⟩, ⟨by (with_reducible repeat (first | refine blk_drewN ?_ _ | refine blk_drew ?_ | refine blk_alloc ?_ _)); exact HA.out⟩, ⟨by (with_reducible repeat (first | refine blk_drewN ?_ _ | refine blk_drew ?_ | refine blk_alloc ?_ _)); exact HN.out⟩, ⟨by (with_reducible repeat (first | refine blk_drewN ?_ _ | refine blk_drew ?_ | refine blk_alloc ?_ _)); exact HS.out⟩, ⟨by repeat (first | exact HB.out | apply below_alloc | apply pw_below_drewN | apply below_drew)⟩⟩
            case round =>
              clear H' HA HN HS HB ls cs' ln cn' la c2' c4'
              obtain ⟨lo, hi, rfl, rfl, HL, HK1, HA, HN, HS, HB⟩ := hrel
              have ls : w.heap.size + 2 < wr.heap.size := blk_lt HS.out
              cases gk with
              | zero => exact absurd HL.out (by simp [asset_Units.l0])
              | succ k1 =>
                have H := HL.out
                clear HL
                simp only [asset_Units.l0] at H
                by_cases c3 : lo < hi
                · rw [if_pos c3] at H
                  have c3b0 : decide (lo < hi) = true := decide_eq_true c3
                  obtain ⟨md, hmd⟩ : ∃ j : Int, wrap64 (lo + (wrap64 (Int.tdiv (wrap64 (hi - lo)) 2))) = j := ⟨_, rfl⟩
                  rw [hmd] at H
                  obtain ⟨⟨t1, t2⟩, hT, H⟩ := Option.bind_eq_some_iff.1 H
                  have HW := Aside0.mk hT
                  have hmdw : IntKind.i64.wrap (lo + (wrap64 (Int.tdiv (wrap64 (hi - lo)) 2))) = md := (i64_w _).trans hmd
                  clear hT
                  by_cases ct : t2 ≠ 0 ∨ n ≤ t1
                  · rw [if_pos ct] at H
                    have H' := Aside0.mk H
                    clear H
                    have hbv : (decide (t2 ≠ 0) || decide (n ≤ t1)) = true := by simpa using ct
                    go_wp2_with (first | (go_at_call 59; refine (asset_Units_1.calls k1 w.heap.size (w.heap.size + 2) (w.heap.size + 1) s a1 a2 a3 a4 a5 n md t1 t2 A2 c2 l2 _ ⟨by (with_reducible repeat (first | refine blk_drewN ?_ _ | refine blk_drew ?_ | refine blk_alloc ?_ _)); exact HA.out⟩ ⟨by (with_reducible repeat (first | refine blk_drewN ?_ _ | refine blk_drew ?_ | refine blk_alloc ?_ _)); exact HS.out⟩ ⟨by (with_reducible repeat (first | refine blk_drewN ?_ _ | refine blk_drew ?_ | refine blk_alloc ?_ _)); exact HN.out⟩ ⟨Kd.C_below HR.out (by repeat (first | exact HB.out | apply below_alloc | apply pw_below_drewN | apply below_drew))⟩ HC HW).mono ?_; rintro en wx ⟨hen, hb⟩; rw [hbv] at hen; subst hen; have hA := (hb.block w.heap.size (by first | (simp; done) | (simp; omega) | omega)).trans (by first | exact HA.out | (simp; exact HA.out)); have hN := (hb.block (w.heap.size + 1) (by first | (simp; done) | (simp; omega) | omega)).trans (by first | exact HN.out | (simp; exact HN.out)); have hS := (hb.block (w.heap.size + 2) (by first | (simp; done) | (simp; omega) | omega)).trans (by first | exact HS.out | (simp; exact HS.out)); have hB := below_then (by repeat (first | exact HB.out | apply below_alloc | apply pw_below_drewN | apply below_drew)) (by first | (simp; done) | (simp; omega) | omega) hb; clear HA HN HS HB hb; have HA := Aside0.mk hA; have HN := Aside0.mk hN; have HS := Aside0.mk hS; have HB := Aside0.mk hB; clear hA hN hS hB))
                    go_roundg k1
                    case measure => have := HK1.out; omega
                    case rel => exact ⟨lo, md, (by first | rfl | (simp; done) | (simp [*]; done)), (by first | rfl | (simp; done) | (simp [*]; done)), H', ⟨by have := HK1.out; omega⟩, ⟨by (with_reducible repeat (first | refine blk_drewN ?_ _ | refine blk_drew ?_ | refine blk_alloc ?_ _)); exact HA.out⟩, ⟨by (with_reducible repeat (first | refine blk_drewN ?_ _ | refine blk_drew ?_ | refine blk_alloc ?_ _)); exact HN.out⟩, ⟨by (with_reducible repeat (first | refine blk_drewN ?_ _ | refine blk_drew ?_ | refine blk_alloc ?_ _)); exact HS.out⟩, ⟨by repeat (first | exact HB.out | apply below_alloc | apply pw_below_drewN | apply below_drew)⟩⟩
                  · rw [if_neg ct] at H
                    have H' := Aside0.mk H
                    clear H
                    have hbv : (decide (t2 ≠ 0) || decide (n ≤ t1)) = false := by
                      have := not_or.1 ct
                      simp only [Bool.or_eq_false_iff, decide_eq_false_iff_not]
                      exact this
                    go_wp2_with (first | (go_at_call 59; refine (asset_Units_1.calls k1 w.heap.size (w.heap.size + 2) (w.heap.size + 1) s a1 a2 a3 a4 a5 n md t1 t2 A2 c2 l2 _ ⟨by (with_reducible repeat (first | refine blk_drewN ?_ _ | refine blk_drew ?_ | refine blk_alloc ?_ _)); exact HA.out⟩ ⟨by (with_reducible repeat (first | refine blk_drewN ?_ _ | refine blk_drew ?_ | refine blk_alloc ?_ _)); exact HS.out⟩ ⟨by (with_reducible repeat (first | refine blk_drewN ?_ _ | refine blk_drew ?_ | refine blk_alloc ?_ _)); exact HN.out⟩ ⟨Kd.C_below HR.out (by repeat (first | exact HB.out | apply below_alloc | apply pw_below_drewN | apply below_drew))⟩ HC HW).mono ?_; rintro en wx ⟨hen, hb⟩; rw [hbv] at hen; subst hen; have hA := (hb.block w.heap.size (by first | (simp; done) | (simp; omega) | omega)).trans (by first | exact HA.out | (simp; exact HA.out)); have hN := (hb.block (w.heap.size + 1) (by first | (simp; done) | (simp; omega) | omega)).trans (by first | exact HN.out | (simp; exact HN.out)); have hS := (hb.block (w.heap.size + 2) (by first | (simp; done) | (simp; omega) | omega)).trans (by first | exact HS.out | (simp; exact HS.out)); have hB := below_then (by repeat (first | exact HB.out | apply below_alloc | apply pw_below_drewN | apply below_drew)) (by first | (simp; done) | (simp; omega) | omega) hb; clear HA HN HS HB hb; have HA := Aside0.mk hA; have HN := Aside0.mk hN; have HS := Aside0.mk hS; have HB := Aside0.mk hB; clear hA hN hS hB))
                    go_roundg k1
                    case measure => have := HK1.out; omega
                    case rel => exact ⟨wrap64 (md + 1), hi, (by first | rfl | (simp; done) | (simp [*]; done)), (by first | rfl | (simp; done) | (simp [*]; done)), H', ⟨by have := HK1.out; omega⟩, ⟨by (with_reducible repeat (first | refine blk_drewN ?_ _ | refine blk_drew ?_ | refine blk_alloc ?_ _)); exact HA.out⟩, ⟨by (with_reducible repeat (first | refine blk_drewN ?_ _ | refine blk_drew ?_ | refine blk_alloc ?_ _)); exact HN.out⟩, ⟨by (with_reducible repeat (first | refine blk_drewN ?_ _ | refine blk_drew ?_ | refine blk_alloc ?_ _)); exact HS.out⟩, ⟨by repeat (first | exact HB.out | apply below_alloc | apply pw_below_drewN | apply below_drew)⟩⟩
                · rw [if_neg c3] at H
                  have c3b0 : decide (lo < hi) = false := decide_eq_false c3
                  obtain rfl := Option.some.inj H
                  have la : w.heap.size < wr.heap.size := by omega
                  have e0' : wr.cell? ⟨w.heap.size, 0, none⟩ = some (.string s) := (blk_cell HA.out 0).trans rfl
                  have e1' : wr.cell? ⟨w.heap.size, 1, none⟩ = some (.int .i64 a1) := (blk_cell HA.out 1).trans rfl
                  have e2' : wr.cell? ⟨w.heap.size, 2, none⟩ = some (.int .i64 a2) := (blk_cell HA.out 2).trans rfl
                  have e3' : wr.cell? ⟨w.heap.size, 3, none⟩ = some (.int .i64 a3) := (blk_cell HA.out 3).trans rfl
                  have e4' : wr.cell? ⟨w.heap.size, 4, none⟩ = some (.int .i64 a4) := (blk_cell HA.out 4).trans rfl
                  have e5' : wr.cell? ⟨w.heap.size, 5, none⟩ = some (.int .i64 a5) := (blk_cell HA.out 5).trans rfl
                  have es' : wr.cell? ⟨w.heap.size + 2, 0, none⟩ = some (.slice A2 l2.length c2) := (blk_cell HS.out 0).trans rfl
                  have hz := HZ.out
                  clear HZ
                  by_cases z0 : m2 = 0
                  · subst z0
                    by_cases z1 : m1 < n
                    · rw [if_pos (Or.inr z1)] at hz
                      obtain ⟨rfl, rfl⟩ : (0 : Int) = r1 ∧ (3 : Int) = r2 := by simpa using hz
                      go_wp2_with (first | (go_at_call 17; refine (asset_Worth.calls k s a1 a2 a3 a4 a5 lo A2 c2 l2 _ _ _ (Kd.C_below HR.out (by repeat (first | exact HB.out | apply below_alloc | apply pw_below_drewN | apply below_drew))) HC.out HE.out).mono ?_; rintro en wx ⟨rfl, hb⟩; have hN := (hb.block (w.heap.size + 1) (by first | (simp; done) | (simp; omega) | omega)).trans (by first | exact HN.out | (simp; exact HN.out)); have hB := below_then (by repeat (first | exact HB.out | apply below_alloc | apply pw_below_drewN | apply below_drew)) (by first | (simp; done) | (simp; omega) | omega) hb; clear HB hb; have HB := Aside0.mk hB; have lx : w.heap.size + 1 < wx.heap.size := blk_lt hN; have cx' : wx.cell? ⟨w.heap.size + 1, 0, none⟩ = some (.int .i64 n) := (blk_cell hN 0).trans rfl; clear hB hN))
                      go_ret2
                      exact ⟨rfl, by repeat (first | exact HB.out | apply below_alloc | apply pw_below_drewN | apply below_drew)⟩
                    · have z2 : n ≤ m1 := by omega
                      rw [if_neg (by omega)] at hz
                      obtain ⟨rfl, rfl⟩ : lo = r1 ∧ (0 : Int) = r2 := by simpa using hz
                      go_wp2_with (first | (go_at_call 17; refine (asset_Worth.calls k s a1 a2 a3 a4 a5 lo A2 c2 l2 _ _ _ (Kd.C_below HR.out (by repeat (first | exact HB.out | apply below_alloc | apply pw_below_drewN | apply below_drew))) HC.out HE.out).mono ?_; rintro en wx ⟨rfl, hb⟩; have hN := (hb.block (w.heap.size + 1) (by first | (simp; done) | (simp; omega) | omega)).trans (by first | exact HN.out | (simp; exact HN.out)); have hB := below_then (by repeat (first | exact HB.out | apply below_alloc | apply pw_below_drewN | apply below_drew)) (by first | (simp; done) | (simp; omega) | omega) hb; clear HB hb; have HB := Aside0.mk hB; have lx : w.heap.size + 1 < wx.heap.size := blk_lt hN; have cx' : wx.cell? ⟨w.heap.size + 1, 0, none⟩ = some (.int .i64 n) := (blk_cell hN 0).trans rfl; clear hB hN))
                      go_ret2
                      exact ⟨rfl, by repeat (first | exact HB.out | apply below_alloc | apply pw_below_drewN | apply below_drew)⟩
                  · rw [if_pos (Or.inl z0)] at hz
                    obtain ⟨rfl, rfl⟩ : (0 : Int) = r1 ∧ (3 : Int) = r2 := by simpa using hz
                    go_wp2_with (first | (go_at_call 17; refine (asset_Worth.calls k s a1 a2 a3 a4 a5 lo A2 c2 l2 _ _ _ (Kd.C_below HR.out (by repeat (first | exact HB.out | apply below_alloc | apply pw_below_drewN | apply below_drew))) HC.out HE.out).mono ?_; rintro en wx ⟨rfl, hb⟩; have hN := (hb.block (w.heap.size + 1) (by first | (simp; done) | (simp; omega) | omega)).trans (by first | exact HN.out | (simp; exact HN.out)); have hB := below_then (by repeat (first | exact HB.out | apply below_alloc | apply pw_below_drewN | apply below_drew)) (by first | (simp; done) | (simp; omega) | omega) hb; clear HB hb; have HB := Aside0.mk hB; have lx : w.heap.size + 1 < wx.heap.size := blk_lt hN; have cx' : wx.cell? ⟨w.heap.size + 1, 0, none⟩ = some (.int .i64 n) := (blk_cell hN 0).trans rfl; clear hB hN))
                    go_ret2
                    exact ⟨rfl, by repeat (first | exact HB.out | apply below_alloc | apply pw_below_drewN | apply below_drew)⟩
    · rw [if_neg hu0] at h
      obtain ⟨rfl, rfl⟩ : (0 : Int) = r1 ∧ u = r2 := by simpa using h
      go_wp2
      go_ret2
      exact ⟨rfl, by repeat (first | exact HB.out | apply below_alloc | apply pw_below_drewN | apply below_drew)⟩
  · rw [if_neg ht0] at h
    obtain ⟨rfl, rfl⟩ : (0 : Int) = r1 ∧ t = r2 := by simpa using h
    go_wp2
    go_ret2
    exact ⟨rfl, by repeat (first | exact HB.out | apply below_alloc | apply pw_below_drewN | apply below_drew)⟩
end Go.Proofs.Ytaiekjimdjlgbaa.Pr
