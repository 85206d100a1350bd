/- Functions' values and contracts, as the print wrote them. -/
import Derived.Test.YtaiekjimdjlgbaaQ03EP0
import Derived.Test.YtaiekjimdjlgbaaQ03EP2
import Derived.Test.YtaiekjimdjlgbaaQ03EP1
namespace Go.Proofs.Ytaiekjimdjlgbaa.Pr
open Go.RowKit Go.Proofs.YtaiekjimdjlgbaaW.PrintWords Go.Proofs.YtaiekjimdjlgbaaW.PrintLast Go.Proofs.YtaiekjimdjlgbaaW.PrintMore
attribute [local go_sem] max2_int min2_int max_two min_two max_three min_three max_four min_four   -- for this text's walks alone
set_option linter.unusedVariables false
set_option linter.unusedSimpArgs false
def rate_Convert.f (k : Nat) (l0 : List (S94)) (a1 : Int) (a2 : Int) (a3 : Int) (a4 : Int) : Option (Int × Int) := (rate_Check.f k l0).bind fun t160 => (if t160 = 0 then (if a2 < 0 then (some (0, 25)) else (if a2 ≥ (l0.length : Int) then (some (0, 25)) else (if a3 < 0 then (some (0, 25)) else (if a3 ≥ (l0.length : Int) then (some (0, 25)) else (if 0 ≤ a2 then (if a2 < (l0.length : Int) then (if 0 ≤ a3 then (if a3 < (l0.length : Int) then ((cents_MulDiv.f a1 ((rd_T94 l0 a2).f1) ((rd_T94 l0 a3).f1) a4).bind fun bt163 => (some (bt163.1, bt163.2))) else (none)) else (none)) else (none)) else (none)))))) else (some (0, t160)))
theorem rate_Convert.mono : ∀ a0 a1 a2 a3 a4 k, LeO (rate_Convert.f k a0 a1 a2 a3 a4) (rate_Convert.f (k + 1) a0 a1 a2 a3 a4) := by
  intro a0 a1 a2 a3 a4 k
  unfold rate_Convert.f
  repeat' first
      | (with_reducible exact rate_Check.mono _ _)
      | (with_reducible exact LeO.refl _)
      | (with_reducible exact LeO.none _)
      | (with_reducible refine LeO.ite ?_ ?_)
      | (with_reducible refine LeO.bind ?_ (fun _ => ?_))
      | exact rate_Check.mono _ _
      | exact LeO.none _
      | refine LeO.ite ?_ ?_
      | refine LeO.bind ?_ (fun _ => ?_)
def rate_Convert.T6 : Bool × List (List Nat × List Nat) := (true, [([], []), ([], []), ([], []), ([1, 2], [1, 2]), ([3], [3]), ([4], [4]), ([], []), ([], []), ([6, 7], [6, 7]), ([8], [8]), ([9], [9]), ([], []), ([0, 5, 10, 11], [0, 5, 10, 11]), ([12], [12]), ([12], [12]), ([13, 12, 0, 1, 2, 3, 4, 5, 6, 7, 8, 9, 10, 11, 12, 13, 14], [13]), ([14, 15, 0, 1, 2, 3, 4, 5, 6, 7, 8, 9, 10, 11, 12, 13, 14, 15], [14])])
def rate_Convert.B6 : List Nat := [0, 0, 0, 6, 14, 30, 0, 0, 192, 448, 960, 0, 4095, 8191, 8191, 32767, 65535]
theorem rate_Convert.tab6 : rtab .any (opsOf Try.f92 6) = rate_Convert.T6 := by kernel_rfl
theorem rate_Convert.bits6 : waitsOk rate_Convert.T6.2 rate_Convert.B6 = true := by kernel_rfl
set_option maxHeartbeats 8000000 in
set_option maxRecDepth 100000 in
theorem rate_Convert.calls (k : Nat) (A0 : Option Addr) (c0 : Nat) (l0 : List (S94)) (a1 : Int) (a2 : Int) (a3 : Int) (a4 : Int) (r1 : Int) (r2 : Int) (w : World) (hr0 : Kd.C k94 w A0 l0.length l0) (hc0 : l0.length ≤ c0) (h : rate_Convert.f k l0 a1 a2 a3 a4 = some (r1, r2)) :
    Calls Try.prog 92 #[.slice A0 l0.length c0, .int .i64 a1, .int .i64 a2, .int .i64 a3, .int .i64 a4] w fun e w' => e = .returned (.tuple #[.int .i64 r1, .int .i64 r2]) ∧ Below w.heap.size w w' := by
  have HR0 := Aside0.mk hr0
  have HC0 := Aside0.mk hc0
  clear hr0 hc0
  have HB := Aside0.mk (Below.refl w.heap.size w)
  have H : ((rate_Check.f k l0).bind fun t160 => (if t160 = 0 then (if a2 < 0 then (some (0, 25)) else (if a2 ≥ (l0.length : Int) then (some (0, 25)) else (if a3 < 0 then (some (0, 25)) else (if a3 ≥ (l0.length : Int) then (some (0, 25)) else (if 0 ≤ a2 then (if a2 < (l0.length : Int) then (if 0 ≤ a3 then (if a3 < (l0.length : Int) then ((cents_MulDiv.f a1 ((rd_T94 l0 a2).f1) ((rd_T94 l0 a3).f1) a4).bind fun bt163 => (some (bt163.1, bt163.2))) else (none)) else (none)) else (none)) else (none)))))) else (some (0, t160)))) = some (r1, r2) := h
  clear h
  replace H := Option.bind_eq_some_iff.mp H
  obtain ⟨t160, A60, H⟩ := H
  replace H : (if t160 = 0 then (if a2 < 0 then (some (0, 25)) else (if a2 ≥ (l0.length : Int) then (some (0, 25)) else (if a3 < 0 then (some (0, 25)) else (if a3 ≥ (l0.length : Int) then (some (0, 25)) else (if 0 ≤ a2 then (if a2 < (l0.length : Int) then (if 0 ≤ a3 then (if a3 < (l0.length : Int) then ((cents_MulDiv.f a1 ((rd_T94 l0 a2).f1) ((rd_T94 l0 a3).f1) a4).bind fun bt163 => (some (bt163.1, bt163.2))) else (none)) else (none)) else (none)) else (none)))))) else (some (0, t160))) = some (r1, r2) := H
  have A6 := Aside0.mk A60
  clear A60
  go_enter Try.func92, Try.ntmps92
  go_upto_if 15 with (first | ((with_reducible refine gate_callee (f := 58) rfl ?_); refine goesL_ (some 13) rfl rfl Try.func58 (by kernel_rfl) rfl #[.slice A0 l0.length c0] rfl (by (try simp only [List.map_toArray, List.map_cons, List.map_nil]); first | done | rfl | (simp only [List.length_drop, List.length_take]; rfl)) ?_; (with_reducible refine (rate_Check.calls k _ _ l0 t160 _ ?side1 ?side2 A6.out).mono ?_); (case side1 => repeat (first | exact HR0.out | (with_reducible refine Kd.C_alloc ?_ _) | (with_reducible refine Kd.C_drewN ?_ _) | (with_reducible refine Kd.C_drew ?_))); (case side2 => exact HC0.out); rintro e w7 ⟨rfl, hb⟩; refine ⟨_, rfl, ?_⟩; have n0_ := Aside0.mk (below_step (by repeat (first | (with_reducible first | exact HB.out | apply below_alloc | apply pw_below_drewN | apply below_drew1) | exact HB.out)) hb); clear HB; have HB := n0_; clear n0_; (try clear hb); (try clear hb2); (try clear hk); (try clear hi)))
  (try simp only [Act.put, List.setIfInBounds_toArray, List.set_cons_zero, List.set_cons_succ])
  by_cases c8 : t160 = 0
  · rw [if_pos c8] at H
    have c8b0 : (t160 == 0) = true := beq_iff_eq.mpr c8
    have c8b1 : (t160 != 0) = false := bne_eq_false_iff_eq.mpr c8
    clear c8
    (try simp only [c8b0, c8b1])
    by_cases c9 : a2 < 0
    · rw [if_pos c9] at H
      have c9b0 : decide (a2 < 0) = true := decide_eq_true c9
      clear c9
      simp only [Option.some.injEq, Prod.mk.injEq] at H
      obtain ⟨rfl, rfl⟩ := H
      go_wp2
      go_ret2
      exact ⟨by first | rfl | (simp [errW_none, errW_some] <;> rfl) | (simp [*, errW_none, errW_some] <;> rfl), by repeat (first | (with_reducible first | exact HB.out | apply below_alloc | apply pw_below_drewN | apply below_drew1) | exact HB.out)⟩
    · rw [if_neg c9] at H
      have c9b0 : decide (a2 < 0) = false := decide_eq_false c9
      clear c9
      by_cases c10 : a2 ≥ (l0.length : Int)
      · rw [if_pos c10] at H
        have c10b0 : decide ((l0.length : Int) ≤ a2) = true := decide_eq_true c10
        clear c10
        simp only [Option.some.injEq, Prod.mk.injEq] at H
        obtain ⟨rfl, rfl⟩ := H
        go_wp2
        go_ret2
        exact ⟨by first | rfl | (simp [errW_none, errW_some] <;> rfl) | (simp [*, errW_none, errW_some] <;> rfl), by repeat (first | (with_reducible first | exact HB.out | apply below_alloc | apply pw_below_drewN | apply below_drew1) | exact HB.out)⟩
      · rw [if_neg c10] at H
        have c10b0 : decide ((l0.length : Int) ≤ a2) = false := decide_eq_false c10
        clear c10
        by_cases c11 : a3 < 0
        · rw [if_pos c11] at H
          have c11b0 : decide (a3 < 0) = true := decide_eq_true c11
          clear c11
          simp only [Option.some.injEq, Prod.mk.injEq] at H
          obtain ⟨rfl, rfl⟩ := H
          go_wp2
          go_ret2
          exact ⟨by first | rfl | (simp [errW_none, errW_some] <;> rfl) | (simp [*, errW_none, errW_some] <;> rfl), by repeat (first | (with_reducible first | exact HB.out | apply below_alloc | apply pw_below_drewN | apply below_drew1) | exact HB.out)⟩
        · rw [if_neg c11] at H
          have c11b0 : decide (a3 < 0) = false := decide_eq_false c11
          clear c11
          by_cases c12 : a3 ≥ (l0.length : Int)
          · rw [if_pos c12] at H
            have c12b0 : decide ((l0.length : Int) ≤ a3) = true := decide_eq_true c12
            clear c12
            (try simp only [c12b0])
            simp only [Option.some.injEq, Prod.mk.injEq] at H
            obtain ⟨rfl, rfl⟩ := H
            go_wp2
            go_ret2
            exact ⟨by first | rfl | (simp [errW_none, errW_some] <;> rfl) | (simp [*, errW_none, errW_some] <;> rfl), by repeat (first | (with_reducible first | exact HB.out | apply below_alloc | apply pw_below_drewN | apply below_drew1) | exact HB.out)⟩
          · rw [if_neg c12] at H
            have c12b0 : decide ((l0.length : Int) ≤ a3) = false := decide_eq_false c12
            clear c12
            (try simp only [c12b0])
            by_cases c13 : 0 ≤ a2
            · rw [if_pos c13] at H
              have c13b0 : decide (0 ≤ a2) = true := decide_eq_true c13
              clear c13
              by_cases c14 : a2 < (l0.length : Int)
              · rw [if_pos c14] at H
                have c14b0 : decide (a2 < (l0.length : Int)) = true := decide_eq_true c14
                clear c14
                by_cases c15 : 0 ≤ a3
                · rw [if_pos c15] at H
                  have c15b0 : decide (0 ≤ a3) = true := decide_eq_true c15
                  clear c15
                  by_cases c16 : a3 < (l0.length : Int)
                  · rw [if_pos c16] at H
                    have c16b0 : decide (a3 < (l0.length : Int)) = true := decide_eq_true c16
                    clear c16
                    replace H := Option.bind_eq_some_iff.mp H
                    obtain ⟨⟨t163, t164⟩, A170, H⟩ := H
                    replace H : (some (t163, t164)) = some (r1, r2) := H
                    have A17 := Aside0.mk A170
                    clear A170
                    simp only [Option.some.injEq, Prod.mk.injEq] at H
                    obtain ⟨rfl, rfl⟩ := H
                    try go_wp2
                    have n0_ := Aside0.mk (below_drew1 HB.out)
                    clear HB
                    have HB := n0_
                    clear n0_
                    have p161 : 0 ≤ (a2 : Int) := of_decide_eq_true (by first | (with_reducible assumption) | assumption)
                    have q161 : a2 < (l0.length : Int) := of_decide_eq_true (by first | (with_reducible assumption) | assumption)
                    obtain ⟨ad161, e161, hx161_0, hx161_1⟩ := at_T94 HR0.out a2 p161 q161
                    have hw161_1 := hx161_1
                    have hw161_0 := hx161_0
                    cases e161
                    replace hx161_0 := (HB.out.cell (World.block_lt_of_cell? w _ hx161_0)).trans hx161_0
                    replace hx161_1 := (HB.out.cell (World.block_lt_of_cell? w _ hx161_1)).trans hx161_1
                    replace p161 := eq_true p161
                    replace q161 := eq_true q161
                    have p162 : 0 ≤ (a3 : Int) := of_decide_eq_true (by first | (with_reducible assumption) | assumption)
                    have q162 : a3 < (l0.length : Int) := of_decide_eq_true (by first | (with_reducible assumption) | assumption)
                    obtain ⟨ad162, e162, hx162_0, hx162_1⟩ := at_T94 HR0.out a3 p162 q162
                    have hw162_1 := hx162_1
                    have hw162_0 := hx162_0
                    obtain rfl : ad161 = ad162 := (by injection e162)
                    replace hx162_0 := (HB.out.cell (World.block_lt_of_cell? w _ hx162_0)).trans hx162_0
                    replace hx162_1 := (HB.out.cell (World.block_lt_of_cell? w _ hx162_1)).trans hx162_1
                    replace p162 := eq_true p162
                    replace q162 := eq_true q162
                    refine start_ (n := 17) (S := fun w' => w'.cell? (ad161.add ((a2).toNat * 2)) = some (.string ((rd_T94 l0 a2).f0)) ∧ w'.cell? ⟨(ad161.add ((a2).toNat * 2)).block, (ad161.add ((a2).toNat * 2)).off + 1, none⟩ = some (.int .i64 ((rd_T94 l0 a2).f1)) ∧ w'.cell? (ad161.add ((a3).toNat * 2)) = some (.string ((rd_T94 l0 a3).f0)) ∧ w'.cell? ⟨(ad161.add ((a3).toNat * 2)).block, (ad161.add ((a3).toNat * 2)).off + 1, none⟩ = some (.int .i64 ((rd_T94 l0 a3).f1))) (ds := []) #[false, false, false, false, false, false, false, false, false, false, false, false, false, false, false, false, false] (by kernel_rfl) rfl rfl ⟨((HB.out.cell (World.block_lt_of_cell? w _ hw161_0)).trans hw161_0), ((HB.out.cell (World.block_lt_of_cell? w _ hw161_1)).trans hw161_1), ((HB.out.cell (World.block_lt_of_cell? w _ hw162_0)).trans hw162_0), ((HB.out.cell (World.block_lt_of_cell? w _ hw162_1)).trans hw162_1)⟩ (fun hHeld => ?_); refine with_tabW rate_Convert.tab6 rate_Convert.bits6 (fun HT_ HW_ => ?_)
                    generalize w7.drew = w18 at HB hx161_0 hx161_1 hx162_0 hx162_1 hHeld ⊢
                    refine pure_ (i := 0) (N := some 35) (v := ?_) (a' := ?_) #[true, false, false, false, false, false, false, false, false, false, false, false, false, false, false, false, false] rfl rfl (any_of HT_.out (by kernel_rfl)) (fun _ _ _ h => h) (Or.inl ⟨by rfl, ?_⟩) ?_ ?_
                    rotate_left
                    · intro w'
                      go_simp
                      with_reducible rfl
                    rotate_left
                    · simp only [Act.put, List.setIfInBounds_toArray, List.set_cons_zero, List.set_cons_succ, i64_w, i32_w]
                      rfl
                    refine pure_ (i := 1) (N := some 36) (v := ?_) (a' := ?_) #[true, true, false, false, false, false, false, false, false, false, false, false, false, false, false, false, false] rfl rfl (any_of HT_.out (by kernel_rfl)) (fun _ _ _ h => h) (Or.inl ⟨by rfl, ?_⟩) ?_ ?_
                    rotate_left
                    · intro w'
                      go_simp
                      with_reducible rfl
                    rotate_left
                    · simp only [Act.put, List.setIfInBounds_toArray, List.set_cons_zero, List.set_cons_succ, i64_w, i32_w]
                      rfl
                    refine pure_ (i := 2) (N := some 37) (v := ?_) (a' := ?_) #[true, true, true, false, false, false, false, false, false, false, false, false, false, false, false, false, false] rfl rfl (any_of HT_.out (by kernel_rfl)) (fun _ _ _ h => h) (Or.inl ⟨by rfl, ?_⟩) ?_ ?_
                    rotate_left
                    · intro w'
                      go_simp
                      with_reducible rfl
                    rotate_left
                    · simp only [Act.put, List.setIfInBounds_toArray, List.set_cons_zero, List.set_cons_succ, i64_w, i32_w]
                      rfl
                    refine pure_ (i := 3) (N := some 38) (v := ?_) (a' := ?_) #[true, true, true, true, false, false, false, false, false, false, false, false, false, false, false, false, false] rfl rfl (any_of HT_.out (by kernel_rfl)) (fun _ _ _ h => h) (Or.inl ⟨by rfl, ?_⟩) ?_ ?_
                    rotate_left
                    · intro w'
                      go_simp
                      with_reducible rfl
                    rotate_left
                    · simp only [Act.put, List.setIfInBounds_toArray, List.set_cons_zero, List.set_cons_succ, i64_w, i32_w]
                      rfl
                    refine pure_ (i := 4) (N := some 39) (v := ?_) (a' := ?_) #[true, true, true, true, true, false, false, false, false, false, false, false, false, false, false, false, false] rfl rfl (any_of HT_.out (by kernel_rfl)) (fun _ _ _ h => h) (Or.inl ⟨by rfl, ?_⟩) ?_ ?_
                    rotate_left
                    · intro w'
                      go_simp
                      with_reducible rfl
                    rotate_left
                    · simp only [Act.put, List.setIfInBounds_toArray, List.set_cons_zero, List.set_cons_succ, i64_w, i32_w]
                      rfl
                    refine pure_ (i := 6) (N := some 41) (v := ?_) (a' := ?_) #[true, true, true, true, true, false, true, false, false, false, false, false, false, false, false, false, false] rfl rfl (any_of HT_.out (by kernel_rfl)) (fun _ _ _ h => h) (Or.inl ⟨by rfl, ?_⟩) ?_ ?_
                    rotate_left
                    · intro w'
                      go_simp
                      with_reducible rfl
                    rotate_left
                    · simp only [Act.put, List.setIfInBounds_toArray, List.set_cons_zero, List.set_cons_succ, i64_w, i32_w]
                      rfl
                    refine pure_ (i := 7) (N := some 42) (v := ?_) (a' := ?_) #[true, true, true, true, true, false, true, true, false, false, false, false, false, false, false, false, false] rfl rfl (any_of HT_.out (by kernel_rfl)) (fun _ _ _ h => h) (Or.inl ⟨by rfl, ?_⟩) ?_ ?_
                    rotate_left
                    · intro w'
                      go_simp
                      with_reducible rfl
                    rotate_left
                    · simp only [Act.put, List.setIfInBounds_toArray, List.set_cons_zero, List.set_cons_succ, i64_w, i32_w]
                      rfl
                    refine pure_ (i := 8) (N := some 43) (v := ?_) (a' := ?_) #[true, true, true, true, true, false, true, true, true, false, false, false, false, false, false, false, false] rfl rfl (any_of HT_.out (by kernel_rfl)) (fun _ _ _ h => h) (Or.inl ⟨by rfl, ?_⟩) ?_ ?_
                    rotate_left
                    · intro w'
                      go_simp
                      with_reducible rfl
                    rotate_left
                    · simp only [Act.put, List.setIfInBounds_toArray, List.set_cons_zero, List.set_cons_succ, i64_w, i32_w]
                      rfl
                    refine pure_ (i := 9) (N := some 44) (v := ?_) (a' := ?_) #[true, true, true, true, true, false, true, true, true, true, false, false, false, false, false, false, false] rfl rfl (any_of HT_.out (by kernel_rfl)) (fun _ _ _ h => h) (Or.inl ⟨by rfl, ?_⟩) ?_ ?_
                    rotate_left
                    · intro w'
                      go_simp
                      with_reducible rfl
                    rotate_left
                    · simp only [Act.put, List.setIfInBounds_toArray, List.set_cons_zero, List.set_cons_succ, i64_w, i32_w]
                      rfl
                    refine pure_ (i := 11) (N := some 46) (v := ?_) (a' := ?_) #[true, true, true, true, true, false, true, true, true, true, false, true, false, false, false, false, false] rfl rfl (any_of HT_.out (by kernel_rfl)) (fun _ _ _ h => h) (Or.inl ⟨by rfl, ?_⟩) ?_ ?_
                    rotate_left
                    · intro w'
                      go_simp
                      with_reducible rfl
                    rotate_left
                    · simp only [Act.put, List.setIfInBounds_toArray, List.set_cons_zero, List.set_cons_succ, i64_w, i32_w]
                      rfl
                    refine take_ (i := 5) (N := some 40) (v := ?_) (a' := ?_) #[true, true, true, true, true, true, true, true, true, true, false, true, false, false, false, false, false] rfl rfl (take_ofW HT_.out HW_.out (by kernel_rfl)) (fun _ _ _ h => h) (Or.inl ⟨by rfl, ?_⟩) hHeld ?_ ?_
                    rotate_left
                    · rintro w' ⟨s0, s1, s2, s3⟩
                      go_simp
                      with_reducible rfl
                    rotate_left
                    · simp only [Act.put, List.setIfInBounds_toArray, List.set_cons_zero, List.set_cons_succ, i64_w, i32_w]
                      rfl
                    refine take_ (i := 10) (N := some 45) (v := ?_) (a' := ?_) #[true, true, true, true, true, true, true, true, true, true, true, true, false, false, false, false, false] rfl rfl (take_ofW HT_.out HW_.out (by kernel_rfl)) (fun _ _ _ h => h) (Or.inl ⟨by rfl, ?_⟩) hHeld ?_ ?_
                    rotate_left
                    · rintro w' ⟨s0, s1, s2, s3⟩
                      go_simp
                      with_reducible rfl
                    rotate_left
                    · simp only [Act.put, List.setIfInBounds_toArray, List.set_cons_zero, List.set_cons_succ, i64_w, i32_w]
                      rfl
                    refine one_ (i := 12) (N := some 47) #[true, true, true, true, true, true, true, true, true, true, true, true, true, false, false, false, false] rfl rfl (one_of HT_.out (by kernel_rfl)) (by decide) (fun K hK => ?_)
                    refine goes_ Try.func55 (by kernel_rfl) rfl #[.int .i64 a1, .int .i64 ((rd_T94 l0 a2).f1), .int .i64 ((rd_T94 l0 a3).f1), .int .i64 a4] (by rfl) rfl rfl (by (try simp only [List.map_toArray, List.map_cons, List.map_nil]); first | done | rfl | (simp only [List.length_drop, List.length_take]; rfl)) ?_
                    with_reducible refine (cents_MulDiv.calls a1 ((rd_T94 l0 a2).f1) ((rd_T94 l0 a3).f1) a4 t163 t164 _ A17.out).mono ?_
                    rintro e w19 ⟨rfl, hb⟩
                    refine ⟨_, rfl, ?_⟩
                    have n0_ := Aside0.mk (below_step (by repeat (first | (with_reducible first | exact HB.out | apply below_alloc | apply pw_below_drewN | apply below_drew1) | exact HB.out)) hb)
                    clear HB
                    have HB := n0_
                    clear n0_
                    (try clear hb)
                    (try clear hb2)
                    (try clear hk)
                    (try clear hi)
                    refine hK.out _ _ ⟨((HB.out.cell (World.block_lt_of_cell? w _ hw161_0)).trans hw161_0), ((HB.out.cell (World.block_lt_of_cell? w _ hw161_1)).trans hw161_1), ((HB.out.cell (World.block_lt_of_cell? w _ hw162_0)).trans hw162_0), ((HB.out.cell (World.block_lt_of_cell? w _ hw162_1)).trans hw162_1)⟩ (fun hHeld => ?_)
                    clear hK K
                    refine norm_ (a' := ?_) ?_ ?_
                    rotate_left
                    · show Act.put _ (some 47) _ = _
                      simp only [Act.put, List.setIfInBounds_toArray, List.set_cons_zero, List.set_cons_succ, i64_w, i32_w]
                      rfl
                    refine pure_ (i := 13) (N := some 48) (v := ?_) (a' := ?_) #[true, true, true, true, true, true, true, true, true, true, true, true, true, true, false, false, false] rfl rfl (any_of HT_.out (by kernel_rfl)) (fun _ _ _ h => h) (Or.inl ⟨by rfl, ?_⟩) ?_ ?_
                    rotate_left
                    · intro w'
                      go_simp
                      with_reducible rfl
                    rotate_left
                    · simp only [Act.put, List.setIfInBounds_toArray, List.set_cons_zero, List.set_cons_succ, i64_w, i32_w]
                      rfl
                    refine pure_ (i := 14) (N := some 49) (v := ?_) (a' := ?_) #[true, true, true, true, true, true, true, true, true, true, true, true, true, true, true, false, false] rfl rfl (any_of HT_.out (by kernel_rfl)) (fun _ _ _ h => h) (Or.inl ⟨by rfl, ?_⟩) ?_ ?_
                    rotate_left
                    · intro w'
                      go_simp
                      with_reducible rfl
                    rotate_left
                    · simp only [Act.put, List.setIfInBounds_toArray, List.set_cons_zero, List.set_cons_succ, i64_w, i32_w]
                      rfl
                    refine pure_ (i := 15) (N := some 10) (v := ?_) (a' := ?_) #[true, true, true, true, true, true, true, true, true, true, true, true, true, true, true, true, false] rfl rfl (any_of HT_.out (by kernel_rfl)) (fun _ _ _ h => h) (Or.inl ⟨by rfl, ?_⟩) ?_ ?_
                    rotate_left
                    · intro w'
                      go_simp
                      with_reducible rfl
                    rotate_left
                    · simp only [Act.put, List.setIfInBounds_toArray, List.set_cons_zero, List.set_cons_succ, i64_w, i32_w]
                      rfl
                    refine pure_ (i := 16) (N := some 11) (v := ?_) (a' := ?_) #[true, true, true, true, true, true, true, true, true, true, true, true, true, true, true, true, true] rfl rfl (any_of HT_.out (by kernel_rfl)) (fun _ _ _ h => h) (Or.inl ⟨by rfl, ?_⟩) ?_ ?_
                    rotate_left
                    · intro w'
                      go_simp
                      with_reducible rfl
                    rotate_left
                    · simp only [Act.put, List.setIfInBounds_toArray, List.set_cons_zero, List.set_cons_succ, i64_w, i32_w]
                      rfl
                    refine done_ (done_of HT_.out (by kernel_rfl)) ?_
                    try go_wp2
                    go_ret2
                    exact ⟨by first | rfl | (simp [errW_none, errW_some] <;> rfl) | (simp [*, errW_none, errW_some] <;> rfl), by repeat (first | (with_reducible first | exact HB.out | apply below_alloc | apply pw_below_drewN | apply below_drew1) | exact HB.out)⟩
                  · rw [if_neg c16] at H
                    exact absurd H (by simp)
                · rw [if_neg c15] at H
                  exact absurd H (by simp)
              · rw [if_neg c14] at H
                exact absurd H (by simp)
            · rw [if_neg c13] at H
              exact absurd H (by simp)
  · rw [if_neg c8] at H
    have c8b0 : (t160 == 0) = false := beq_eq_false_iff_ne.mpr c8
    have c8b1 : (t160 != 0) = true := bne_iff_ne.mpr c8
    (try simp only [c8b0, c8b1])
    simp only [Option.some.injEq, Prod.mk.injEq] at H
    obtain ⟨rfl, rfl⟩ := H
    go_wp2
    go_ret2
    exact ⟨by first | rfl | (simp [errW_none, errW_some] <;> rfl) | (simp [*, errW_none, errW_some] <;> rfl), by repeat (first | (with_reducible first | exact HB.out | apply below_alloc | apply pw_below_drewN | apply below_drew1) | exact HB.out)⟩
def rate_Base.f (k : Nat) (l0 : List (S94)) (a1 : Int) (a2 : Int) (a3 : Int) : Option (Int × Int) := (rate_Convert.f k l0 a1 a2 0 a3).bind fun bt165 => (some (bt165.1, bt165.2))
theorem rate_Base.mono : ∀ a0 a1 a2 a3 k, LeO (rate_Base.f k a0 a1 a2 a3) (rate_Base.f (k + 1) a0 a1 a2 a3) := by
  intro a0 a1 a2 a3 k
  unfold rate_Base.f
  repeat' first
      | (with_reducible exact rate_Convert.mono _ _ _ _ _ _)
      | (with_reducible exact LeO.refl _)
      | (with_reducible exact LeO.none _)
      | (with_reducible refine LeO.ite ?_ ?_)
      | (with_reducible refine LeO.bind ?_ (fun _ => ?_))
      | exact rate_Convert.mono _ _ _ _ _ _
      | exact LeO.none _
      | refine LeO.ite ?_ ?_
      | refine LeO.bind ?_ (fun _ => ?_)
set_option maxHeartbeats 8000000 in
set_option maxRecDepth 100000 in
theorem rate_Base.calls (k : Nat) (A0 : Option Addr) (c0 : Nat) (l0 : List (S94)) (a1 : Int) (a2 : Int) (a3 : Int) (r1 : Int) (r2 : Int) (w : World) (hr0 : Kd.C k94 w A0 l0.length l0) (hc0 : l0.length ≤ c0) (h : rate_Base.f k l0 a1 a2 a3 = some (r1, r2)) :
    Calls Try.prog 54 #[.slice A0 l0.length c0, .int .i64 a1, .int .i64 a2, .int .i64 a3] w fun e w' => e = .returned (.tuple #[.int .i64 r1, .int .i64 r2]) ∧ Below w.heap.size w w' := by
  have HR0 := Aside0.mk hr0
  have HC0 := Aside0.mk hc0
  clear hr0 hc0
  have HB := Aside0.mk (Below.refl w.heap.size w)
  have H : ((rate_Convert.f k l0 a1 a2 0 a3).bind fun bt165 => (some (bt165.1, bt165.2))) = some (r1, r2) := h
  clear h
  replace H := Option.bind_eq_some_iff.mp H
  obtain ⟨⟨t165, t166⟩, A50, H⟩ := H
  replace H : (some (t165, t166)) = some (r1, r2) := H
  have A5 := Aside0.mk A50
  clear A50
  simp only [Option.some.injEq, Prod.mk.injEq] at H
  obtain ⟨rfl, rfl⟩ := H
  go_enter Try.func54, Try.ntmps54
  go_wp2_with (first | ((with_reducible refine gate_callee (f := 92) rfl ?_); refine goesL_ (some 14) rfl rfl Try.func92 (by kernel_rfl) rfl #[.slice A0 l0.length c0, .int .i64 a1, .int .i64 a2, .int .i64 0, .int .i64 a3] rfl (by (try simp only [List.map_toArray, List.map_cons, List.map_nil]); first | done | rfl | (simp only [List.length_drop, List.length_take]; rfl)) ?_; (with_reducible refine (rate_Convert.calls k _ _ l0 a1 a2 0 a3 t165 t166 _ ?side1 ?side2 A5.out).mono ?_); (case side1 => repeat (first | exact HR0.out | (with_reducible refine Kd.C_alloc ?_ _) | (with_reducible refine Kd.C_drewN ?_ _) | (with_reducible refine Kd.C_drew ?_))); (case side2 => exact HC0.out); rintro e w6 ⟨rfl, hb⟩; refine ⟨_, rfl, ?_⟩; have n0_ := Aside0.mk (below_step (by repeat (first | (with_reducible first | exact HB.out | apply below_alloc | apply pw_below_drewN | apply below_drew1) | exact HB.out)) hb); clear HB; have HB := n0_; clear n0_; (try clear hb); (try clear hb2); (try clear hk); (try clear hi)))
  go_ret2
  exact ⟨by first | rfl | (simp [errW_none, errW_some] <;> rfl) | (simp [*, errW_none, errW_some] <;> rfl), by repeat (first | (with_reducible first | exact HB.out | apply below_alloc | apply pw_below_drewN | apply below_drew1) | exact HB.out)⟩
def asset_Worth.f (k : Nat) (a0_0 : ByteArray) (a0_1 : Int) (a0_2 : Int) (a0_3 : Int) (a0_4 : Int) (a0_5 : Int) (a1 : Int) (l2 : List (S94)) : Option (Int × Int) := (asset_Value.f k a0_0 a0_1 a0_2 a0_3 a0_4 a0_5 a1).bind fun bt168 => (if bt168.2 = 0 then ((rate_Base.f k l2 bt168.1 a0_2 3).bind fun bt170 => (if bt170.2 = 0 then ((cents_MulDiv.f bt170.1 (wrap64 (1000 - a0_4)) 1000 3).bind fun bt172 => (some (bt172.1, bt172.2))) else (some (0, bt170.2)))) else (some (0, bt168.2)))
theorem asset_Worth.mono : ∀ a0 a1 a2 a3 a4 a5 a6 a7 k, LeO (asset_Worth.f k a0 a1 a2 a3 a4 a5 a6 a7) (asset_Worth.f (k + 1) a0 a1 a2 a3 a4 a5 a6 a7) := by
  intro a0 a1 a2 a3 a4 a5 a6 a7 k
  unfold asset_Worth.f
  repeat' first
      | (with_reducible exact asset_Value.mono _ _ _ _ _ _ _ _)
      | (with_reducible exact rate_Base.mono _ _ _ _ _)
      | (with_reducible exact LeO.refl _)
      | (with_reducible exact LeO.none _)
      | (with_reducible refine LeO.ite ?_ ?_)
      | (with_reducible refine LeO.bind ?_ (fun _ => ?_))
      | exact asset_Value.mono _ _ _ _ _ _ _ _
      | exact rate_Base.mono _ _ _ _ _
      | exact LeO.none _
      | refine LeO.ite ?_ ?_
      | refine LeO.bind ?_ (fun _ => ?_)
set_option maxHeartbeats 8000000 in
set_option maxRecDepth 100000 in
theorem asset_Worth.calls (k : Nat) (a0_0 : ByteArray) (a0_1 : Int) (a0_2 : Int) (a0_3 : Int) (a0_4 : Int) (a0_5 : Int) (a1 : Int) (A2 : Option Addr) (c2 : Nat) (l2 : List (S94)) (r1 : Int) (r2 : Int) (w : World) (hr2 : Kd.C k94 w A2 l2.length l2) (hc2 : l2.length ≤ c2) (h : asset_Worth.f k a0_0 a0_1 a0_2 a0_3 a0_4 a0_5 a1 l2 = some (r1, r2)) :
    Calls Try.prog 17 #[.agg #[.string a0_0, .int .i64 a0_1, .int .i64 a0_2, .int .i64 a0_3, .int .i64 a0_4, .int .i64 a0_5], .int .i64 a1, .slice A2 l2.length c2] w fun e w' => e = .returned (.tuple #[.int .i64 r1, .int .i64 r2]) ∧ Below w.heap.size w w' := by
  have hu23 := Try.underlying23
  have HR2 := Aside0.mk hr2
  have HC2 := Aside0.mk hc2
  clear hr2 hc2
  have HB := Aside0.mk (Below.refl w.heap.size w)
  have H : ((asset_Value.f k a0_0 a0_1 a0_2 a0_3 a0_4 a0_5 a1).bind fun bt168 => (if bt168.2 = 0 then ((rate_Base.f k l2 bt168.1 a0_2 3).bind fun bt170 => (if bt170.2 = 0 then ((cents_MulDiv.f bt170.1 (wrap64 (1000 - a0_4)) 1000 3).bind fun bt172 => (some (bt172.1, bt172.2))) else (some (0, bt170.2)))) else (some (0, bt168.2)))) = some (r1, r2) := h
  clear h
  replace H := Option.bind_eq_some_iff.mp H
  obtain ⟨⟨t168, t169⟩, A40, H⟩ := H
  replace H : (if t169 = 0 then ((rate_Base.f k l2 t168 a0_2 3).bind fun bt170 => (if bt170.2 = 0 then ((cents_MulDiv.f bt170.1 (wrap64 (1000 - a0_4)) 1000 3).bind fun bt172 => (some (bt172.1, bt172.2))) else (some (0, bt170.2)))) else (some (0, t169))) = some (r1, r2) := H
  have A4 := Aside0.mk A40
  clear A40
  go_enter Try.func17, Try.ntmps17
  go_upto_if 17 with (first | ((with_reducible refine gate_dst (N := 3) rfl ?_); refine box_event ?hg (N := 3) ?hd (cs := #[.string a0_0, .int .i64 a0_1, .int .i64 a0_2, .int .i64 a0_3, .int .i64 a0_4, .int .i64 a0_5]) (t := 23) ?hr ?_; (case hd => rfl); (case hg => rfl); (case hr => first | (go_simp; done) | (go_simp; rfl)); intro gb167 hg w5 hbox hb; have n0_ := Aside0.mk (below_step (by repeat (first | (with_reducible first | exact HB.out | apply below_alloc | apply pw_below_drewN | apply below_drew1) | exact HB.out)) hb); have n1_ := Aside0.mk (hbox); have n2_ := Aside0.mk ((by rw [hg]; exact (below_size (by repeat (first | (with_reducible first | exact HB.out | apply below_alloc | apply pw_below_drewN | apply below_drew1) | exact HB.out))) : w.heap.size ≤ gb167)); have n3_ := Aside0.mk ((by rw [hg]; exact (below_size (by repeat (first | (with_reducible first | exact HB.out | apply below_alloc | apply pw_below_drewN | apply below_drew1) | exact HB.out))) : w.heap.size ≤ gb167)); clear HB; have HB := n0_; have BK167 := n1_; have GW167 := n2_; have GE167 := n3_; clear n0_ n1_ n2_ n3_; clear hb hbox hg; have hcz6_0 : w5.cell? ⟨gb167, 0, none⟩ = some (.string a0_0) := (blk_cell BK167.out 0).trans rfl; have hcz6_1 : w5.cell? ⟨gb167, 1, none⟩ = some (.int .i64 a0_1) := (blk_cell BK167.out 1).trans rfl; have hcz6_2 : w5.cell? ⟨gb167, 2, none⟩ = some (.int .i64 a0_2) := (blk_cell BK167.out 2).trans rfl; have hcz6_3 : w5.cell? ⟨gb167, 3, none⟩ = some (.int .i64 a0_3) := (blk_cell BK167.out 3).trans rfl; have hcz6_4 : w5.cell? ⟨gb167, 4, none⟩ = some (.int .i64 a0_4) := (blk_cell BK167.out 4).trans rfl; have hcz6_5 : w5.cell? ⟨gb167, 5, none⟩ = some (.int .i64 a0_5) := (blk_cell BK167.out 5).trans rfl; have hfz6_0 := blk_frozen BK167.out 0; have hfz6_1 := blk_frozen BK167.out 1; have hfz6_2 := blk_frozen BK167.out 2; have hfz6_3 := blk_frozen BK167.out 3; have hfz6_4 := blk_frozen BK167.out 4; have hfz6_5 := blk_frozen BK167.out 5) | ((with_reducible refine gate_callee (f := 15) rfl ?_); refine goesL_ (some 13) rfl rfl Try.func15 (by kernel_rfl) rfl #[.agg #[.string a0_0, .int .i64 a0_1, .int .i64 a0_2, .int .i64 a0_3, .int .i64 a0_4, .int .i64 a0_5], .int .i64 a1] rfl (by (try simp only [List.map_toArray, List.map_cons, List.map_nil]); first | done | rfl | (simp only [List.length_drop, List.length_take]; rfl)) ?_; (with_reducible refine (asset_Value.calls k a0_0 a0_1 a0_2 a0_3 a0_4 a0_5 a1 t168 t169 _ A4.out).mono ?_); rintro e w7 ⟨rfl, hb⟩; refine ⟨_, rfl, ?_⟩; have n0_ := Aside0.mk (blk_below (g := gb167) (o := .cells #[.string a0_0, .int .i64 a0_1, .int .i64 a0_2, .int .i64 a0_3, .int .i64 a0_4, .int .i64 a0_5] 23 (0, 0)) (by (with_reducible repeat (first | refine blk_drewN ?_ _ | refine blk_drew ?_ | refine blk_alloc ?_ _)); exact BK167.out) hb); have n1_ := Aside0.mk (below_step (by repeat (first | (with_reducible first | exact HB.out | apply below_alloc | apply pw_below_drewN | apply below_drew1 | refine below_set ?_ GE167.out) | exact HB.out)) hb); clear BK167; clear HB; have BK167 := n0_; have HB := n1_; clear n0_ n1_; (try clear hb); (try clear hb2); (try clear hk); (try clear hi)))
  (try simp only [Act.put, List.setIfInBounds_toArray, List.set_cons_zero, List.set_cons_succ])
  by_cases c8 : t169 = 0
  · rw [if_pos c8] at H
    have c8b0 : (t169 == 0) = true := beq_iff_eq.mpr c8
    have c8b1 : (t169 != 0) = false := bne_eq_false_iff_eq.mpr c8
    clear c8
    (try simp only [c8b0, c8b1])
    replace H := Option.bind_eq_some_iff.mp H
    obtain ⟨⟨t170, t171⟩, A90, H⟩ := H
    replace H : (if t171 = 0 then ((cents_MulDiv.f t170 (wrap64 (1000 - a0_4)) 1000 3).bind fun bt172 => (some (bt172.1, bt172.2))) else (some (0, t171))) = some (r1, r2) := H
    have A9 := Aside0.mk A90
    clear A90
    have hcz10_0 : w7.cell? ⟨gb167, 0, none⟩ = some (.string a0_0) := (blk_cell BK167.out 0).trans rfl
    have hcz10_1 : w7.cell? ⟨gb167, 1, none⟩ = some (.int .i64 a0_1) := (blk_cell BK167.out 1).trans rfl
    have hcz10_2 : w7.cell? ⟨gb167, 2, none⟩ = some (.int .i64 a0_2) := (blk_cell BK167.out 2).trans rfl
    have hcz10_3 : w7.cell? ⟨gb167, 3, none⟩ = some (.int .i64 a0_3) := (blk_cell BK167.out 3).trans rfl
    have hcz10_4 : w7.cell? ⟨gb167, 4, none⟩ = some (.int .i64 a0_4) := (blk_cell BK167.out 4).trans rfl
    have hcz10_5 : w7.cell? ⟨gb167, 5, none⟩ = some (.int .i64 a0_5) := (blk_cell BK167.out 5).trans rfl
    have hfz10_0 := blk_frozen BK167.out 0
    have hfz10_1 := blk_frozen BK167.out 1
    have hfz10_2 := blk_frozen BK167.out 2
    have hfz10_3 := blk_frozen BK167.out 3
    have hfz10_4 := blk_frozen BK167.out 4
    have hfz10_5 := blk_frozen BK167.out 5
    go_upto_if 28 with (first | ((with_reducible refine gate_callee (f := 54) rfl ?_); refine goesL_ (some 24) rfl rfl Try.func54 (by kernel_rfl) rfl #[.slice A2 l2.length c2, .int .i64 t168, .int .i64 a0_2, .int .i64 3] rfl (by (try simp only [List.map_toArray, List.map_cons, List.map_nil]); first | done | rfl | (simp only [List.length_drop, List.length_take]; rfl)) ?_; (with_reducible refine (rate_Base.calls k _ _ l2 t168 a0_2 3 t170 t171 _ ?side1 ?side2 A9.out).mono ?_); (case side1 => repeat (first | exact (Kd.C_below HR2.out HB.out) | (with_reducible refine Kd.C_alloc ?_ _) | (with_reducible refine Kd.C_drewN ?_ _) | (with_reducible refine Kd.C_drew ?_))); (case side2 => exact HC2.out); rintro e w11 ⟨rfl, hb⟩; refine ⟨_, rfl, ?_⟩; have n0_ := Aside0.mk (blk_below (g := gb167) (o := .cells #[.string a0_0, .int .i64 a0_1, .int .i64 a0_2, .int .i64 a0_3, .int .i64 a0_4, .int .i64 a0_5] 23 (0, 0)) (by (with_reducible repeat (first | refine blk_drewN ?_ _ | refine blk_drew ?_ | refine blk_alloc ?_ _)); exact BK167.out) hb); have n1_ := Aside0.mk (below_step (by repeat (first | (with_reducible first | exact HB.out | apply below_alloc | apply pw_below_drewN | apply below_drew1 | refine below_set ?_ GE167.out) | exact HB.out)) hb); clear BK167; clear HB; have BK167 := n0_; have HB := n1_; clear n0_ n1_; (try clear hb); (try clear hb2); (try clear hk); (try clear hi)))
    (try simp only [Act.put, List.setIfInBounds_toArray, List.set_cons_zero, List.set_cons_succ])
    by_cases c12 : t171 = 0
    · rw [if_pos c12] at H
      have c12b0 : (t171 == 0) = true := beq_iff_eq.mpr c12
      have c12b1 : (t171 != 0) = false := bne_eq_false_iff_eq.mpr c12
      clear c12
      (try simp only [c12b0, c12b1])
      replace H := Option.bind_eq_some_iff.mp H
      obtain ⟨⟨t172, t173⟩, A130, H⟩ := H
      replace H : (some (t172, t173)) = some (r1, r2) := H
      have A13 := Aside0.mk A130
      clear A130
      simp only [Option.some.injEq, Prod.mk.injEq] at H
      obtain ⟨rfl, rfl⟩ := H
      have hcz14_0 : w11.cell? ⟨gb167, 0, none⟩ = some (.string a0_0) := (blk_cell BK167.out 0).trans rfl
      have hcz14_1 : w11.cell? ⟨gb167, 1, none⟩ = some (.int .i64 a0_1) := (blk_cell BK167.out 1).trans rfl
      have hcz14_2 : w11.cell? ⟨gb167, 2, none⟩ = some (.int .i64 a0_2) := (blk_cell BK167.out 2).trans rfl
      have hcz14_3 : w11.cell? ⟨gb167, 3, none⟩ = some (.int .i64 a0_3) := (blk_cell BK167.out 3).trans rfl
      have hcz14_4 : w11.cell? ⟨gb167, 4, none⟩ = some (.int .i64 a0_4) := (blk_cell BK167.out 4).trans rfl
      have hcz14_5 : w11.cell? ⟨gb167, 5, none⟩ = some (.int .i64 a0_5) := (blk_cell BK167.out 5).trans rfl
      have hfz14_0 := blk_frozen BK167.out 0
      have hfz14_1 := blk_frozen BK167.out 1
      have hfz14_2 := blk_frozen BK167.out 2
      have hfz14_3 := blk_frozen BK167.out 3
      have hfz14_4 := blk_frozen BK167.out 4
      have hfz14_5 := blk_frozen BK167.out 5
      go_wp2_with (first | ((with_reducible refine gate_callee (f := 55) rfl ?_); refine goesL_ (some 34) rfl rfl Try.func55 (by kernel_rfl) rfl #[.int .i64 t170, .int .i64 (wrap64 (1000 - a0_4)), .int .i64 1000, .int .i64 3] rfl (by (try simp only [List.map_toArray, List.map_cons, List.map_nil]); first | done | rfl | (simp only [List.length_drop, List.length_take]; rfl)) ?_; (with_reducible refine (cents_MulDiv.calls t170 (wrap64 (1000 - a0_4)) 1000 3 t172 t173 _ A13.out).mono ?_); rintro e w15 ⟨rfl, hb⟩; refine ⟨_, rfl, ?_⟩; have n0_ := Aside0.mk (blk_below (g := gb167) (o := .cells #[.string a0_0, .int .i64 a0_1, .int .i64 a0_2, .int .i64 a0_3, .int .i64 a0_4, .int .i64 a0_5] 23 (0, 0)) (by (with_reducible repeat (first | refine blk_drewN ?_ _ | refine blk_drew ?_ | refine blk_alloc ?_ _)); exact BK167.out) hb); have n1_ := Aside0.mk (below_step (by repeat (first | (with_reducible first | exact HB.out | apply below_alloc | apply pw_below_drewN | apply below_drew1 | refine below_set ?_ GE167.out) | exact HB.out)) hb); clear BK167; clear HB; have BK167 := n0_; have HB := n1_; clear n0_ n1_; (try clear hb); (try clear hb2); (try clear hk); (try clear hi)))
      go_ret2
      exact ⟨by first | rfl | (simp [errW_none, errW_some] <;> rfl) | (simp [*, errW_none, errW_some] <;> rfl), by repeat (first | (with_reducible first | exact HB.out | apply below_alloc | apply pw_below_drewN | apply below_drew1 | refine below_set ?_ GE167.out) | exact HB.out)⟩
    · rw [if_neg c12] at H
      have c12b0 : (t171 == 0) = false := beq_eq_false_iff_ne.mpr c12
      have c12b1 : (t171 != 0) = true := bne_iff_ne.mpr c12
      (try simp only [c12b0, c12b1])
      simp only [Option.some.injEq, Prod.mk.injEq] at H
      obtain ⟨rfl, rfl⟩ := H
      go_wp2
      go_ret2
      exact ⟨by first | rfl | (simp [errW_none, errW_some] <;> rfl) | (simp [*, errW_none, errW_some] <;> rfl), by repeat (first | (with_reducible first | exact HB.out | apply below_alloc | apply pw_below_drewN | apply below_drew1 | refine below_set ?_ GE167.out) | exact HB.out)⟩
  · rw [if_neg c8] at H
    have c8b0 : (t169 == 0) = false := beq_eq_false_iff_ne.mpr c8
    have c8b1 : (t169 != 0) = true := bne_iff_ne.mpr c8
    (try simp only [c8b0, c8b1])
    simp only [Option.some.injEq, Prod.mk.injEq] at H
    obtain ⟨rfl, rfl⟩ := H
    go_wp2
    go_ret2
    exact ⟨by first | rfl | (simp [errW_none, errW_some] <;> rfl) | (simp [*, errW_none, errW_some] <;> rfl), by repeat (first | (with_reducible first | exact HB.out | apply below_alloc | apply pw_below_drewN | apply below_drew1 | refine below_set ?_ GE167.out) | exact HB.out)⟩
set_option maxHeartbeats 8000000 in
set_option maxRecDepth 100000 in
theorem asset_Units_1.calls (k : Nat) (ba br bn : Nat) (s : ByteArray) (a1 a2 a3 a4 a5 n qty m e : Int) (A : Option Addr) (c : Nat) (l : List S94) (w : World)
    (ha : Aside0 (w.heap[ba]? = some (.cells #[.string s, .int .i64 a1, .int .i64 a2, .int .i64 a3, .int .i64 a4, .int .i64 a5] 23 (0, 0)))) (hr : Aside0 (w.heap[br]? = some (.cells #[.slice A l.length c] 24 (0, 0)))) (hn : Aside0 (w.heap[bn]? = some (.cells #[.int .i64 n] 3 (0, 0))))
    (hC : Aside0 (Kd.C k94 w A l.length l)) (hc : Aside0 (l.length ≤ c)) (hw : Aside0 (asset_Worth.f k s a1 a2 a3 a4 a5 qty l = some (m, e))) :
    Calls Try.prog 59 #[.int .i64 qty, .pointer (some ⟨ba, 0, none⟩), .pointer (some ⟨br, 0, none⟩), .pointer (some ⟨bn, 0, none⟩)] w fun en w' => en = .returned (.bool (decide (e ≠ 0) || decide (n ≤ m))) ∧ Below w.heap.size w w' := by
  have hu23 := Try.underlying23
  have la : ba < w.heap.size := blk_lt ha.out
  have lr : br < w.heap.size := blk_lt hr.out
  have ln : bn < w.heap.size := blk_lt hn.out
  have c0' : w.cell? ⟨ba, 0, none⟩ = some (.string s) := (blk_cell ha.out 0).trans rfl
  have c1' : w.cell? ⟨ba, 1, none⟩ = some (.int .i64 a1) := (blk_cell ha.out 1).trans rfl
  have c2' : w.cell? ⟨ba, 2, none⟩ = some (.int .i64 a2) := (blk_cell ha.out 2).trans rfl
  have c3' : w.cell? ⟨ba, 3, none⟩ = some (.int .i64 a3) := (blk_cell ha.out 3).trans rfl
  have c4' : w.cell? ⟨ba, 4, none⟩ = some (.int .i64 a4) := (blk_cell ha.out 4).trans rfl
  have c5' : w.cell? ⟨ba, 5, none⟩ = some (.int .i64 a5) := (blk_cell ha.out 5).trans rfl
  have cr' : w.cell? ⟨br, 0, none⟩ = some (.slice A l.length c) := (blk_cell hr.out 0).trans rfl
  go_enter Try.func59, Try.ntmps59
  go_wp2_with fail
  refine (asset_Worth.calls k s a1 a2 a3 a4 a5 qty A c l m e _ (Kd.C_below hC.out ?_) hc.out hw.out).mono ?_
  · repeat (first | exact Below.refl _ _ | apply below_alloc | apply pw_below_drewN | apply below_drew)
  rintro en w1 ⟨rfl, hb⟩
  have HB := Aside0.mk (below_then (by repeat (first | exact Below.refl _ _ | apply below_alloc | apply pw_below_drewN | apply below_drew)) (Nat.le_refl _) hb)
  have hnn := (hb.block bn (by first | omega | (simp; omega))).trans (by first | exact hn.out | (simp; exact hn.out))
  have cn' : w1.cell? ⟨bn, 0, none⟩ = some (.int .i64 n) := (blk_cell hnn 0).trans rfl
  have ln1 : bn < w1.heap.size := blk_lt hnn
  clear hb hnn
  by_cases he : e = 0
  · subst he
    by_cases hm : n ≤ m
    · go_wp2
      go_ret
      exact ⟨by simp [hm], by repeat (first | exact HB.out | apply below_alloc | apply pw_below_drewN | apply below_drew)⟩
    · have hm' : m < n := by omega
      go_wp2
      go_ret
      exact ⟨by simp [hm], by repeat (first | exact HB.out | apply below_alloc | apply pw_below_drewN | apply below_drew)⟩
  · go_wp2
    go_ret
    exact ⟨by simp [he], by repeat (first | exact HB.out | apply below_alloc | apply pw_below_drewN | apply below_drew)⟩
def asset_Units.l0 : Nat → ByteArray → Int → Int → Int → Int → Int → Int → List S94 → Int → Int → Option Int
  | 0, _, _, _, _, _, _, _, _, _, _ => none
  | k + 1, s, a1, a2, a3, a4, a5, n, l, lo, hi => if lo < hi then (asset_Worth.f k s a1 a2 a3 a4 a5 (wrap64 (lo + (wrap64 (Int.tdiv (wrap64 (hi - lo)) 2)))) l).bind fun t => if t.2 ≠ 0 ∨ n ≤ t.1 then asset_Units.l0 k s a1 a2 a3 a4 a5 n l lo (wrap64 (lo + (wrap64 (Int.tdiv (wrap64 (hi - lo)) 2)))) else asset_Units.l0 k s a1 a2 a3 a4 a5 n l (wrap64 ((wrap64 (lo + (wrap64 (Int.tdiv (wrap64 (hi - lo)) 2)))) + 1)) hi else some lo
theorem asset_Units.mono_l : ∀ k s a1 a2 a3 a4 a5 n l lo hi, LeO (asset_Units.l0 k s a1 a2 a3 a4 a5 n l lo hi) (asset_Units.l0 (k + 1) s a1 a2 a3 a4 a5 n l lo hi)
  | 0 => fun _ _ _ _ _ _ _ _ _ _ r h => by simp [asset_Units.l0] at h
  | k + 1 => by
    intro s a1 a2 a3 a4 a5 n l lo hi
    have ih := asset_Units.mono_l k
    rw [asset_Units.l0, asset_Units.l0]
    refine LeO.ite (LeO.bind (asset_Worth.mono _ _ _ _ _ _ _ _ _) fun _ => LeO.ite (ih _ _ _ _ _ _ _ _ _ _) (ih _ _ _ _ _ _ _ _ _ _)) (LeO.refl _)
def asset_Units.f (k : Nat) (s : ByteArray) (a1 a2 a3 a4 a5 n : Int) (l : List S94) : Option (Int × Int) :=
  (asset_Check.f k s a1 a2 a3 a4 a5).bind fun t => if t = 0 then
    (rate_Check.f k l).bind fun u => if u = 0 then
      if a2 ≥ (l.length : Int) then some (0, 25) else
        (asset_money.f n).bind fun b => if b = true then
          if a4 = 1000 then some (0, 4) else
            (asset_Units.l0 k s a1 a2 a3 a4 a5 n l 0 1152921504606846976).bind fun low => (asset_Worth.f k s a1 a2 a3 a4 a5 low l).bind fun t => if t.2 ≠ 0 ∨ t.1 < n then some (0, 3) else some (low, 0)
        else some (0, 2)
    else some (0, u)
  else some (0, t)
theorem asset_Units.mono : ∀ s a1 a2 a3 a4 a5 n l k, LeO (asset_Units.f k s a1 a2 a3 a4 a5 n l) (asset_Units.f (k + 1) s a1 a2 a3 a4 a5 n l) := by
  intro s a1 a2 a3 a4 a5 n l k
  unfold asset_Units.f
  refine LeO.bind (asset_Check.mono _ _ _ _ _ _ _) fun _ => LeO.ite (LeO.bind (rate_Check.mono _ _) fun _ => LeO.ite (LeO.ite (LeO.refl _) (LeO.bind (LeO.refl _) fun _ => LeO.ite (LeO.ite (LeO.refl _) (LeO.bind (asset_Units.mono_l _ _ _ _ _ _ _ _ _ _ _) fun _ => LeO.bind (asset_Worth.mono _ _ _ _ _ _ _ _ _) fun _ => LeO.refl _)) (LeO.refl _))) (LeO.refl _)) (LeO.refl _)
set_option maxHeartbeats 8000000 in
set_option maxRecDepth 100000 in
theorem asset_Units.calls (k : Nat) (s : ByteArray) (a1 a2 a3 a4 a5 n : Int) (A2 : Option Addr) (c2 : Nat) (l2 : List S94) (r1 r2 : Int) (w : World) (hr2 : Kd.C k94 w A2 l2.length l2) (hc2 : l2.length ≤ c2) (h : asset_Units.f k s a1 a2 a3 a4 a5 n l2 = some (r1, r2)) :
    Calls Try.prog 20 #[.agg #[.string s, .int .i64 a1, .int .i64 a2, .int .i64 a3, .int .i64 a4, .int .i64 a5], .int .i64 n, .slice A2 l2.length c2] w fun e w' => e = .returned (.tuple #[.int .i64 r1, .int .i64 r2]) ∧ Below w.heap.size w w' := by
  have hu23 := Try.underlying23
  have HR := Aside0.mk hr2
  have HC := Aside0.mk hc2
  clear hr2 hc2
  obtain ⟨t, ht, h⟩ := Option.bind_eq_some_iff.1 h
  have HT := Aside0.mk ht
  clear ht
  go_enter Try.func20, Try.ntmps20
  go_wp2_with fail
  refine (asset_Check.calls k s a1 a2 a3 a4 a5 t _ HT.out).mono ?_
  rintro e w1 ⟨rfl, hb⟩
  have HA := Aside0.mk (show w1.heap[w.heap.size]? = some (.cells #[.string s, .int .i64 a1, .int .i64 a2, .int .i64 a3, .int .i64 a4, .int .i64 a5] 23 (0, 0)) from (hb.block _ (by first | (simp; done) | (simp; omega) | omega)).trans (blk_alloc (blk_alloc (heap_alloc_new w _) _) _))
  have HN := Aside0.mk (show w1.heap[w.heap.size + 1]? = some (.cells #[.int .i64 n] 3 (0, 0)) from (hb.block _ (by first | (simp; done) | (simp; omega) | omega)).trans (blk_alloc (by simpa using heap_alloc_new (w.alloc (.cells #[.string s, .int .i64 a1, .int .i64 a2, .int .i64 a3, .int .i64 a4, .int .i64 a5] 23 (0, 0))) (.cells #[.int .i64 n] 3 (0, 0))) _))
  have HS := Aside0.mk (show w1.heap[w.heap.size + 2]? = some (.cells #[.slice A2 l2.length c2] 24 (0, 0)) from (hb.block _ (by first | (simp; done) | (simp; omega) | omega)).trans (by simpa using heap_alloc_new ((w.alloc (.cells #[.string s, .int .i64 a1, .int .i64 a2, .int .i64 a3, .int .i64 a4, .int .i64 a5] 23 (0, 0))).alloc (.cells #[.int .i64 n] 3 (0, 0))) (.cells #[.slice A2 l2.length c2] 24 (0, 0))))
  have HB := Aside0.mk ((below_alloc (below_alloc (below_alloc (Below.refl w.heap.size w) _) _) _).trans (hb.mono (by first | (simp; done) | (simp; omega) | omega)))
  clear hb
  by_cases ht0 : t = 0
  · subst ht0
    simp only [if_true] at h
    obtain ⟨u, hu, h⟩ := Option.bind_eq_some_iff.1 h
    have HU := Aside0.mk hu
    clear hu
    have ls1 : w.heap.size + 2 < w1.heap.size := blk_lt HS.out
    have cs1 : w1.cell? ⟨w.heap.size + 2, 0, none⟩ = some (.slice A2 l2.length c2) := (blk_cell HS.out 0).trans rfl
    go_wp2_with fail
    refine (rate_Check.calls k A2 c2 l2 u _ (Kd.C_below HR.out ?_) HC.out HU.out).mono ?_
    · repeat (first | exact HB.out | apply below_alloc | apply pw_below_drewN | apply below_drew)
    rintro e w2 ⟨rfl, hb⟩
    have hA := (hb.block w.heap.size (by first | omega | (simp; omega))).trans (by first | exact HA.out | (simp; exact HA.out))
    have hN := (hb.block (w.heap.size + 1) (by first | omega | (simp; omega))).trans (by first | exact HN.out | (simp; exact HN.out))
    have hS := (hb.block (w.heap.size + 2) (by first | omega | (simp; omega))).trans (by first | exact HS.out | (simp; exact HS.out))
    have hB := HB.out.trans (hb.mono (by omega))
    clear HA HN HS HB hb ls1 cs1
    have HA := Aside0.mk hA
    have HN := Aside0.mk hN
    have HS := Aside0.mk hS
    have HB := Aside0.mk hB
    clear hA hN hS hB
    by_cases hu0 : u = 0
    · subst hu0
      simp only [if_true] at h
      have ls : w.heap.size + 2 < w2.heap.size := blk_lt HS.out
      have cs' : w2.cell? ⟨w.heap.size + 2, 0, none⟩ = some (.slice A2 l2.length c2) := (blk_cell HS.out 0).trans rfl
      have ln : w.heap.size + 1 < w2.heap.size := by omega
      have cn' : w2.cell? ⟨w.heap.size + 1, 0, none⟩ = some (.int .i64 n) := (blk_cell HN.out 0).trans rfl
      have la : w.heap.size < w2.heap.size := by omega
      have c2' : w2.cell? ⟨w.heap.size, 2, none⟩ = some (.int .i64 a2) := (blk_cell HA.out 2).trans rfl
      have c4' : w2.cell? ⟨w.heap.size, 4, none⟩ = some (.int .i64 a4) := (blk_cell HA.out 4).trans rfl
      by_cases hcu : a2 ≥ (l2.length : Int)
      · rw [if_pos hcu] at h
        obtain ⟨rfl, rfl⟩ : (0 : Int) = r1 ∧ (25 : Int) = r2 := by simpa using h
        have hcu' : (l2.length : Int) ≤ a2 := hcu
        go_wp2
        go_ret2
        exact ⟨rfl, by repeat (first | exact HB.out | apply below_alloc | apply pw_below_drewN | apply below_drew)⟩
      · rw [if_neg hcu] at h
        have hcu' : a2 < (l2.length : Int) := by omega
        obtain ⟨b, hb, h⟩ := Option.bind_eq_some_iff.1 h
        have HM := Aside0.mk hb
        clear hb
        cases b with
        | false =>
          obtain ⟨rfl, rfl⟩ : (0 : Int) = r1 ∧ (2 : Int) = r2 := by simpa using h
          go_wp2_with (first | (go_at_call 50; (with_reducible refine (asset_money.calls n _ _ HM.out).mono ?_); rintro e w' ⟨rfl, ⟨nd, rfl⟩⟩))
          go_ret2
          exact ⟨rfl, by repeat (first | exact HB.out | apply below_alloc | apply pw_below_drewN | apply below_drew)⟩
        | true =>
          simp only [if_true] at h
          by_cases h4 : a4 = 1000
          · rw [if_pos h4] at h
            obtain ⟨rfl, rfl⟩ : (0 : Int) = r1 ∧ (4 : Int) = r2 := by simpa using h
            have h4b : (a4 == 1000) = true := beq_iff_eq.2 h4
            go_wp2_with (first | (go_at_call 50; (with_reducible refine (asset_money.calls n _ _ HM.out).mono ?_); rintro e w' ⟨rfl, ⟨nd, rfl⟩⟩))
            go_ret2
            exact ⟨rfl, by repeat (first | exact HB.out | apply below_alloc | apply pw_below_drewN | apply below_drew)⟩
          · rw [if_neg h4] at h
            have h4b : (a4 == 1000) = false := beq_eq_false_iff_ne.2 h4
            obtain ⟨low, hlow, h⟩ := Option.bind_eq_some_iff.1 h
            have H' := Aside0.mk hlow
            clear hlow
            obtain ⟨⟨m1, m2⟩, hm, h⟩ := Option.bind_eq_some_iff.1 h
            have HE := Aside0.mk hm
            have HZ := Aside0.mk h
            clear hm h
            go_wp2_with (first | (go_at_call 50; (with_reducible refine (asset_money.calls n _ _ HM.out).mono ?_); rintro e w' ⟨rfl, ⟨nd, rfl⟩⟩))
            go_loopg [11, 12] k (fun kq v11 v12 w' => ∃ (lo hi : Int), v11 = .int .i64 lo ∧ v12 = .int .i64 hi ∧ Aside0 (asset_Units.l0 kq s a1 a2 a3 a4 a5 n l2 lo hi = some low) ∧ Aside0 (kq ≤ k) ∧ Aside0 (w'.heap[w.heap.size]? = some (.cells #[.string s, .int .i64 a1, .int .i64 a2, .int .i64 a3, .int .i64 a4, .int .i64 a5] 23 (0, 0))) ∧ Aside0 (w'.heap[w.heap.size + 1]? = some (.cells #[.int .i64 n] 3 (0, 0))) ∧ Aside0 (w'.heap[w.heap.size + 2]? = some (.cells #[.slice A2 l2.length c2] 24 (0, 0))) ∧ Aside0 (Below w.heap.size w w'))
            case atStart => exact ⟨0, 1152921504606846976, rfl, rfl, H', ⟨Nat.le_refl _⟩, ⟨by (with_reducible repeat (first | refine blk_drewN ?_ _ | refine blk_drew ?_ | refine blk_alloc ?_ _)); exact HA.out⟩, ⟨by (with_reducible repeat (first | refine blk_drewN ?_ _ | refine blk_drew ?_ | refine blk_alloc ?_ _)); exact HN.out⟩, ⟨by (with_reducible repeat (first | refine blk_drewN ?_ _ | refine blk_drew ?_ | refine blk_alloc ?_ _)); exact HS.out⟩, ⟨by repeat (first | exact HB.out | apply below_alloc | apply pw_below_drewN | apply below_drew)⟩⟩
            case round =>
              clear H' HA HN HS HB ls cs' ln cn' la c2' c4'
              obtain ⟨lo, hi, rfl, rfl, HL, HK1, HA, HN, HS, HB⟩ := hrel
              have ls : w.heap.size + 2 < wr.heap.size := blk_lt HS.out
              cases gk with
              | zero => exact absurd HL.out (by simp [asset_Units.l0])
              | succ k1 =>
                have H := HL.out
                clear HL
                simp only [asset_Units.l0] at H
                by_cases c3 : lo < hi
                · rw [if_pos c3] at H
                  have c3b0 : decide (lo < hi) = true := decide_eq_true c3
                  obtain ⟨md, hmd⟩ : ∃ j : Int, wrap64 (lo + (wrap64 (Int.tdiv (wrap64 (hi - lo)) 2))) = j := ⟨_, rfl⟩
                  rw [hmd] at H
                  obtain ⟨⟨t1, t2⟩, hT, H⟩ := Option.bind_eq_some_iff.1 H
                  have HW := Aside0.mk hT
                  have hmdw : IntKind.i64.wrap (lo + (wrap64 (Int.tdiv (wrap64 (hi - lo)) 2))) = md := (i64_w _).trans hmd
                  clear hT
                  by_cases ct : t2 ≠ 0 ∨ n ≤ t1
                  · rw [if_pos ct] at H
                    have H' := Aside0.mk H
                    clear H
                    have hbv : (decide (t2 ≠ 0) || decide (n ≤ t1)) = true := by simpa using ct
                    go_wp2_with (first | (go_at_call 59; refine (asset_Units_1.calls k1 w.heap.size (w.heap.size + 2) (w.heap.size + 1) s a1 a2 a3 a4 a5 n md t1 t2 A2 c2 l2 _ ⟨by (with_reducible repeat (first | refine blk_drewN ?_ _ | refine blk_drew ?_ | refine blk_alloc ?_ _)); exact HA.out⟩ ⟨by (with_reducible repeat (first | refine blk_drewN ?_ _ | refine blk_drew ?_ | refine blk_alloc ?_ _)); exact HS.out⟩ ⟨by (with_reducible repeat (first | refine blk_drewN ?_ _ | refine blk_drew ?_ | refine blk_alloc ?_ _)); exact HN.out⟩ ⟨Kd.C_below HR.out (by repeat (first | exact HB.out | apply below_alloc | apply pw_below_drewN | apply below_drew))⟩ HC HW).mono ?_; rintro en wx ⟨hen, hb⟩; rw [hbv] at hen; subst hen; have hA := (hb.block w.heap.size (by first | (simp; done) | (simp; omega) | omega)).trans (by first | exact HA.out | (simp; exact HA.out)); have hN := (hb.block (w.heap.size + 1) (by first | (simp; done) | (simp; omega) | omega)).trans (by first | exact HN.out | (simp; exact HN.out)); have hS := (hb.block (w.heap.size + 2) (by first | (simp; done) | (simp; omega) | omega)).trans (by first | exact HS.out | (simp; exact HS.out)); have hB := below_then (by repeat (first | exact HB.out | apply below_alloc | apply pw_below_drewN | apply below_drew)) (by first | (simp; done) | (simp; omega) | omega) hb; clear HA HN HS HB hb; have HA := Aside0.mk hA; have HN := Aside0.mk hN; have HS := Aside0.mk hS; have HB := Aside0.mk hB; clear hA hN hS hB))
                    go_roundg k1
                    case measure => have := HK1.out; omega
                    case rel => exact ⟨lo, md, (by first | rfl | (simp; done) | (simp [*]; done)), (by first | rfl | (simp; done) | (simp [*]; done)), H', ⟨by have := HK1.out; omega⟩, ⟨by (with_reducible repeat (first | refine blk_drewN ?_ _ | refine blk_drew ?_ | refine blk_alloc ?_ _)); exact HA.out⟩, ⟨by (with_reducible repeat (first | refine blk_drewN ?_ _ | refine blk_drew ?_ | refine blk_alloc ?_ _)); exact HN.out⟩, ⟨by (with_reducible repeat (first | refine blk_drewN ?_ _ | refine blk_drew ?_ | refine blk_alloc ?_ _)); exact HS.out⟩, ⟨by repeat (first | exact HB.out | apply below_alloc | apply pw_below_drewN | apply below_drew)⟩⟩
                  · rw [if_neg ct] at H
                    have H' := Aside0.mk H
                    clear H
                    have hbv : (decide (t2 ≠ 0) || decide (n ≤ t1)) = false := by
                      have := not_or.1 ct
                      simp only [Bool.or_eq_false_iff, decide_eq_false_iff_not]
                      exact this
                    go_wp2_with (first | (go_at_call 59; refine (asset_Units_1.calls k1 w.heap.size (w.heap.size + 2) (w.heap.size + 1) s a1 a2 a3 a4 a5 n md t1 t2 A2 c2 l2 _ ⟨by (with_reducible repeat (first | refine blk_drewN ?_ _ | refine blk_drew ?_ | refine blk_alloc ?_ _)); exact HA.out⟩ ⟨by (with_reducible repeat (first | refine blk_drewN ?_ _ | refine blk_drew ?_ | refine blk_alloc ?_ _)); exact HS.out⟩ ⟨by (with_reducible repeat (first | refine blk_drewN ?_ _ | refine blk_drew ?_ | refine blk_alloc ?_ _)); exact HN.out⟩ ⟨Kd.C_below HR.out (by repeat (first | exact HB.out | apply below_alloc | apply pw_below_drewN | apply below_drew))⟩ HC HW).mono ?_; rintro en wx ⟨hen, hb⟩; rw [hbv] at hen; subst hen; have hA := (hb.block w.heap.size (by first | (simp; done) | (simp; omega) | omega)).trans (by first | exact HA.out | (simp; exact HA.out)); have hN := (hb.block (w.heap.size + 1) (by first | (simp; done) | (simp; omega) | omega)).trans (by first | exact HN.out | (simp; exact HN.out)); have hS := (hb.block (w.heap.size + 2) (by first | (simp; done) | (simp; omega) | omega)).trans (by first | exact HS.out | (simp; exact HS.out)); have hB := below_then (by repeat (first | exact HB.out | apply below_alloc | apply pw_below_drewN | apply below_drew)) (by first | (simp; done) | (simp; omega) | omega) hb; clear HA HN HS HB hb; have HA := Aside0.mk hA; have HN := Aside0.mk hN; have HS := Aside0.mk hS; have HB := Aside0.mk hB; clear hA hN hS hB))
                    go_roundg k1
                    case measure => have := HK1.out; omega
                    case rel => exact ⟨wrap64 (md + 1), hi, (by first | rfl | (simp; done) | (simp [*]; done)), (by first | rfl | (simp; done) | (simp [*]; done)), H', ⟨by have := HK1.out; omega⟩, ⟨by (with_reducible repeat (first | refine blk_drewN ?_ _ | refine blk_drew ?_ | refine blk_alloc ?_ _)); exact HA.out⟩, ⟨by (with_reducible repeat (first | refine blk_drewN ?_ _ | refine blk_drew ?_ | refine blk_alloc ?_ _)); exact HN.out⟩, ⟨by (with_reducible repeat (first | refine blk_drewN ?_ _ | refine blk_drew ?_ | refine blk_alloc ?_ _)); exact HS.out⟩, ⟨by repeat (first | exact HB.out | apply below_alloc | apply pw_below_drewN | apply below_drew)⟩⟩
                · rw [if_neg c3] at H
                  have c3b0 : decide (lo < hi) = false := decide_eq_false c3
                  obtain rfl := Option.some.inj H
                  have la : w.heap.size < wr.heap.size := by omega
                  have e0' : wr.cell? ⟨w.heap.size, 0, none⟩ = some (.string s) := (blk_cell HA.out 0).trans rfl
                  have e1' : wr.cell? ⟨w.heap.size, 1, none⟩ = some (.int .i64 a1) := (blk_cell HA.out 1).trans rfl
                  have e2' : wr.cell? ⟨w.heap.size, 2, none⟩ = some (.int .i64 a2) := (blk_cell HA.out 2).trans rfl
                  have e3' : wr.cell? ⟨w.heap.size, 3, none⟩ = some (.int .i64 a3) := (blk_cell HA.out 3).trans rfl
                  have e4' : wr.cell? ⟨w.heap.size, 4, none⟩ = some (.int .i64 a4) := (blk_cell HA.out 4).trans rfl
                  have e5' : wr.cell? ⟨w.heap.size, 5, none⟩ = some (.int .i64 a5) := (blk_cell HA.out 5).trans rfl
                  have es' : wr.cell? ⟨w.heap.size + 2, 0, none⟩ = some (.slice A2 l2.length c2) := (blk_cell HS.out 0).trans rfl
                  have hz := HZ.out
                  clear HZ
                  by_cases z0 : m2 = 0
                  · subst z0
                    by_cases z1 : m1 < n
                    · rw [if_pos (Or.inr z1)] at hz
                      obtain ⟨rfl, rfl⟩ : (0 : Int) = r1 ∧ (3 : Int) = r2 := by simpa using hz
                      go_wp2_with (first | (go_at_call 17; refine (asset_Worth.calls k s a1 a2 a3 a4 a5 lo A2 c2 l2 _ _ _ (Kd.C_below HR.out (by repeat (first | exact HB.out | apply below_alloc | apply pw_below_drewN | apply below_drew))) HC.out HE.out).mono ?_; rintro en wx ⟨rfl, hb⟩; have hN := (hb.block (w.heap.size + 1) (by first | (simp; done) | (simp; omega) | omega)).trans (by first | exact HN.out | (simp; exact HN.out)); have hB := below_then (by repeat (first | exact HB.out | apply below_alloc | apply pw_below_drewN | apply below_drew)) (by first | (simp; done) | (simp; omega) | omega) hb; clear HB hb; have HB := Aside0.mk hB; have lx : w.heap.size + 1 < wx.heap.size := blk_lt hN; have cx' : wx.cell? ⟨w.heap.size + 1, 0, none⟩ = some (.int .i64 n) := (blk_cell hN 0).trans rfl; clear hB hN))
                      go_ret2
                      exact ⟨rfl, by repeat (first | exact HB.out | apply below_alloc | apply pw_below_drewN | apply below_drew)⟩
                    · have z2 : n ≤ m1 := by omega
                      rw [if_neg (by omega)] at hz
                      obtain ⟨rfl, rfl⟩ : lo = r1 ∧ (0 : Int) = r2 := by simpa using hz
                      go_wp2_with (first | (go_at_call 17; refine (asset_Worth.calls k s a1 a2 a3 a4 a5 lo A2 c2 l2 _ _ _ (Kd.C_below HR.out (by repeat (first | exact HB.out | apply below_alloc | apply pw_below_drewN | apply below_drew))) HC.out HE.out).mono ?_; rintro en wx ⟨rfl, hb⟩; have hN := (hb.block (w.heap.size + 1) (by first | (simp; done) | (simp; omega) | omega)).trans (by first | exact HN.out | (simp; exact HN.out)); have hB := below_then (by repeat (first | exact HB.out | apply below_alloc | apply pw_below_drewN | apply below_drew)) (by first | (simp; done) | (simp; omega) | omega) hb; clear HB hb; have HB := Aside0.mk hB; have lx : w.heap.size + 1 < wx.heap.size := blk_lt hN; have cx' : wx.cell? ⟨w.heap.size + 1, 0, none⟩ = some (.int .i64 n) := (blk_cell hN 0).trans rfl; clear hB hN))
                      go_ret2
                      exact ⟨rfl, by repeat (first | exact HB.out | apply below_alloc | apply pw_below_drewN | apply below_drew)⟩
                  · rw [if_pos (Or.inl z0)] at hz
                    obtain ⟨rfl, rfl⟩ : (0 : Int) = r1 ∧ (3 : Int) = r2 := by simpa using hz
                    go_wp2_with (first | (go_at_call 17; refine (asset_Worth.calls k s a1 a2 a3 a4 a5 lo A2 c2 l2 _ _ _ (Kd.C_below HR.out (by repeat (first | exact HB.out | apply below_alloc | apply pw_below_drewN | apply below_drew))) HC.out HE.out).mono ?_; rintro en wx ⟨rfl, hb⟩; have hN := (hb.block (w.heap.size + 1) (by first | (simp; done) | (simp; omega) | omega)).trans (by first | exact HN.out | (simp; exact HN.out)); have hB := below_then (by repeat (first | exact HB.out | apply below_alloc | apply pw_below_drewN | apply below_drew)) (by first | (simp; done) | (simp; omega) | omega) hb; clear HB hb; have HB := Aside0.mk hB; have lx : w.heap.size + 1 < wx.heap.size := blk_lt hN; have cx' : wx.cell? ⟨w.heap.size + 1, 0, none⟩ = some (.int .i64 n) := (blk_cell hN 0).trans rfl; clear hB hN))
                    go_ret2
                    exact ⟨rfl, by repeat (first | exact HB.out | apply below_alloc | apply pw_below_drewN | apply below_drew)⟩
    · rw [if_neg hu0] at h
      obtain ⟨rfl, rfl⟩ : (0 : Int) = r1 ∧ u = r2 := by simpa using h
      go_wp2
      go_ret2
      exact ⟨rfl, by repeat (first | exact HB.out | apply below_alloc | apply pw_below_drewN | apply below_drew)⟩
  · rw [if_neg ht0] at h
    obtain ⟨rfl, rfl⟩ : (0 : Int) = r1 ∧ t = r2 := by simpa using h
    go_wp2
    go_ret2
    exact ⟨rfl, by repeat (first | exact HB.out | apply below_alloc | apply pw_below_drewN | apply below_drew)⟩
def pledge_place_api_Pledge.l0 : Nat → List (S85) → Int → Int → ByteArray → ByteArray → ByteArray → Int → Option (Int × Bool)
  | 0, _, _, _, _, _, _, _ => none
  | k + 1, x0, x8, x9, x431000, x431001, x431002, x431003 => if x8 < x9 then (if 0 ≤ (wrap64 (Int.tdiv (wrap64 (x8 + x9)) 2)) then (if (wrap64 (Int.tdiv (wrap64 (x8 + x9)) 2)) < (x0.length : Int) then ((pledge_compare.f ((rd_T85 x0 (wrap64 (Int.tdiv (wrap64 (x8 + x9)) 2))).f0.f0) ((rd_T85 x0 (wrap64 (Int.tdiv (wrap64 (x8 + x9)) 2))).f0.f1) ((rd_T85 x0 (wrap64 (Int.tdiv (wrap64 (x8 + x9)) 2))).f1) ((rd_T85 x0 (wrap64 (Int.tdiv (wrap64 (x8 + x9)) 2))).f2) x431000 x431001 x431002 x431003).bind fun t432 => (if t432 < 0 then (pledge_place_api_Pledge.l0 k x0 (wrap64 ((wrap64 (Int.tdiv (wrap64 (x8 + x9)) 2)) + 1)) x9 x431000 x431001 x431002 x431003) else (pledge_place_api_Pledge.l0 k x0 x8 (wrap64 (Int.tdiv (wrap64 (x8 + x9)) 2)) x431000 x431001 x431002 x431003))) else (none)) else (none)) else (if x8 < (x0.length : Int) then (if 0 ≤ x8 then ((pledge_compare.f ((rd_T85 x0 x8).f0.f0) ((rd_T85 x0 x8).f0.f1) ((rd_T85 x0 x8).f1) ((rd_T85 x0 x8).f2) x431000 x431001 x431002 x431003).bind fun t434 => (some (x8, (t434 == 0)))) else (none)) else (some (x8, false)))
def pledge_place_api_Pledge.f (k : Nat) (l0 : List (S85)) (a1_0 : ByteArray) (a1_1 : ByteArray) (a1_2 : ByteArray) (a1_3 : Int)  : Option (Int × Bool) := pledge_place_api_Pledge.l0 k l0 0 (l0.length : Int) a1_0 a1_1 a1_2 a1_3
theorem pledge_place_api_Pledge.mono_l : ∀ k, (∀ y0 y1 y2 y3 y4 y5 y6, LeO (pledge_place_api_Pledge.l0 k y0 y1 y2 y3 y4 y5 y6) (pledge_place_api_Pledge.l0 (k + 1) y0 y1 y2 y3 y4 y5 y6))
  | 0 => fun _ _ _ _ _ _ _ r h => by simp [pledge_place_api_Pledge.l0] at h
  | k + 1 => by
    have ih0 := pledge_place_api_Pledge.mono_l k
    · intro y0 y1 y2 y3 y4 y5 y6
      unfold pledge_place_api_Pledge.l0
      repeat' first
      | (with_reducible exact ih0 _ _ _ _ _ _ _)
      | (with_reducible exact LeO.refl _)
      | (with_reducible exact LeO.none _)
      | (with_reducible refine LeO.ite ?_ ?_)
      | (with_reducible refine LeO.bind ?_ (fun _ => ?_))
      | exact ih0 _ _ _ _ _ _ _
      | exact LeO.none _
      | refine LeO.ite ?_ ?_
      | refine LeO.bind ?_ (fun _ => ?_)
theorem pledge_place_api_Pledge.mono : ∀ a0 a1 a2 a3 a4 k, LeO (pledge_place_api_Pledge.f k a0 a1 a2 a3 a4) (pledge_place_api_Pledge.f (k + 1) a0 a1 a2 a3 a4) := by
  intro a0 a1 a2 a3 a4 k
  have ih0 := pledge_place_api_Pledge.mono_l k
  unfold pledge_place_api_Pledge.f
  repeat' first
      | (with_reducible exact ih0 _ _ _ _ _ _ _)
      | (with_reducible exact LeO.refl _)
      | (with_reducible exact LeO.none _)
      | (with_reducible refine LeO.ite ?_ ?_)
      | (with_reducible refine LeO.bind ?_ (fun _ => ?_))
      | exact ih0 _ _ _ _ _ _ _
      | exact LeO.none _
      | refine LeO.ite ?_ ?_
      | refine LeO.bind ?_ (fun _ => ?_)
def pledge_place_api_Pledge.T4 : Bool × List (List Nat × List Nat) := (true, [([], []), ([], []), ([], []), ([1, 2], [1, 2]), ([3], [3]), ([], []), ([0, 4, 5], [0, 4, 5]), ([6], [6])])
def pledge_place_api_Pledge.B4 : List Nat := [0, 0, 0, 6, 14, 0, 63, 127]
theorem pledge_place_api_Pledge.tab4 : rtab .any (opsOf Try.f82 4) = pledge_place_api_Pledge.T4 := by kernel_rfl
theorem pledge_place_api_Pledge.bits4 : waitsOk pledge_place_api_Pledge.T4.2 pledge_place_api_Pledge.B4 = true := by kernel_rfl
def pledge_place_api_Pledge.T7 : Bool × List (List Nat × List Nat) := (true, [([], []), ([], []), ([], []), ([2], [2]), ([1, 3], [1, 3]), ([4], [4]), ([5], [5]), ([5], [5]), ([5], [5]), ([7, 8, 5], [5, 7, 8]), ([9, 5], [5, 9]), ([5], [5]), ([6, 10, 11, 5, 5], [5, 6, 10, 11]), ([12, 5], [5, 12]), ([5, 13], [5, 13]), ([0, 12, 0], [0]), ([14, 15, 0, 1, 2, 3, 4, 5, 6, 7, 8, 9, 10, 11, 12, 13, 14, 15], [14])])
def pledge_place_api_Pledge.B7 : List Nat := [0, 0, 0, 4, 14, 30, 62, 62, 62, 446, 958, 62, 4094, 8190, 16382, 8191, 65535]
theorem pledge_place_api_Pledge.tab7 : rtab .any (opsOf Try.f82 7) = pledge_place_api_Pledge.T7 := by kernel_rfl
theorem pledge_place_api_Pledge.bits7 : waitsOk pledge_place_api_Pledge.T7.2 pledge_place_api_Pledge.B7 = true := by kernel_rfl
set_option maxHeartbeats 8000000 in
set_option maxRecDepth 100000 in
theorem pledge_place_api_Pledge.calls (k : Nat) (A0 : Option Addr) (c0 : Nat) (l0 : List (S85)) (a1_0 : ByteArray) (a1_1 : ByteArray) (a1_2 : ByteArray) (a1_3 : Int)  (r1 : Int) (r2 : Bool) (w : World) (hr0 : Kd.C k85 w A0 l0.length l0) (hc0 : l0.length ≤ c0) (h : pledge_place_api_Pledge.f k l0 a1_0 a1_1 a1_2 a1_3 = some (r1, r2)) :
    Calls Try.prog 82 #[.slice A0 l0.length c0, .agg #[.string a1_0, .string a1_1, .string a1_2, .int .i64 a1_3], .func (.func 83) #[] #[]] w fun e w' => e = .returned (.tuple #[.int .i64 r1, .bool r2]) ∧ Below w.heap.size w w' := by
  have hu85 := Try.underlying85
  have HR0 := Aside0.mk hr0
  have HC0 := Aside0.mk hc0
  clear hr0 hc0
  have HB := Aside0.mk (Below.refl w.heap.size w)
  have H : (pledge_place_api_Pledge.l0 k l0 0 (l0.length : Int) a1_0 a1_1 a1_2 a1_3) = some (r1, r2) := h
  clear h
  have H' := Aside0.mk H
  clear H
  go_enter Try.func82, Try.ntmps82
  go_wp2_with (first | ((with_reducible refine gate_dst (N := 4) rfl ?_); refine box_event ?hg (N := 4) ?hd (cs := #[.string a1_0, .string a1_1, .string a1_2, .int .i64 a1_3]) (t := 85) ?hr ?_; (case hd => rfl); (case hg => rfl); (case hr => first | (go_simp; done) | (go_simp; rfl)); intro gb430 hg w4 hbox hb; have n0_ := Aside0.mk (below_step (by repeat (first | (with_reducible first | exact HB.out | apply below_alloc | apply pw_below_drewN | apply below_drew1) | exact HB.out)) hb); have n1_ := Aside0.mk (hbox); have n2_ := Aside0.mk ((by rw [hg]; exact (below_size (by repeat (first | (with_reducible first | exact HB.out | apply below_alloc | apply pw_below_drewN | apply below_drew1) | exact HB.out))) : w.heap.size ≤ gb430)); have n3_ := Aside0.mk ((by rw [hg]; exact (below_size (by repeat (first | (with_reducible first | exact HB.out | apply below_alloc | apply pw_below_drewN | apply below_drew1) | exact HB.out))) : w.heap.size ≤ gb430)); clear HB; have HB := n0_; have BK430 := n1_; have GW430 := n2_; have GE430 := n3_; clear n0_ n1_ n2_ n3_; clear hb hbox hg))
  go_loopg [8, 9] k (fun kq v8 v9 w' => ∃ (x8_1 : Int) (x9_1 : Int), v8 = .int .i64 x8_1 ∧ v9 = .int .i64 x9_1 ∧ Aside0 (pledge_place_api_Pledge.l0 kq l0 x8_1 x9_1 a1_0 a1_1 a1_2 a1_3 = some (r1, r2)) ∧ Aside0 (kq ≤ k) ∧ Aside0 (w'.heap[gb430]? = some (.cells #[.string a1_0, .string a1_1, .string a1_2, .int .i64 a1_3] 85 (0, 0))) ∧ Aside0 (Below w.heap.size w w'))
  case atStart => exact ⟨(0), ((l0.length : Int)), (by first | rfl | (simp; done) | (simp [*]; done)), (by first | rfl | (simp; done) | (simp [*]; done)), H', ⟨Nat.le_refl _⟩, ⟨by (with_reducible repeat (first | refine blk_drewN ?_ _ | refine blk_drew ?_ | refine blk_alloc ?_ _)); exact BK430.out⟩, ⟨by repeat (first | (with_reducible first | exact HB.out | apply below_alloc | apply pw_below_drewN | apply below_drew1 | refine below_set ?_ GE430.out) | exact HB.out)⟩⟩
  case round =>
    clear H'
    try clear p2
    obtain ⟨x8_1, x9_1, rfl, rfl, HA, HK1, BK430, HB⟩ := hrel
    cases gk with
    | zero => exact absurd HA.out (by simp [pledge_place_api_Pledge.l0])
    | succ k1 =>
      have H := HA.out
      clear HA
      simp only [pledge_place_api_Pledge.l0] at H
      by_cases c5 : x8_1 < x9_1
      · rw [if_pos c5] at H
        have c5b0 : decide (x8_1 < x9_1) = true := decide_eq_true c5
        clear c5
        (try simp only [c5b0])
        obtain ⟨ji6, hji6⟩ : ∃ j_ : Int, (wrap64 (Int.tdiv (wrap64 (x8_1 + x9_1)) 2)) = j_ := ⟨_, rfl⟩
        replace H : (if 0 ≤ (ji6) then (if (ji6) < (l0.length : Int) then ((pledge_compare.f ((rd_T85 l0 (ji6)).f0.f0) ((rd_T85 l0 (ji6)).f0.f1) ((rd_T85 l0 (ji6)).f1) ((rd_T85 l0 (ji6)).f2) a1_0 a1_1 a1_2 a1_3).bind fun t432 => (if t432 < 0 then (pledge_place_api_Pledge.l0 k1 l0 (wrap64 ((ji6) + 1)) x9_1 a1_0 a1_1 a1_2 a1_3) else (pledge_place_api_Pledge.l0 k1 l0 x8_1 ji6 a1_0 a1_1 a1_2 a1_3))) else (none)) else (none)) = some (r1, r2) := by first | (rw [hji6] at H; exact H) | (simp only [hji6] at H ⊢; exact H)
        have hji6w : (IntKind.i64.wrap (Int.tdiv (wrap64 (x8_1 + x9_1)) 2)) = ji6 := (i64_w _).trans hji6
        by_cases c7 : 0 ≤ (ji6)
        · rw [if_pos c7] at H
          have c7b0 : decide (0 ≤ (ji6)) = true := decide_eq_true c7
          clear c7
          by_cases c8 : (ji6) < (l0.length : Int)
          · rw [if_pos c8] at H
            have c8b0 : decide ((ji6) < (l0.length : Int)) = true := decide_eq_true c8
            clear c8
            replace H := Option.bind_eq_some_iff.mp H
            obtain ⟨t432, A90, H⟩ := H
            replace H : (if t432 < 0 then (pledge_place_api_Pledge.l0 k1 l0 (wrap64 ((ji6) + 1)) x9_1 a1_0 a1_1 a1_2 a1_3) else (pledge_place_api_Pledge.l0 k1 l0 x8_1 ji6 a1_0 a1_1 a1_2 a1_3)) = some (r1, r2) := H
            have A9 := Aside0.mk A90
            clear A90
            try go_wp2
            have n0_ := Aside0.mk (blk_drew BK430.out)
            have n1_ := Aside0.mk (below_drew1 HB.out)
            clear BK430
            clear HB
            have BK430 := n0_
            have HB := n1_
            clear n0_ n1_
            have p431 : 0 ≤ ((ji6) : Int) := of_decide_eq_true (by first | (with_reducible assumption) | assumption)
            have q431 : (ji6) < (l0.length : Int) := of_decide_eq_true (by first | (with_reducible assumption) | assumption)
            obtain ⟨ad431, e431, hx431_0, hx431_1, hx431_2, hx431_3⟩ := at_T85 HR0.out (ji6) p431 q431
            have hw431_3 := hx431_3
            have hw431_2 := hx431_2
            have hw431_1 := hx431_1
            have hw431_0 := hx431_0
            cases e431
            replace hx431_0 := (HB.out.cell (World.block_lt_of_cell? w _ hx431_0)).trans hx431_0
            replace hx431_1 := (HB.out.cell (World.block_lt_of_cell? w _ hx431_1)).trans hx431_1
            replace hx431_2 := (HB.out.cell (World.block_lt_of_cell? w _ hx431_2)).trans hx431_2
            replace hx431_3 := (HB.out.cell (World.block_lt_of_cell? w _ hx431_3)).trans hx431_3
            replace p431 := eq_true p431
            replace q431 := eq_true q431
            refine start_ (n := 8) (S := fun w' => w'.cell? ⟨gb430, 0, none⟩ = some (.string a1_0) ∧ w'.cell? ⟨gb430, 1, none⟩ = some (.string a1_1) ∧ w'.cell? ⟨gb430, 2, none⟩ = some (.string a1_2) ∧ w'.cell? ⟨gb430, 3, none⟩ = some (.int .i64 a1_3) ∧ w'.cell? (ad431.add (((ji6)).toNat * 4)) = some (.string ((rd_T85 l0 (ji6)).f0.f0)) ∧ w'.cell? ⟨(ad431.add (((ji6)).toNat * 4)).block, (ad431.add (((ji6)).toNat * 4)).off + 1, none⟩ = some (.string ((rd_T85 l0 (ji6)).f0.f1)) ∧ w'.cell? ⟨(ad431.add (((ji6)).toNat * 4)).block, (ad431.add (((ji6)).toNat * 4)).off + 2, none⟩ = some (.string ((rd_T85 l0 (ji6)).f1)) ∧ w'.cell? ⟨(ad431.add (((ji6)).toNat * 4)).block, (ad431.add (((ji6)).toNat * 4)).off + 3, none⟩ = some (.int .i64 ((rd_T85 l0 (ji6)).f2))) (ds := []) #[false, false, false, false, false, false, false, false] (by kernel_rfl) rfl rfl ⟨(blk_cell BK430.out 0).trans rfl, (blk_cell BK430.out 1).trans rfl, (blk_cell BK430.out 2).trans rfl, (blk_cell BK430.out 3).trans rfl, ((HB.out.cell (World.block_lt_of_cell? w _ hw431_0)).trans hw431_0), ((HB.out.cell (World.block_lt_of_cell? w _ hw431_1)).trans hw431_1), ((HB.out.cell (World.block_lt_of_cell? w _ hw431_2)).trans hw431_2), ((HB.out.cell (World.block_lt_of_cell? w _ hw431_3)).trans hw431_3)⟩ (fun hHeld => ?_); refine with_tabW pledge_place_api_Pledge.tab4 pledge_place_api_Pledge.bits4 (fun HT_ HW_ => ?_)
            generalize wr.drew = w10 at BK430 HB hx431_0 hx431_1 hx431_2 hx431_3 hHeld ⊢
            refine pure_ (i := 0) (N := some 20) (v := ?_) (a' := ?_) #[true, false, false, false, false, false, false, false] rfl rfl (any_of HT_.out (by kernel_rfl)) (fun _ _ _ h => h) (Or.inl ⟨by rfl, ?_⟩) ?_ ?_
            rotate_left
            · intro w'
              go_simp
              with_reducible rfl
            rotate_left
            · simp only [Act.put, List.setIfInBounds_toArray, List.set_cons_zero, List.set_cons_succ, i64_w, i32_w]
              rfl
            refine pure_ (i := 1) (N := some 21) (v := ?_) (a' := ?_) #[true, true, false, false, false, false, false, false] rfl rfl (any_of HT_.out (by kernel_rfl)) (fun _ _ _ h => h) (Or.inl ⟨by rfl, ?_⟩) ?_ ?_
            rotate_left
            · intro w'
              go_simp
              with_reducible rfl
            rotate_left
            · simp only [Act.put, List.setIfInBounds_toArray, List.set_cons_zero, List.set_cons_succ, i64_w, i32_w]
              rfl
            refine pure_ (i := 2) (N := some 22) (v := ?_) (a' := ?_) #[true, true, true, false, false, false, false, false] rfl rfl (any_of HT_.out (by kernel_rfl)) (fun _ _ _ h => h) (Or.inl ⟨by rfl, ?_⟩) ?_ ?_
            rotate_left
            · intro w'
              go_simp
              with_reducible rfl
            rotate_left
            · simp only [Act.put, List.setIfInBounds_toArray, List.set_cons_zero, List.set_cons_succ, i64_w, i32_w]
              rfl
            refine pure_ (i := 3) (N := some 23) (v := ?_) (a' := ?_) #[true, true, true, true, false, false, false, false] rfl rfl (any_of HT_.out (by kernel_rfl)) (fun _ _ _ h => h) (Or.inl ⟨by rfl, ?_⟩) ?_ ?_
            rotate_left
            · intro w'
              go_simp
              with_reducible rfl
            rotate_left
            · simp only [Act.put, List.setIfInBounds_toArray, List.set_cons_zero, List.set_cons_succ, i64_w, i32_w]
              rfl
            refine take_ (i := 4) (N := some 24) (v := ?_) (a' := ?_) #[true, true, true, true, true, false, false, false] rfl rfl (take_ofW HT_.out HW_.out (by kernel_rfl)) (fun _ _ _ h => h) (Or.inl ⟨by rfl, ?_⟩) hHeld ?_ ?_
            rotate_left
            · rintro w' ⟨s0, s1, s2, s3, s4, s5, s6, s7⟩
              go_simp
              with_reducible rfl
            rotate_left
            · simp only [Act.put, List.setIfInBounds_toArray, List.set_cons_zero, List.set_cons_succ, i64_w, i32_w]
              rfl
            refine take_ (i := 5) (N := some 25) (v := ?_) (a' := ?_) #[true, true, true, true, true, true, false, false] rfl rfl (take_ofW HT_.out HW_.out (by kernel_rfl)) (fun _ _ _ h => h) (Or.inl ⟨by rfl, ?_⟩) hHeld ?_ ?_
            rotate_left
            · rintro w' ⟨s0, s1, s2, s3, s4, s5, s6, s7⟩
              go_simp
              with_reducible rfl
            rotate_left
            · simp only [Act.put, List.setIfInBounds_toArray, List.set_cons_zero, List.set_cons_succ, i64_w, i32_w]
              rfl
            refine one_ (i := 6) (N := some 26) #[true, true, true, true, true, true, true, false] rfl rfl (one_of HT_.out (by kernel_rfl)) (by decide) (fun K hK => ?_)
            refine goesV_ Try.func83 (by kernel_rfl) rfl #[.agg #[.string ((rd_T85 l0 (ji6)).f0.f0), .string ((rd_T85 l0 (ji6)).f0.f1), .string ((rd_T85 l0 (ji6)).f1), .int .i64 ((rd_T85 l0 (ji6)).f2)], .agg #[.string a1_0, .string a1_1, .string a1_2, .int .i64 a1_3]] (by rfl) rfl rfl rfl (by (try simp only [List.map_toArray, List.map_cons, List.map_nil]); first | done | (simp only [hji6]; rfl) | rfl | (simp only [List.length_drop, List.length_take]; rfl)) ?_
            with_reducible refine (pledge_compare.calls ((rd_T85 l0 (ji6)).f0.f0) ((rd_T85 l0 (ji6)).f0.f1) ((rd_T85 l0 (ji6)).f1) ((rd_T85 l0 (ji6)).f2) a1_0 a1_1 a1_2 a1_3 t432 _ A9.out).mono ?_
            rintro e w11 ⟨rfl, hb⟩
            refine ⟨_, rfl, ?_⟩
            have n0_ := Aside0.mk (blk_below (g := gb430) (o := .cells #[.string a1_0, .string a1_1, .string a1_2, .int .i64 a1_3] 85 (0, 0)) (by (with_reducible repeat (first | refine blk_drewN ?_ _ | refine blk_drew ?_ | refine blk_alloc ?_ _)); exact BK430.out) hb)
            have n1_ := Aside0.mk (below_step (by repeat (first | (with_reducible first | exact HB.out | apply below_alloc | apply pw_below_drewN | apply below_drew1 | refine below_set ?_ GE430.out) | exact HB.out)) hb)
            clear BK430
            clear HB
            have BK430 := n0_
            have HB := n1_
            clear n0_ n1_
            (try clear hb)
            (try clear hb2)
            (try clear hk)
            (try clear hi)
            refine hK.out _ _ ⟨(blk_cell BK430.out 0).trans rfl, (blk_cell BK430.out 1).trans rfl, (blk_cell BK430.out 2).trans rfl, (blk_cell BK430.out 3).trans rfl, ((HB.out.cell (World.block_lt_of_cell? w _ hw431_0)).trans hw431_0), ((HB.out.cell (World.block_lt_of_cell? w _ hw431_1)).trans hw431_1), ((HB.out.cell (World.block_lt_of_cell? w _ hw431_2)).trans hw431_2), ((HB.out.cell (World.block_lt_of_cell? w _ hw431_3)).trans hw431_3)⟩ (fun hHeld => ?_)
            clear hK K
            refine norm_ (a' := ?_) ?_ ?_
            rotate_left
            · show Act.put _ (some 26) _ = _
              simp only [Act.put, List.setIfInBounds_toArray, List.set_cons_zero, List.set_cons_succ, i64_w, i32_w]
              rfl
            refine pure_ (i := 7) (N := some 27) (v := ?_) (a' := ?_) #[true, true, true, true, true, true, true, true] rfl rfl (any_of HT_.out (by kernel_rfl)) (fun _ _ _ h => h) (Or.inl ⟨by rfl, ?_⟩) ?_ ?_
            rotate_left
            · intro w'
              go_simp
              with_reducible rfl
            rotate_left
            · simp only [Act.put, List.setIfInBounds_toArray, List.set_cons_zero, List.set_cons_succ, i64_w, i32_w]
              rfl
            refine done_ (done_of HT_.out (by kernel_rfl)) ?_
            go_upto_if 27 with (fail)
            by_cases c12 : t432 < 0
            · rw [if_pos c12] at H
              have c12b0 : decide (t432 < 0) = true := decide_eq_true c12
              clear c12
              (try simp only [c12b0])
              have H' := Aside0.mk H
              clear H
              go_wp2
              go_roundg k1
              case measure => have := HK1.out; omega
              case rel => exact ⟨(wrap64 ((ji6) + 1)), (x9_1), (by first | rfl | (simp; done) | (simp only [← hji6] <;> (first | rfl | simp)) | (simp [*]; done)), (by first | rfl | (simp; done) | (simp [*]; done)), H', ⟨by have := HK1.out; omega⟩, ⟨by (with_reducible repeat (first | refine blk_drewN ?_ _ | refine blk_drew ?_ | refine blk_alloc ?_ _)); exact BK430.out⟩, ⟨by repeat (first | (with_reducible first | exact HB.out | apply below_alloc | apply pw_below_drewN | apply below_drew1 | refine below_set ?_ GE430.out) | exact HB.out)⟩⟩
            · rw [if_neg c12] at H
              have c12b0 : decide (t432 < 0) = false := decide_eq_false c12
              clear c12
              (try simp only [c12b0])
              have H' := Aside0.mk H
              clear H
              go_wp2
              go_roundg k1
              case measure => have := HK1.out; omega
              case rel => exact ⟨(x8_1), (ji6), (by first | rfl | (simp; done) | (simp [*]; done)), (by first | rfl | (simp; done) | (simp only [← hji6] <;> (first | rfl | simp)) | (simp [*]; done)), H', ⟨by have := HK1.out; omega⟩, ⟨by (with_reducible repeat (first | refine blk_drewN ?_ _ | refine blk_drew ?_ | refine blk_alloc ?_ _)); exact BK430.out⟩, ⟨by repeat (first | (with_reducible first | exact HB.out | apply below_alloc | apply pw_below_drewN | apply below_drew1 | refine below_set ?_ GE430.out) | exact HB.out)⟩⟩
          · rw [if_neg c8] at H
            exact absurd H (by simp)
        · rw [if_neg c7] at H
          exact absurd H (by simp)
      · rw [if_neg c5] at H
        have c5b0 : decide (x8_1 < x9_1) = false := decide_eq_false c5
        clear c5
        (try simp only [c5b0])
        by_cases c13 : x8_1 < (l0.length : Int)
        · rw [if_pos c13] at H
          have c13b0 : decide (x8_1 < (l0.length : Int)) = true := decide_eq_true c13
          clear c13
          by_cases c14 : 0 ≤ x8_1
          · rw [if_pos c14] at H
            have c14b0 : decide (0 ≤ x8_1) = true := decide_eq_true c14
            clear c14
            replace H := Option.bind_eq_some_iff.mp H
            obtain ⟨t434, A150, H⟩ := H
            replace H : (some (x8_1, (t434 == 0))) = some (r1, r2) := H
            have A15 := Aside0.mk A150
            clear A150
            simp only [Option.some.injEq, Prod.mk.injEq] at H
            obtain ⟨rfl, rfl⟩ := H
            try go_wp2
            have n0_ := Aside0.mk (blk_drew BK430.out)
            have n1_ := Aside0.mk (below_drew1 HB.out)
            clear BK430
            clear HB
            have BK430 := n0_
            have HB := n1_
            clear n0_ n1_
            have p433 : 0 ≤ (x8_1 : Int) := of_decide_eq_true (by first | (with_reducible assumption) | assumption)
            have q433 : x8_1 < (l0.length : Int) := of_decide_eq_true (by first | (with_reducible assumption) | assumption)
            obtain ⟨ad433, e433, hx433_0, hx433_1, hx433_2, hx433_3⟩ := at_T85 HR0.out x8_1 p433 q433
            have hw433_3 := hx433_3
            have hw433_2 := hx433_2
            have hw433_1 := hx433_1
            have hw433_0 := hx433_0
            cases e433
            replace hx433_0 := (HB.out.cell (World.block_lt_of_cell? w _ hx433_0)).trans hx433_0
            replace hx433_1 := (HB.out.cell (World.block_lt_of_cell? w _ hx433_1)).trans hx433_1
            replace hx433_2 := (HB.out.cell (World.block_lt_of_cell? w _ hx433_2)).trans hx433_2
            replace hx433_3 := (HB.out.cell (World.block_lt_of_cell? w _ hx433_3)).trans hx433_3
            replace p433 := eq_true p433
            replace q433 := eq_true q433
            refine start_ (n := 17) (S := fun w' => w'.cell? ⟨gb430, 0, none⟩ = some (.string a1_0) ∧ w'.cell? ⟨gb430, 1, none⟩ = some (.string a1_1) ∧ w'.cell? ⟨gb430, 2, none⟩ = some (.string a1_2) ∧ w'.cell? ⟨gb430, 3, none⟩ = some (.int .i64 a1_3) ∧ w'.cell? (ad433.add ((x8_1).toNat * 4)) = some (.string ((rd_T85 l0 x8_1).f0.f0)) ∧ w'.cell? ⟨(ad433.add ((x8_1).toNat * 4)).block, (ad433.add ((x8_1).toNat * 4)).off + 1, none⟩ = some (.string ((rd_T85 l0 x8_1).f0.f1)) ∧ w'.cell? ⟨(ad433.add ((x8_1).toNat * 4)).block, (ad433.add ((x8_1).toNat * 4)).off + 2, none⟩ = some (.string ((rd_T85 l0 x8_1).f1)) ∧ w'.cell? ⟨(ad433.add ((x8_1).toNat * 4)).block, (ad433.add ((x8_1).toNat * 4)).off + 3, none⟩ = some (.int .i64 ((rd_T85 l0 x8_1).f2))) (ds := []) #[false, false, false, false, false, false, false, false, false, false, false, false, false, false, false, false, false] (by kernel_rfl) rfl rfl ⟨(blk_cell BK430.out 0).trans rfl, (blk_cell BK430.out 1).trans rfl, (blk_cell BK430.out 2).trans rfl, (blk_cell BK430.out 3).trans rfl, ((HB.out.cell (World.block_lt_of_cell? w _ hw433_0)).trans hw433_0), ((HB.out.cell (World.block_lt_of_cell? w _ hw433_1)).trans hw433_1), ((HB.out.cell (World.block_lt_of_cell? w _ hw433_2)).trans hw433_2), ((HB.out.cell (World.block_lt_of_cell? w _ hw433_3)).trans hw433_3)⟩ (fun hHeld => ?_); refine with_tabW pledge_place_api_Pledge.tab7 pledge_place_api_Pledge.bits7 (fun HT_ HW_ => ?_)
            generalize wr.drew = w16 at BK430 HB hx433_0 hx433_1 hx433_2 hx433_3 hHeld ⊢
            refine pure_ (i := 0) (N := some 31) (v := ?_) (a' := ?_) #[true, false, false, false, false, false, false, false, false, false, false, false, false, false, false, false, false] rfl rfl (any_of HT_.out (by kernel_rfl)) (fun _ _ _ h => h) (Or.inl ⟨by rfl, ?_⟩) ?_ ?_
            rotate_left
            · intro w'
              go_simp
              with_reducible rfl
            rotate_left
            · simp only [Act.put, List.setIfInBounds_toArray, List.set_cons_zero, List.set_cons_succ, i64_w, i32_w]
              rfl
            refine pure_ (i := 1) (N := some 32) (v := ?_) (a' := ?_) #[true, true, false, false, false, false, false, false, false, false, false, false, false, false, false, false, false] rfl rfl (any_of HT_.out (by kernel_rfl)) (fun _ _ _ h => h) (Or.inl ⟨by rfl, ?_⟩) ?_ ?_
            rotate_left
            · intro w'
              go_simp
              with_reducible rfl
            rotate_left
            · simp only [Act.put, List.setIfInBounds_toArray, List.set_cons_zero, List.set_cons_succ, i64_w, i32_w]
              rfl
            refine pure_ (i := 2) (N := some 33) (v := ?_) (a' := ?_) #[true, true, true, false, false, false, false, false, false, false, false, false, false, false, false, false, false] rfl rfl (any_of HT_.out (by kernel_rfl)) (fun _ _ _ h => h) (Or.inl ⟨by rfl, ?_⟩) ?_ ?_
            rotate_left
            · intro w'
              go_simp
              with_reducible rfl
            rotate_left
            · simp only [Act.put, List.setIfInBounds_toArray, List.set_cons_zero, List.set_cons_succ, i64_w, i32_w]
              rfl
            refine pure_ (i := 3) (N := some 34) (v := ?_) (a' := ?_) #[true, true, true, true, false, false, false, false, false, false, false, false, false, false, false, false, false] rfl rfl (any_of HT_.out (by kernel_rfl)) (fun _ _ _ h => h) (Or.inl ⟨by rfl, ?_⟩) ?_ ?_
            rotate_left
            · intro w'
              go_simp
              with_reducible rfl
            rotate_left
            · simp only [Act.put, List.setIfInBounds_toArray, List.set_cons_zero, List.set_cons_succ, i64_w, i32_w]
              rfl
            refine pure_ (i := 4) (N := some 35) (v := ?_) (a' := ?_) #[true, true, true, true, true, false, false, false, false, false, false, false, false, false, false, false, false] rfl rfl (any_of HT_.out (by kernel_rfl)) (fun _ _ _ h => h) (Or.inl ⟨by rfl, ?_⟩) ?_ ?_
            rotate_left
            · intro w'
              go_simp
              with_reducible rfl
            rotate_left
            · simp only [Act.put, List.setIfInBounds_toArray, List.set_cons_zero, List.set_cons_succ, i64_w, i32_w]
              rfl
            refine pure_ (i := 5) (N := some 36) (v := ?_) (a' := ?_) #[true, true, true, true, true, true, false, false, false, false, false, false, false, false, false, false, false] rfl rfl (any_of HT_.out (by kernel_rfl)) (fun _ _ _ h => h) (Or.inl ⟨by rfl, ?_⟩) ?_ ?_
            rotate_left
            · intro w'
              go_simp
              with_reducible rfl
            rotate_left
            · simp only [Act.put, List.setIfInBounds_toArray, List.set_cons_zero, List.set_cons_succ, i64_w, i32_w]
              rfl
            refine pure_ (i := 6) (N := some 37) (v := ?_) (a' := ?_) #[true, true, true, true, true, true, true, false, false, false, false, false, false, false, false, false, false] rfl rfl (any_of HT_.out (by kernel_rfl)) (fun _ _ _ h => h) (Or.inl ⟨by rfl, ?_⟩) ?_ ?_
            rotate_left
            · intro w'
              go_simp
              with_reducible rfl
            rotate_left
            · simp only [Act.put, List.setIfInBounds_toArray, List.set_cons_zero, List.set_cons_succ, i64_w, i32_w]
              rfl
            refine pure_ (i := 7) (N := some 38) (v := ?_) (a' := ?_) #[true, true, true, true, true, true, true, true, false, false, false, false, false, false, false, false, false] rfl rfl (any_of HT_.out (by kernel_rfl)) (fun _ _ _ h => h) (Or.inl ⟨by rfl, ?_⟩) ?_ ?_
            rotate_left
            · intro w'
              go_simp
              with_reducible rfl
            rotate_left
            · simp only [Act.put, List.setIfInBounds_toArray, List.set_cons_zero, List.set_cons_succ, i64_w, i32_w]
              rfl
            refine pure_ (i := 8) (N := some 39) (v := ?_) (a' := ?_) #[true, true, true, true, true, true, true, true, true, false, false, false, false, false, false, false, false] rfl rfl (any_of HT_.out (by kernel_rfl)) (fun _ _ _ h => h) (Or.inl ⟨by rfl, ?_⟩) ?_ ?_
            rotate_left
            · intro w'
              go_simp
              with_reducible rfl
            rotate_left
            · simp only [Act.put, List.setIfInBounds_toArray, List.set_cons_zero, List.set_cons_succ, i64_w, i32_w]
              rfl
            refine pure_ (i := 9) (N := some 40) (v := ?_) (a' := ?_) #[true, true, true, true, true, true, true, true, true, true, false, false, false, false, false, false, false] rfl rfl (any_of HT_.out (by kernel_rfl)) (fun _ _ _ h => h) (Or.inl ⟨by rfl, ?_⟩) ?_ ?_
            rotate_left
            · intro w'
              go_simp
              with_reducible rfl
            rotate_left
            · simp only [Act.put, List.setIfInBounds_toArray, List.set_cons_zero, List.set_cons_succ, i64_w, i32_w]
              rfl
            refine take_ (i := 10) (N := some 41) (v := ?_) (a' := ?_) #[true, true, true, true, true, true, true, true, true, true, true, false, false, false, false, false, false] rfl rfl (take_ofW HT_.out HW_.out (by kernel_rfl)) (fun _ _ _ h => h) (Or.inl ⟨by rfl, ?_⟩) hHeld ?_ ?_
            rotate_left
            · rintro w' ⟨s0, s1, s2, s3, s4, s5, s6, s7⟩
              go_simp
              with_reducible rfl
            rotate_left
            · simp only [Act.put, List.setIfInBounds_toArray, List.set_cons_zero, List.set_cons_succ, i64_w, i32_w]
              rfl
            refine take_ (i := 11) (N := some 42) (v := ?_) (a' := ?_) #[true, true, true, true, true, true, true, true, true, true, true, true, false, false, false, false, false] rfl rfl (take_ofW HT_.out HW_.out (by kernel_rfl)) (fun _ _ _ h => h) (Or.inl ⟨by rfl, ?_⟩) hHeld ?_ ?_
            rotate_left
            · rintro w' ⟨s0, s1, s2, s3, s4, s5, s6, s7⟩
              go_simp
              with_reducible rfl
            rotate_left
            · simp only [Act.put, List.setIfInBounds_toArray, List.set_cons_zero, List.set_cons_succ, i64_w, i32_w]
              rfl
            refine one_ (i := 12) (N := some 43) #[true, true, true, true, true, true, true, true, true, true, true, true, true, false, false, false, false] rfl rfl (one_of HT_.out (by kernel_rfl)) (by decide) (fun K hK => ?_)
            refine goesV_ Try.func83 (by kernel_rfl) rfl #[.agg #[.string ((rd_T85 l0 x8_1).f0.f0), .string ((rd_T85 l0 x8_1).f0.f1), .string ((rd_T85 l0 x8_1).f1), .int .i64 ((rd_T85 l0 x8_1).f2)], .agg #[.string a1_0, .string a1_1, .string a1_2, .int .i64 a1_3]] (by rfl) rfl rfl rfl (by (try simp only [List.map_toArray, List.map_cons, List.map_nil]); first | done | rfl | (simp only [List.length_drop, List.length_take]; rfl)) ?_
            with_reducible refine (pledge_compare.calls ((rd_T85 l0 x8_1).f0.f0) ((rd_T85 l0 x8_1).f0.f1) ((rd_T85 l0 x8_1).f1) ((rd_T85 l0 x8_1).f2) a1_0 a1_1 a1_2 a1_3 t434 _ A15.out).mono ?_
            rintro e w17 ⟨rfl, hb⟩
            refine ⟨_, rfl, ?_⟩
            have n0_ := Aside0.mk (blk_below (g := gb430) (o := .cells #[.string a1_0, .string a1_1, .string a1_2, .int .i64 a1_3] 85 (0, 0)) (by (with_reducible repeat (first | refine blk_drewN ?_ _ | refine blk_drew ?_ | refine blk_alloc ?_ _)); exact BK430.out) hb)
            have n1_ := Aside0.mk (below_step (by repeat (first | (with_reducible first | exact HB.out | apply below_alloc | apply pw_below_drewN | apply below_drew1 | refine below_set ?_ GE430.out) | exact HB.out)) hb)
            clear BK430
            clear HB
            have BK430 := n0_
            have HB := n1_
            clear n0_ n1_
            (try clear hb)
            (try clear hb2)
            (try clear hk)
            (try clear hi)
            refine hK.out _ _ ⟨(blk_cell BK430.out 0).trans rfl, (blk_cell BK430.out 1).trans rfl, (blk_cell BK430.out 2).trans rfl, (blk_cell BK430.out 3).trans rfl, ((HB.out.cell (World.block_lt_of_cell? w _ hw433_0)).trans hw433_0), ((HB.out.cell (World.block_lt_of_cell? w _ hw433_1)).trans hw433_1), ((HB.out.cell (World.block_lt_of_cell? w _ hw433_2)).trans hw433_2), ((HB.out.cell (World.block_lt_of_cell? w _ hw433_3)).trans hw433_3)⟩ (fun hHeld => ?_)
            clear hK K
            refine norm_ (a' := ?_) ?_ ?_
            rotate_left
            · show Act.put _ (some 43) _ = _
              simp only [Act.put, List.setIfInBounds_toArray, List.set_cons_zero, List.set_cons_succ, i64_w, i32_w]
              rfl
            refine pure_ (i := 13) (N := some 44) (v := ?_) (a' := ?_) #[true, true, true, true, true, true, true, true, true, true, true, true, true, true, false, false, false] rfl rfl (any_of HT_.out (by kernel_rfl)) (fun _ _ _ h => h) (Or.inl ⟨by rfl, ?_⟩) ?_ ?_
            rotate_left
            · intro w'
              go_simp
              with_reducible rfl
            rotate_left
            · simp only [Act.put, List.setIfInBounds_toArray, List.set_cons_zero, List.set_cons_succ, i64_w, i32_w]
              rfl
            refine pure_ (i := 14) (N := some 45) (v := ?_) (a' := ?_) #[true, true, true, true, true, true, true, true, true, true, true, true, true, true, true, false, false] rfl rfl (any_of HT_.out (by kernel_rfl)) (fun _ _ _ h => h) (Or.inl ⟨by rfl, ?_⟩) ?_ ?_
            rotate_left
            · intro w'
              go_simp
              with_reducible rfl
            rotate_left
            · simp only [Act.put, List.setIfInBounds_toArray, List.set_cons_zero, List.set_cons_succ, i64_w, i32_w]
              rfl
            refine pure_ (i := 15) (N := some 6) (v := ?_) (a' := ?_) #[true, true, true, true, true, true, true, true, true, true, true, true, true, true, true, true, false] rfl rfl (any_of HT_.out (by kernel_rfl)) (fun _ _ _ h => h) (Or.inl ⟨by rfl, ?_⟩) ?_ ?_
            rotate_left
            · intro w'
              go_simp
              with_reducible rfl
            rotate_left
            · simp only [Act.put, List.setIfInBounds_toArray, List.set_cons_zero, List.set_cons_succ, i64_w, i32_w]
              rfl
            refine pure_ (i := 16) (N := some 7) (v := ?_) (a' := ?_) #[true, true, true, true, true, true, true, true, true, true, true, true, true, true, true, true, true] rfl rfl (any_of HT_.out (by kernel_rfl)) (fun _ _ _ h => h) (Or.inl ⟨by rfl, ?_⟩) ?_ ?_
            rotate_left
            · intro w'
              go_simp
              with_reducible rfl
            rotate_left
            · simp only [Act.put, List.setIfInBounds_toArray, List.set_cons_zero, List.set_cons_succ, i64_w, i32_w]
              rfl
            refine done_ (done_of HT_.out (by kernel_rfl)) ?_
            try go_wp2
            go_ret2
            exact ⟨by first | rfl | (simp [errW_none, errW_some] <;> rfl) | (simp [*, errW_none, errW_some] <;> rfl), by repeat (first | (with_reducible first | exact HB.out | apply below_alloc | apply pw_below_drewN | apply below_drew1 | refine below_set ?_ GE430.out) | exact HB.out)⟩
          · rw [if_neg c14] at H
            exact absurd H (by simp)
        · rw [if_neg c13] at H
          have c13b0 : decide (x8_1 < (l0.length : Int)) = false := decide_eq_false c13
          clear c13
          simp only [Option.some.injEq, Prod.mk.injEq] at H
          obtain ⟨rfl, rfl⟩ := H
          try go_wp2
          have n0_ := Aside0.mk (blk_drew BK430.out)
          have n1_ := Aside0.mk (below_drew1 HB.out)
          clear BK430
          clear HB
          have BK430 := n0_
          have HB := n1_
          clear n0_ n1_
          refine start_ (n := 17) (S := fun w' => True) (ds := []) #[false, false, false, false, false, false, false, false, false, false, false, false, false, false, false, false, false] (by kernel_rfl) rfl rfl trivial (fun hHeld => ?_); refine with_tabW pledge_place_api_Pledge.tab7 pledge_place_api_Pledge.bits7 (fun HT_ HW_ => ?_)
          generalize wr.drew = w18 at BK430 HB hHeld ⊢
          refine pure_ (i := 0) (N := some 31) (v := ?_) (a' := ?_) #[true, false, false, false, false, false, false, false, false, false, false, false, false, false, false, false, false] rfl rfl (any_of HT_.out (by kernel_rfl)) (fun _ _ _ h => h) (Or.inl ⟨by rfl, ?_⟩) ?_ ?_
          rotate_left
          · intro w'
            go_simp
            with_reducible rfl
          rotate_left
          · simp only [Act.put, List.setIfInBounds_toArray, List.set_cons_zero, List.set_cons_succ, i64_w, i32_w]
            rfl
          refine pure_ (i := 1) (N := some 32) (v := ?_) (a' := ?_) #[true, true, false, false, false, false, false, false, false, false, false, false, false, false, false, false, false] rfl rfl (any_of HT_.out (by kernel_rfl)) (fun _ _ _ h => h) (Or.inl ⟨by rfl, ?_⟩) ?_ ?_
          rotate_left
          · intro w'
            go_simp
            with_reducible rfl
          rotate_left
          · simp only [Act.put, List.setIfInBounds_toArray, List.set_cons_zero, List.set_cons_succ, i64_w, i32_w]
            rfl
          refine pure_ (i := 2) (N := some 33) (v := ?_) (a' := ?_) #[true, true, true, false, false, false, false, false, false, false, false, false, false, false, false, false, false] rfl rfl (any_of HT_.out (by kernel_rfl)) (fun _ _ _ h => h) (Or.inl ⟨by rfl, ?_⟩) ?_ ?_
          rotate_left
          · intro w'
            go_simp
            with_reducible rfl
          rotate_left
          · simp only [Act.put, List.setIfInBounds_toArray, List.set_cons_zero, List.set_cons_succ, i64_w, i32_w]
            rfl
          refine pure_ (i := 3) (N := some 34) (v := ?_) (a' := ?_) #[true, true, true, true, false, false, false, false, false, false, false, false, false, false, false, false, false] rfl rfl (any_of HT_.out (by kernel_rfl)) (fun _ _ _ h => h) (Or.inl ⟨by rfl, ?_⟩) ?_ ?_
          rotate_left
          · intro w'
            go_simp
            with_reducible rfl
          rotate_left
          · simp only [Act.put, List.setIfInBounds_toArray, List.set_cons_zero, List.set_cons_succ, i64_w, i32_w]
            rfl
          refine pure_ (i := 4) (N := some 35) (v := ?_) (a' := ?_) #[true, true, true, true, true, false, false, false, false, false, false, false, false, false, false, false, false] rfl rfl (any_of HT_.out (by kernel_rfl)) (fun _ _ _ h => h) (Or.inl ⟨by rfl, ?_⟩) ?_ ?_
          rotate_left
          · intro w'
            go_simp
            with_reducible rfl
          rotate_left
          · simp only [Act.put, List.setIfInBounds_toArray, List.set_cons_zero, List.set_cons_succ, i64_w, i32_w]
            rfl
          refine pure_ (i := 5) (N := some 36) (v := ?_) (a' := ?_) #[true, true, true, true, true, true, false, false, false, false, false, false, false, false, false, false, false] rfl rfl (any_of HT_.out (by kernel_rfl)) (fun _ _ _ h => h) (Or.inl ⟨by rfl, ?_⟩) ?_ ?_
          rotate_left
          · intro w'
            go_simp
            with_reducible rfl
          rotate_left
          · simp only [Act.put, List.setIfInBounds_toArray, List.set_cons_zero, List.set_cons_succ, i64_w, i32_w]
            rfl
          refine pure_ (i := 6) (N := some 37) (v := undef) (a' := ?_) #[true, true, true, true, true, true, true, false, false, false, false, false, false, false, false, false, false] rfl rfl (any_of HT_.out (by kernel_rfl)) (fun _ _ _ h => h) (Or.inr ⟨by rfl, rfl⟩) ?_ ?_
          rotate_left
          · simp only [Act.put, List.setIfInBounds_toArray, List.set_cons_zero, List.set_cons_succ, i64_w, i32_w]
            rfl
          refine pure_ (i := 7) (N := some 38) (v := undef) (a' := ?_) #[true, true, true, true, true, true, true, true, false, false, false, false, false, false, false, false, false] rfl rfl (any_of HT_.out (by kernel_rfl)) (fun _ _ _ h => h) (Or.inr ⟨by rfl, rfl⟩) ?_ ?_
          rotate_left
          · simp only [Act.put, List.setIfInBounds_toArray, List.set_cons_zero, List.set_cons_succ, i64_w, i32_w]
            rfl
          refine pure_ (i := 8) (N := some 39) (v := undef) (a' := ?_) #[true, true, true, true, true, true, true, true, true, false, false, false, false, false, false, false, false] rfl rfl (any_of HT_.out (by kernel_rfl)) (fun _ _ _ h => h) (Or.inr ⟨by rfl, rfl⟩) ?_ ?_
          rotate_left
          · simp only [Act.put, List.setIfInBounds_toArray, List.set_cons_zero, List.set_cons_succ, i64_w, i32_w]
            rfl
          refine pure_ (i := 9) (N := some 40) (v := undef) (a' := ?_) #[true, true, true, true, true, true, true, true, true, true, false, false, false, false, false, false, false] rfl rfl (any_of HT_.out (by kernel_rfl)) (fun _ _ _ h => h) (Or.inr ⟨by rfl, rfl⟩) ?_ ?_
          rotate_left
          · simp only [Act.put, List.setIfInBounds_toArray, List.set_cons_zero, List.set_cons_succ, i64_w, i32_w]
            rfl
          refine pure_ (i := 10) (N := some 41) (v := undef) (a' := ?_) #[true, true, true, true, true, true, true, true, true, true, true, false, false, false, false, false, false] rfl rfl (any_of HT_.out (by kernel_rfl)) (fun _ _ _ h => h) (Or.inr ⟨by rfl, rfl⟩) ?_ ?_
          rotate_left
          · simp only [Act.put, List.setIfInBounds_toArray, List.set_cons_zero, List.set_cons_succ, i64_w, i32_w]
            rfl
          refine pure_ (i := 11) (N := some 42) (v := undef) (a' := ?_) #[true, true, true, true, true, true, true, true, true, true, true, true, false, false, false, false, false] rfl rfl (any_of HT_.out (by kernel_rfl)) (fun _ _ _ h => h) (Or.inr ⟨by rfl, rfl⟩) ?_ ?_
          rotate_left
          · simp only [Act.put, List.setIfInBounds_toArray, List.set_cons_zero, List.set_cons_succ, i64_w, i32_w]
            rfl
          refine pure_ (i := 12) (N := some 43) (v := undef) (a' := ?_) #[true, true, true, true, true, true, true, true, true, true, true, true, true, false, false, false, false] rfl rfl (any_of HT_.out (by kernel_rfl)) (fun _ _ _ h => h) (Or.inr ⟨by rfl, rfl⟩) ?_ ?_
          rotate_left
          · simp only [Act.put, List.setIfInBounds_toArray, List.set_cons_zero, List.set_cons_succ, i64_w, i32_w]
            rfl
          refine pure_ (i := 13) (N := some 44) (v := undef) (a' := ?_) #[true, true, true, true, true, true, true, true, true, true, true, true, true, true, false, false, false] rfl rfl (any_of HT_.out (by kernel_rfl)) (fun _ _ _ h => h) (Or.inr ⟨by rfl, rfl⟩) ?_ ?_
          rotate_left
          · simp only [Act.put, List.setIfInBounds_toArray, List.set_cons_zero, List.set_cons_succ, i64_w, i32_w]
            rfl
          refine pure_ (i := 14) (N := some 45) (v := ?_) (a' := ?_) #[true, true, true, true, true, true, true, true, true, true, true, true, true, true, true, false, false] rfl rfl (any_of HT_.out (by kernel_rfl)) (fun _ _ _ h => h) (Or.inl ⟨by rfl, ?_⟩) ?_ ?_
          rotate_left
          · intro w'
            go_simp
            with_reducible rfl
          rotate_left
          · simp only [Act.put, List.setIfInBounds_toArray, List.set_cons_zero, List.set_cons_succ, i64_w, i32_w]
            rfl
          refine pure_ (i := 15) (N := some 6) (v := ?_) (a' := ?_) #[true, true, true, true, true, true, true, true, true, true, true, true, true, true, true, true, false] rfl rfl (any_of HT_.out (by kernel_rfl)) (fun _ _ _ h => h) (Or.inl ⟨by rfl, ?_⟩) ?_ ?_
          rotate_left
          · intro w'
            go_simp
            with_reducible rfl
          rotate_left
          · simp only [Act.put, List.setIfInBounds_toArray, List.set_cons_zero, List.set_cons_succ, i64_w, i32_w]
            rfl
          refine pure_ (i := 16) (N := some 7) (v := ?_) (a' := ?_) #[true, true, true, true, true, true, true, true, true, true, true, true, true, true, true, true, true] rfl rfl (any_of HT_.out (by kernel_rfl)) (fun _ _ _ h => h) (Or.inl ⟨by rfl, ?_⟩) ?_ ?_
          rotate_left
          · intro w'
            go_simp
            with_reducible rfl
          rotate_left
          · simp only [Act.put, List.setIfInBounds_toArray, List.set_cons_zero, List.set_cons_succ, i64_w, i32_w]
            rfl
          refine done_ (done_of HT_.out (by kernel_rfl)) ?_
          try go_wp2
          go_ret2
          exact ⟨by first | rfl | (simp [errW_none, errW_some] <;> rfl) | (simp [*, errW_none, errW_some] <;> rfl), by repeat (first | (with_reducible first | exact HB.out | apply below_alloc | apply pw_below_drewN | apply below_drew1 | refine below_set ?_ GE430.out) | exact HB.out)⟩
def contangoref08_Find.l0 : Nat → List (S94) → ByteArray → Int → Option (Int × Bool)
  | 0, _, _, _ => none
  | k + 1, x0, x1, x6 => if x6 < (x0.length : Int) then (if 0 ≤ x6 then (if ((rd_T94 x0 x6).f0).toList = x1.toList then (some (x6, true)) else (contangoref08_Find.l0 k x0 x1 (wrap64 (x6 + 1)))) else (none)) else (some (0, false))
def contangoref08_Find.f (k : Nat) (l0 : List (S94)) (a1 : ByteArray) : Option (Int × Bool) := contangoref08_Find.l0 k l0 a1 0
mutual
def contangoref08_Check.j0 : Nat → List (S94) → Bool → Option (Int)
  | 0, _, _ => none
  | k + 1, x0, x15 => if x15 = true then (some 8) else (contangoref08_Check.l0 k x0 0)
def contangoref08_Check.l0 : Nat → List (S94) → Int → Option (Int)
  | 0, _, _ => none
  | k + 1, x0, x3 => if x3 < (x0.length : Int) then (if 0 ≤ x3 then ((contangoref03_Name.f k ((rd_T94 x0 x3).f0)).bind fun t176 => (if t176 = true then (contangoref08_Check.l0 k x0 (wrap64 (x3 + 1))) else (some 10))) else (none)) else (contangoref08_Check.l1 k x0 0)
def contangoref08_Check.l1 : Nat → List (S94) → Int → Option (Int)
  | 0, _, _ => none
  | k + 1, x0, x4 => if x4 < (x0.length : Int) then (if 0 ≤ x4 then ((contangoref08_Find.f k x0 ((rd_T94 x0 x4).f0)).bind fun bt178 => (if bt178.1 = x4 then (contangoref08_Check.l1 k x0 (wrap64 (x4 + 1))) else (some 12))) else (none)) else (contangoref08_Check.l2 k x0 0)
def contangoref08_Check.l2 : Nat → List (S94) → Int → Option (Int)
  | 0, _, _ => none
  | k + 1, x0, x7 => if x7 < (x0.length : Int) then (if 0 ≤ x7 then (if ((rd_T94 x0 x7).f1) < 1 then (some 25) else (if ((rd_T94 x0 x7).f1) > 1000000000000 then (some 25) else (if x7 = 0 then (if ((rd_T94 x0 x7).f1) = 1000000 then (contangoref08_Check.l2 k x0 (wrap64 (x7 + 1))) else (some 25)) else (contangoref08_Check.l2 k x0 (wrap64 (x7 + 1)))))) else (none)) else (some 0)
end
def contangoref08_Check.f (k : Nat) (l0 : List (S94)) : Option (Int) := if (l0.length : Int) = 0 then (contangoref08_Check.j0 k l0 true) else (contangoref08_Check.j0 k l0 (decide ((l0.length : Int) > 8)))
def contangoref08_Convert.f (k : Nat) (l0 : List (S94)) (a1 : Int) (a2 : Int) (a3 : Int) (a4 : Int) : Option (Int × Int) := (contangoref08_Check.f k l0).bind fun t183 => (if t183 = 0 then (if a2 < 0 then (some (0, 25)) else (if a3 < 0 then (some (0, 25)) else (if a2 ≥ (l0.length : Int) then (some (0, 25)) else (if a3 ≥ (l0.length : Int) then (some (0, 25)) else (if 0 ≤ a2 then (if a2 < (l0.length : Int) then (if 0 ≤ a3 then (if a3 < (l0.length : Int) then ((contangoref01_MulDiv.f a1 ((rd_T94 l0 a2).f1) ((rd_T94 l0 a3).f1) a4).bind fun bt186 => (some (bt186.1, bt186.2))) else (none)) else (none)) else (none)) else (none)))))) else (some (0, t183)))
def contangoref08_Base.f (k : Nat) (l0 : List (S94)) (a1 : Int) (a2 : Int) (a3 : Int) : Option (Int × Int) := (contangoref08_Convert.f k l0 a1 a2 0 a3).bind fun bt188 => (some (bt188.1, bt188.2))
def contangoref31_Check.f (k : Nat) (a0_0 : ByteArray) (a0_1 : Int) (a0_2 : Int) (a0_3 : Int) (a0_4 : Int) (a0_5 : Int) : Option (Int) := (contangoref03_Name.f k a0_0).bind fun t124 => (if t124 = true then ((contangoref31_within.f a0_1 1 3).bind fun t125 => (if t125 = true then ((contangoref31_within.f a0_2 0 7).bind fun t126 => (if t126 = true then ((contangoref31_within.f a0_3 1 68719476736).bind fun t127 => (if t127 = true then (if a0_1 = 1 then (if a0_3 = 1 then ((contangoref31_within.f a0_4 0 1000).bind fun t128 => (if t128 = true then ((contangoref31_within.f a0_5 0 1000).bind fun t129 => (if t129 = true then (some 0) else (some 2))) else (some 2))) else (some 2)) else ((contangoref31_within.f a0_4 0 1000).bind fun t130 => (if t130 = true then ((contangoref31_within.f a0_5 0 1000).bind fun t131 => (if t131 = true then (some 0) else (some 2))) else (some 2)))) else (some 2))) else (some 25))) else (some 2))) else (some 10))
def contangoref31_Value.f (k : Nat) (a0_0 : ByteArray) (a0_1 : Int) (a0_2 : Int) (a0_3 : Int) (a0_4 : Int) (a0_5 : Int) (a1 : Int) : Option (Int × Int) := (contangoref31_Check.f k a0_0 a0_1 a0_2 a0_3 a0_4 a0_5).bind fun t137 => (if t137 = 0 then ((contangoref31_within.f a1 0 1152921504606846976).bind fun t138 => (if t138 = true then ((contangoref01_Mul.f k a1 a0_3).bind fun bt139 => (some (bt139.1, bt139.2))) else (some (0, 18)))) else (some (0, t137)))
def contangoref31_Worth.f (k : Nat) (a0_0 : ByteArray) (a0_1 : Int) (a0_2 : Int) (a0_3 : Int) (a0_4 : Int) (a0_5 : Int) (a1 : Int) (l2 : List (S94)) : Option (Int × Int) := (contangoref31_Value.f k a0_0 a0_1 a0_2 a0_3 a0_4 a0_5 a1).bind fun bt191 => (if bt191.2 = 0 then ((contangoref08_Base.f k l2 bt191.1 a0_2 3).bind fun bt193 => (if bt193.2 = 0 then ((contangoref01_MulDiv.f bt193.1 (wrap64 (1000 - a0_4)) 1000 3).bind fun bt195 => (some (bt195.1, bt195.2))) else (some (0, bt193.2)))) else (some (0, bt191.2)))
end Go.Proofs.Ytaiekjimdjlgbaa.Pr
