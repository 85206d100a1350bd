/- Functions' values and contracts, as the print wrote them. -/
import Derived.Test.YtaiekjimdjlgbaaQ3EDP0
import Derived.Test.YtaiekjimdjlgbaaQ3EDP3
namespace Go.Proofs.Ytaiekjimdjlgbaa.Pr
open Go.RowKit Go.Proofs.YtaiekjimdjlgbaaW.PrintWords Go.Proofs.YtaiekjimdjlgbaaW.PrintLast Go.Proofs.YtaiekjimdjlgbaaW.PrintMore
attribute [local go_sem] max2_int min2_int max_two min_two max_three min_three max_four min_four   -- for this text's walks alone
set_option linter.unusedVariables false
set_option linter.unusedSimpArgs false
def pledge_place_api_Pledge.l0 : Nat → List (S85) → Int → Int → ByteArray → ByteArray → ByteArray → Int → Option (Int × Bool)
  | 0, _, _, _, _, _, _, _ => none
  | k + 1, x0, x8, x9, x431000, x431001, x431002, x431003 => if x8 < x9 then (if 0 ≤ (wrap64 (Int.tdiv (wrap64 (x8 + x9)) 2)) then (if (wrap64 (Int.tdiv (wrap64 (x8 + x9)) 2)) < (x0.length : Int) then ((pledge_compare.f ((rd_T85 x0 (wrap64 (Int.tdiv (wrap64 (x8 + x9)) 2))).f0.f0) ((rd_T85 x0 (wrap64 (Int.tdiv (wrap64 (x8 + x9)) 2))).f0.f1) ((rd_T85 x0 (wrap64 (Int.tdiv (wrap64 (x8 + x9)) 2))).f1) ((rd_T85 x0 (wrap64 (Int.tdiv (wrap64 (x8 + x9)) 2))).f2) x431000 x431001 x431002 x431003).bind fun t432 => (if t432 < 0 then (pledge_place_api_Pledge.l0 k x0 (wrap64 ((wrap64 (Int.tdiv (wrap64 (x8 + x9)) 2)) + 1)) x9 x431000 x431001 x431002 x431003) else (pledge_place_api_Pledge.l0 k x0 x8 (wrap64 (Int.tdiv (wrap64 (x8 + x9)) 2)) x431000 x431001 x431002 x431003))) else (none)) else (none)) else (if x8 < (x0.length : Int) then (if 0 ≤ x8 then ((pledge_compare.f ((rd_T85 x0 x8).f0.f0) ((rd_T85 x0 x8).f0.f1) ((rd_T85 x0 x8).f1) ((rd_T85 x0 x8).f2) x431000 x431001 x431002 x431003).bind fun t434 => (some (x8, (t434 == 0)))) else (none)) else (some (x8, false)))
def pledge_place_api_Pledge.f (k : Nat) (l0 : List (S85)) (a1_0 : ByteArray) (a1_1 : ByteArray) (a1_2 : ByteArray) (a1_3 : Int)  : Option (Int × Bool) := pledge_place_api_Pledge.l0 k l0 0 (l0.length : Int) a1_0 a1_1 a1_2 a1_3
theorem pledge_place_api_Pledge.mono_l : ∀ k, (∀ y0 y1 y2 y3 y4 y5 y6, LeO (pledge_place_api_Pledge.l0 k y0 y1 y2 y3 y4 y5 y6) (pledge_place_api_Pledge.l0 (k + 1) y0 y1 y2 y3 y4 y5 y6))
  | 0 => fun _ _ _ _ _ _ _ r h => by simp [pledge_place_api_Pledge.l0] at h
  | k + 1 => by
    have ih0 := pledge_place_api_Pledge.mono_l k
    · intro y0 y1 y2 y3 y4 y5 y6
      unfold pledge_place_api_Pledge.l0
      repeat' first
      | (with_reducible exact ih0 _ _ _ _ _ _ _)
      | (with_reducible exact LeO.refl _)
      | (with_reducible exact LeO.none _)
      | (with_reducible refine LeO.ite ?_ ?_)
      | (with_reducible refine LeO.bind ?_ (fun _ => ?_))
      | exact ih0 _ _ _ _ _ _ _
      | exact LeO.none _
      | refine LeO.ite ?_ ?_
      | refine LeO.bind ?_ (fun _ => ?_)
theorem pledge_place_api_Pledge.mono : ∀ a0 a1 a2 a3 a4 k, LeO (pledge_place_api_Pledge.f k a0 a1 a2 a3 a4) (pledge_place_api_Pledge.f (k + 1) a0 a1 a2 a3 a4) := by
  intro a0 a1 a2 a3 a4 k
  have ih0 := pledge_place_api_Pledge.mono_l k
  unfold pledge_place_api_Pledge.f
  repeat' first
      | (with_reducible exact ih0 _ _ _ _ _ _ _)
      | (with_reducible exact LeO.refl _)
      | (with_reducible exact LeO.none _)
      | (with_reducible refine LeO.ite ?_ ?_)
      | (with_reducible refine LeO.bind ?_ (fun _ => ?_))
      | exact ih0 _ _ _ _ _ _ _
      | exact LeO.none _
      | refine LeO.ite ?_ ?_
      | refine LeO.bind ?_ (fun _ => ?_)
def pledge_place_api_Pledge.T4 : Bool × List (List Nat × List Nat) := (true, [([], []), ([], []), ([], []), ([1, 2], [1, 2]), ([3], [3]), ([], []), ([0, 4, 5], [0, 4, 5]), ([6], [6])])
def pledge_place_api_Pledge.B4 : List Nat := [0, 0, 0, 6, 14, 0, 63, 127]
theorem pledge_place_api_Pledge.tab4 : rtab .any (opsOf Try.f82 4) = pledge_place_api_Pledge.T4 := by kernel_rfl
theorem pledge_place_api_Pledge.bits4 : waitsOk pledge_place_api_Pledge.T4.2 pledge_place_api_Pledge.B4 = true := by kernel_rfl
def pledge_place_api_Pledge.T7 : Bool × List (List Nat × List Nat) := (true, [([], []), ([], []), ([], []), ([2], [2]), ([1, 3], [1, 3]), ([4], [4]), ([5], [5]), ([5], [5]), ([5], [5]), ([7, 8, 5], [5, 7, 8]), ([9, 5], [5, 9]), ([5], [5]), ([6, 10, 11, 5, 5], [5, 6, 10, 11]), ([12, 5], [5, 12]), ([5, 13], [5, 13]), ([0, 12, 0], [0]), ([14, 15, 0, 1, 2, 3, 4, 5, 6, 7, 8, 9, 10, 11, 12, 13, 14, 15], [14])])
def pledge_place_api_Pledge.B7 : List Nat := [0, 0, 0, 4, 14, 30, 62, 62, 62, 446, 958, 62, 4094, 8190, 16382, 8191, 65535]
theorem pledge_place_api_Pledge.tab7 : rtab .any (opsOf Try.f82 7) = pledge_place_api_Pledge.T7 := by kernel_rfl
theorem pledge_place_api_Pledge.bits7 : waitsOk pledge_place_api_Pledge.T7.2 pledge_place_api_Pledge.B7 = true := by kernel_rfl
set_option maxHeartbeats 8000000 in
set_option maxRecDepth 100000 in
theorem pledge_place_api_Pledge.calls (k : Nat) (A0 : Option Addr) (c0 : Nat) (l0 : List (S85)) (a1_0 : ByteArray) (a1_1 : ByteArray) (a1_2 : ByteArray) (a1_3 : Int)  (r1 : Int) (r2 : Bool) (w : World) (hr0 : Kd.C k85 w A0 l0.length l0) (hc0 : l0.length ≤ c0) (h : pledge_place_api_Pledge.f k l0 a1_0 a1_1 a1_2 a1_3 = some (r1, r2)) :
    Calls Try.prog 82 #[.slice A0 l0.length c0, .agg #[.string a1_0, .string a1_1, .string a1_2, .int .i64 a1_3], .func (.func 83) #[] #[]] w fun e w' => e = .returned (.tuple #[.int .i64 r1, .bool r2]) ∧ Below w.heap.size w w' := by
  have hu85 := Try.underlying85
  have HR0 := Aside0.mk hr0
  have HC0 := Aside0.mk hc0
  clear hr0 hc0
  have HB := Aside0.mk (Below.refl w.heap.size w)
  have H : (pledge_place_api_Pledge.l0 k l0 0 (l0.length : Int) a1_0 a1_1 a1_2 a1_3) = some (r1, r2) := h
  clear h
  have H' := Aside0.mk H
  clear H
  go_enter Try.func82, Try.ntmps82
  go_wp2_with (first | ((with_reducible refine gate_dst (N := 4) rfl ?_); refine box_event ?hg (N := 4) ?hd (cs := #[.string a1_0, .string a1_1, .string a1_2, .int .i64 a1_3]) (t := 85) ?hr ?_; (case hd => rfl); (case hg => rfl); (case hr => first | (go_simp; done) | (go_simp; rfl)); intro gb430 hg w4 hbox hb; have n0_ := Aside0.mk (below_step (by repeat (first | (with_reducible first | exact HB.out | apply below_alloc | apply pw_below_drewN | apply below_drew1) | exact HB.out)) hb); have n1_ := Aside0.mk (hbox); have n2_ := Aside0.mk ((by rw [hg]; exact (below_size (by repeat (first | (with_reducible first | exact HB.out | apply below_alloc | apply pw_below_drewN | apply below_drew1) | exact HB.out))) : w.heap.size ≤ gb430)); have n3_ := Aside0.mk ((by rw [hg]; exact (below_size (by repeat (first | (with_reducible first | exact HB.out | apply below_alloc | apply pw_below_drewN | apply below_drew1) | exact HB.out))) : w.heap.size ≤ gb430)); clear HB; have HB := n0_; have BK430 := n1_; have GW430 := n2_; have GE430 := n3_; clear n0_ n1_ n2_ n3_; clear hb hbox hg))
  go_loopg [8, 9] k (fun kq v8 v9 w' => ∃ (x8_1 : Int) (x9_1 : Int), v8 = .int .i64 x8_1 ∧ v9 = .int .i64 x9_1 ∧ Aside0 (pledge_place_api_Pledge.l0 kq l0 x8_1 x9_1 a1_0 a1_1 a1_2 a1_3 = some (r1, r2)) ∧ Aside0 (kq ≤ k) ∧ Aside0 (w'.heap[gb430]? = some (.cells #[.string a1_0, .string a1_1, .string a1_2, .int .i64 a1_3] 85 (0, 0))) ∧ Aside0 (Below w.heap.size w w'))
  case atStart => exact ⟨(0), ((l0.length : Int)), (by first | rfl | (simp; done) | (simp [*]; done)), (by first | rfl | (simp; done) | (simp [*]; done)), H', ⟨Nat.le_refl _⟩, ⟨by (with_reducible repeat (first | refine blk_drewN ?_ _ | refine blk_drew ?_ | refine blk_alloc ?_ _)); exact BK430.out⟩, ⟨by repeat (first | (with_reducible first | exact HB.out | apply below_alloc | apply pw_below_drewN | apply below_drew1 | refine below_set ?_ GE430.out) | exact HB.out)⟩⟩
  case round =>
    clear H'
    try clear p2
    obtain ⟨x8_1, x9_1, rfl, rfl, HA, HK1, BK430, HB⟩ := hrel
    cases gk with
    | zero => exact absurd HA.out (by simp [pledge_place_api_Pledge.l0])
    | succ k1 =>
      have H := HA.out
      clear HA
      simp only [pledge_place_api_Pledge.l0] at H
      by_cases c5 : x8_1 < x9_1
      · rw [if_pos c5] at H
        have c5b0 : decide (x8_1 < x9_1) = true := decide_eq_true c5
        clear c5
        (try simp only [c5b0])
        obtain ⟨ji6, hji6⟩ : ∃ j_ : Int, (wrap64 (Int.tdiv (wrap64 (x8_1 + x9_1)) 2)) = j_ := ⟨_, rfl⟩
        replace H : (if 0 ≤ (ji6) then (if (ji6) < (l0.length : Int) then ((pledge_compare.f ((rd_T85 l0 (ji6)).f0.f0) ((rd_T85 l0 (ji6)).f0.f1) ((rd_T85 l0 (ji6)).f1) ((rd_T85 l0 (ji6)).f2) a1_0 a1_1 a1_2 a1_3).bind fun t432 => (if t432 < 0 then (pledge_place_api_Pledge.l0 k1 l0 (wrap64 ((ji6) + 1)) x9_1 a1_0 a1_1 a1_2 a1_3) else (pledge_place_api_Pledge.l0 k1 l0 x8_1 ji6 a1_0 a1_1 a1_2 a1_3))) else (none)) else (none)) = some (r1, r2) := by first | (rw [hji6] at H; exact H) | (simp only [hji6] at H ⊢; exact H)
        have hji6w : (IntKind.i64.wrap (Int.tdiv (wrap64 (x8_1 + x9_1)) 2)) = ji6 := (i64_w _).trans hji6
        by_cases c7 : 0 ≤ (ji6)
        · rw [if_pos c7] at H
          have c7b0 : decide (0 ≤ (ji6)) = true := decide_eq_true c7
          clear c7
          by_cases c8 : (ji6) < (l0.length : Int)
          · rw [if_pos c8] at H
            have c8b0 : decide ((ji6) < (l0.length : Int)) = true := decide_eq_true c8
            clear c8
            replace H := Option.bind_eq_some_iff.mp H
            obtain ⟨t432, A90, H⟩ := H
            replace H : (if t432 < 0 then (pledge_place_api_Pledge.l0 k1 l0 (wrap64 ((ji6) + 1)) x9_1 a1_0 a1_1 a1_2 a1_3) else (pledge_place_api_Pledge.l0 k1 l0 x8_1 ji6 a1_0 a1_1 a1_2 a1_3)) = some (r1, r2) := H
            have A9 := Aside0.mk A90
            clear A90
            try go_wp2
            have n0_ := Aside0.mk (blk_drew BK430.out)
            have n1_ := Aside0.mk (below_drew1 HB.out)
            clear BK430
            clear HB
            have BK430 := n0_
            have HB := n1_
            clear n0_ n1_
            have p431 : 0 ≤ ((ji6) : Int) := of_decide_eq_true (by first | (with_reducible assumption) | assumption)
            have q431 : (ji6) < (l0.length : Int) := of_decide_eq_true (by first | (with_reducible assumption) | assumption)
            obtain ⟨ad431, e431, hx431_0, hx431_1, hx431_2, hx431_3⟩ := at_T85 HR0.out (ji6) p431 q431
            have hw431_3 := hx431_3
            have hw431_2 := hx431_2
            have hw431_1 := hx431_1
            have hw431_0 := hx431_0
            cases e431
            replace hx431_0 := (HB.out.cell (World.block_lt_of_cell? w _ hx431_0)).trans hx431_0
            replace hx431_1 := (HB.out.cell (World.block_lt_of_cell? w _ hx431_1)).trans hx431_1
            replace hx431_2 := (HB.out.cell (World.block_lt_of_cell? w _ hx431_2)).trans hx431_2
            replace hx431_3 := (HB.out.cell (World.block_lt_of_cell? w _ hx431_3)).trans hx431_3
            replace p431 := eq_true p431
            replace q431 := eq_true q431
            refine start_ (n := 8) (S := fun w' => w'.cell? ⟨gb430, 0, none⟩ = some (.string a1_0) ∧ w'.cell? ⟨gb430, 1, none⟩ = some (.string a1_1) ∧ w'.cell? ⟨gb430, 2, none⟩ = some (.string a1_2) ∧ w'.cell? ⟨gb430, 3, none⟩ = some (.int .i64 a1_3) ∧ w'.cell? (ad431.add (((ji6)).toNat * 4)) = some (.string ((rd_T85 l0 (ji6)).f0.f0)) ∧ w'.cell? ⟨(ad431.add (((ji6)).toNat * 4)).block, (ad431.add (((ji6)).toNat * 4)).off + 1, none⟩ = some (.string ((rd_T85 l0 (ji6)).f0.f1)) ∧ w'.cell? ⟨(ad431.add (((ji6)).toNat * 4)).block, (ad431.add (((ji6)).toNat * 4)).off + 2, none⟩ = some (.string ((rd_T85 l0 (ji6)).f1)) ∧ w'.cell? ⟨(ad431.add (((ji6)).toNat * 4)).block, (ad431.add (((ji6)).toNat * 4)).off + 3, none⟩ = some (.int .i64 ((rd_T85 l0 (ji6)).f2))) (ds := []) #[false, false, false, false, false, false, false, false] (by kernel_rfl) rfl rfl ⟨(blk_cell BK430.out 0).trans rfl, (blk_cell BK430.out 1).trans rfl, (blk_cell BK430.out 2).trans rfl, (blk_cell BK430.out 3).trans rfl, ((HB.out.cell (World.block_lt_of_cell? w _ hw431_0)).trans hw431_0), ((HB.out.cell (World.block_lt_of_cell? w _ hw431_1)).trans hw431_1), ((HB.out.cell (World.block_lt_of_cell? w _ hw431_2)).trans hw431_2), ((HB.out.cell (World.block_lt_of_cell? w _ hw431_3)).trans hw431_3)⟩ (fun hHeld => ?_); refine with_tabW pledge_place_api_Pledge.tab4 pledge_place_api_Pledge.bits4 (fun HT_ HW_ => ?_)
            generalize wr.drew = w10 at BK430 HB hx431_0 hx431_1 hx431_2 hx431_3 hHeld ⊢
            refine pure_ (i := 0) (N := some 20) (v := ?_) (a' := ?_) #[true, false, false, false, false, false, false, false] rfl rfl (any_of HT_.out (by kernel_rfl)) (fun _ _ _ h => h) (Or.inl ⟨by rfl, ?_⟩) ?_ ?_
            rotate_left
            · intro w'
              go_simp
              with_reducible rfl
            rotate_left
            · simp only [Act.put, List.setIfInBounds_toArray, List.set_cons_zero, List.set_cons_succ, i64_w, i32_w]
              rfl
            refine pure_ (i := 1) (N := some 21) (v := ?_) (a' := ?_) #[true, true, false, false, false, false, false, false] rfl rfl (any_of HT_.out (by kernel_rfl)) (fun _ _ _ h => h) (Or.inl ⟨by rfl, ?_⟩) ?_ ?_
            rotate_left
            · intro w'
              go_simp
              with_reducible rfl
            rotate_left
            · simp only [Act.put, List.setIfInBounds_toArray, List.set_cons_zero, List.set_cons_succ, i64_w, i32_w]
              rfl
            refine pure_ (i := 2) (N := some 22) (v := ?_) (a' := ?_) #[true, true, true, false, false, false, false, false] rfl rfl (any_of HT_.out (by kernel_rfl)) (fun _ _ _ h => h) (Or.inl ⟨by rfl, ?_⟩) ?_ ?_
            rotate_left
            · intro w'
              go_simp
              with_reducible rfl
            rotate_left
            · simp only [Act.put, List.setIfInBounds_toArray, List.set_cons_zero, List.set_cons_succ, i64_w, i32_w]
              rfl
            refine pure_ (i := 3) (N := some 23) (v := ?_) (a' := ?_) #[true, true, true, true, false, false, false, false] rfl rfl (any_of HT_.out (by kernel_rfl)) (fun _ _ _ h => h) (Or.inl ⟨by rfl, ?_⟩) ?_ ?_
            rotate_left
            · intro w'
              go_simp
              with_reducible rfl
            rotate_left
            · simp only [Act.put, List.setIfInBounds_toArray, List.set_cons_zero, List.set_cons_succ, i64_w, i32_w]
              rfl
            refine take_ (i := 4) (N := some 24) (v := ?_) (a' := ?_) #[true, true, true, true, true, false, false, false] rfl rfl (take_ofW HT_.out HW_.out (by kernel_rfl)) (fun _ _ _ h => h) (Or.inl ⟨by rfl, ?_⟩) hHeld ?_ ?_
            rotate_left
            · rintro w' ⟨s0, s1, s2, s3, s4, s5, s6, s7⟩
              go_simp
              with_reducible rfl
            rotate_left
            · simp only [Act.put, List.setIfInBounds_toArray, List.set_cons_zero, List.set_cons_succ, i64_w, i32_w]
              rfl
            refine take_ (i := 5) (N := some 25) (v := ?_) (a' := ?_) #[true, true, true, true, true, true, false, false] rfl rfl (take_ofW HT_.out HW_.out (by kernel_rfl)) (fun _ _ _ h => h) (Or.inl ⟨by rfl, ?_⟩) hHeld ?_ ?_
            rotate_left
            · rintro w' ⟨s0, s1, s2, s3, s4, s5, s6, s7⟩
              go_simp
              with_reducible rfl
            rotate_left
            · simp only [Act.put, List.setIfInBounds_toArray, List.set_cons_zero, List.set_cons_succ, i64_w, i32_w]
              rfl
            refine one_ (i := 6) (N := some 26) #[true, true, true, true, true, true, true, false] rfl rfl (one_of HT_.out (by kernel_rfl)) (by decide) (fun K hK => ?_)
            refine goesV_ Try.func83 (by kernel_rfl) rfl #[.agg #[.string ((rd_T85 l0 (ji6)).f0.f0), .string ((rd_T85 l0 (ji6)).f0.f1), .string ((rd_T85 l0 (ji6)).f1), .int .i64 ((rd_T85 l0 (ji6)).f2)], .agg #[.string a1_0, .string a1_1, .string a1_2, .int .i64 a1_3]] (by rfl) rfl rfl rfl (by (try simp only [List.map_toArray, List.map_cons, List.map_nil]); first | done | (simp only [hji6]; rfl) | rfl | (simp only [List.length_drop, List.length_take]; rfl)) ?_
            with_reducible refine (pledge_compare.calls ((rd_T85 l0 (ji6)).f0.f0) ((rd_T85 l0 (ji6)).f0.f1) ((rd_T85 l0 (ji6)).f1) ((rd_T85 l0 (ji6)).f2) a1_0 a1_1 a1_2 a1_3 t432 _ A9.out).mono ?_
            rintro e w11 ⟨rfl, hb⟩
            refine ⟨_, rfl, ?_⟩
            have n0_ := Aside0.mk (blk_below (g := gb430) (o := .cells #[.string a1_0, .string a1_1, .string a1_2, .int .i64 a1_3] 85 (0, 0)) (by (with_reducible repeat (first | refine blk_drewN ?_ _ | refine blk_drew ?_ | refine blk_alloc ?_ _)); exact BK430.out) hb)
            have n1_ := Aside0.mk (below_step (by repeat (first | (with_reducible first | exact HB.out | apply below_alloc | apply pw_below_drewN | apply below_drew1 | refine below_set ?_ GE430.out) | exact HB.out)) hb)
            clear BK430
            clear HB
            have BK430 := n0_
            have HB := n1_
            clear n0_ n1_
            (try clear hb)
            (try clear hb2)
            (try clear hk)
            (try clear hi)
            refine hK.out _ _ ⟨(blk_cell BK430.out 0).trans rfl, (blk_cell BK430.out 1).trans rfl, (blk_cell BK430.out 2).trans rfl, (blk_cell BK430.out 3).trans rfl, ((HB.out.cell (World.block_lt_of_cell? w _ hw431_0)).trans hw431_0), ((HB.out.cell (World.block_lt_of_cell? w _ hw431_1)).trans hw431_1), ((HB.out.cell (World.block_lt_of_cell? w _ hw431_2)).trans hw431_2), ((HB.out.cell (World.block_lt_of_cell? w _ hw431_3)).trans hw431_3)⟩ (fun hHeld => ?_)
            clear hK K
            refine norm_ (a' := ?_) ?_ ?_
            rotate_left
            · show Act.put _ (some 26) _ = _
              simp only [Act.put, List.setIfInBounds_toArray, List.set_cons_zero, List.set_cons_succ, i64_w, i32_w]
              rfl
            refine pure_ (i := 7) (N := some 27) (v := ?_) (a' := ?_) #[true, true, true, true, true, true, true, true] rfl rfl (any_of HT_.out (by kernel_rfl)) (fun _ _ _ h => h) (Or.inl ⟨by rfl, ?_⟩) ?_ ?_
            rotate_left
            · intro w'
              go_simp
              with_reducible rfl
            rotate_left
            · simp only [Act.put, List.setIfInBounds_toArray, List.set_cons_zero, List.set_cons_succ, i64_w, i32_w]
              rfl
            refine done_ (done_of HT_.out (by kernel_rfl)) ?_
            go_upto_if 27 with (fail)
            by_cases c12 : t432 < 0
            · rw [if_pos c12] at H
              have c12b0 : decide (t432 < 0) = true := decide_eq_true c12
              clear c12
              (try simp only [c12b0])
              have H' := Aside0.mk H
              clear H
              go_wp2
              go_roundg k1
              case measure => have := HK1.out; omega
              case rel => exact ⟨(wrap64 ((ji6) + 1)), (x9_1), (by first | rfl | (simp; done) | (simp only [← hji6] <;> (first | rfl | simp)) | (simp [*]; done)), (by first | rfl | (simp; done) | (simp [*]; done)), H', ⟨by have := HK1.out; omega⟩, ⟨by (with_reducible repeat (first | refine blk_drewN ?_ _ | refine blk_drew ?_ | refine blk_alloc ?_ _)); exact BK430.out⟩, ⟨by repeat (first | (with_reducible first | exact HB.out | apply below_alloc | apply pw_below_drewN | apply below_drew1 | refine below_set ?_ GE430.out) | exact HB.out)⟩⟩
            · rw [if_neg c12] at H
              have c12b0 : decide (t432 < 0) = false := decide_eq_false c12
              clear c12
              (try simp only [c12b0])
              have H' := Aside0.mk H
              clear H
              go_wp2
              go_roundg k1
              case measure => have := HK1.out; omega
              case rel => exact ⟨(x8_1), (ji6), (by first | rfl | (simp; done) | (simp [*]; done)), (by first | rfl | (simp; done) | (simp only [← hji6] <;> (first | rfl | simp)) | (simp [*]; done)), H', ⟨by have := HK1.out; omega⟩, ⟨by (with_reducible repeat (first | refine blk_drewN ?_ _ | refine blk_drew ?_ | refine blk_alloc ?_ _)); exact BK430.out⟩, ⟨by repeat (first | (with_reducible first | exact HB.out | apply below_alloc | apply pw_below_drewN | apply below_drew1 | refine below_set ?_ GE430.out) | exact HB.out)⟩⟩
          · rw [if_neg c8] at H
            exact absurd H (by simp)
        · rw [if_neg c7] at H
          exact absurd H (by simp)
      · rw [if_neg c5] at H
        have c5b0 : decide (x8_1 < x9_1) = false := decide_eq_false c5
        clear c5
        (try simp only [c5b0])
        by_cases c13 : x8_1 < (l0.length : Int)
        · rw [if_pos c13] at H
          have c13b0 : decide (x8_1 < (l0.length : Int)) = true := decide_eq_true c13
          clear c13
          by_cases c14 : 0 ≤ x8_1
          · rw [if_pos c14] at H
            have c14b0 : decide (0 ≤ x8_1) = true := decide_eq_true c14
            clear c14
            replace H := Option.bind_eq_some_iff.mp H
            obtain ⟨t434, A150, H⟩ := H
            replace H : (some (x8_1, (t434 == 0))) = some (r1, r2) := H
            have A15 := Aside0.mk A150
            clear A150
            simp only [Option.some.injEq, Prod.mk.injEq] at H
            obtain ⟨rfl, rfl⟩ := H
            try go_wp2
            have n0_ := Aside0.mk (blk_drew BK430.out)
            have n1_ := Aside0.mk (below_drew1 HB.out)
            clear BK430
            clear HB
            have BK430 := n0_
            have HB := n1_
            clear n0_ n1_
            have p433 : 0 ≤ (x8_1 : Int) := of_decide_eq_true (by first | (with_reducible assumption) | assumption)
            have q433 : x8_1 < (l0.length : Int) := of_decide_eq_true (by first | (with_reducible assumption) | assumption)
            obtain ⟨ad433, e433, hx433_0, hx433_1, hx433_2, hx433_3⟩ := at_T85 HR0.out x8_1 p433 q433
            have hw433_3 := hx433_3
            have hw433_2 := hx433_2
            have hw433_1 := hx433_1
            have hw433_0 := hx433_0
            cases e433
            replace hx433_0 := (HB.out.cell (World.block_lt_of_cell? w _ hx433_0)).trans hx433_0
            replace hx433_1 := (HB.out.cell (World.block_lt_of_cell? w _ hx433_1)).trans hx433_1
            replace hx433_2 := (HB.out.cell (World.block_lt_of_cell? w _ hx433_2)).trans hx433_2
            replace hx433_3 := (HB.out.cell (World.block_lt_of_cell? w _ hx433_3)).trans hx433_3
            replace p433 := eq_true p433
            replace q433 := eq_true q433
            refine start_ (n := 17) (S := fun w' => w'.cell? ⟨gb430, 0, none⟩ = some (.string a1_0) ∧ w'.cell? ⟨gb430, 1, none⟩ = some (.string a1_1) ∧ w'.cell? ⟨gb430, 2, none⟩ = some (.string a1_2) ∧ w'.cell? ⟨gb430, 3, none⟩ = some (.int .i64 a1_3) ∧ w'.cell? (ad433.add ((x8_1).toNat * 4)) = some (.string ((rd_T85 l0 x8_1).f0.f0)) ∧ w'.cell? ⟨(ad433.add ((x8_1).toNat * 4)).block, (ad433.add ((x8_1).toNat * 4)).off + 1, none⟩ = some (.string ((rd_T85 l0 x8_1).f0.f1)) ∧ w'.cell? ⟨(ad433.add ((x8_1).toNat * 4)).block, (ad433.add ((x8_1).toNat * 4)).off + 2, none⟩ = some (.string ((rd_T85 l0 x8_1).f1)) ∧ w'.cell? ⟨(ad433.add ((x8_1).toNat * 4)).block, (ad433.add ((x8_1).toNat * 4)).off + 3, none⟩ = some (.int .i64 ((rd_T85 l0 x8_1).f2))) (ds := []) #[false, false, false, false, false, false, false, false, false, false, false, false, false, false, false, false, false] (by kernel_rfl) rfl rfl ⟨(blk_cell BK430.out 0).trans rfl, (blk_cell BK430.out 1).trans rfl, (blk_cell BK430.out 2).trans rfl, (blk_cell BK430.out 3).trans rfl, ((HB.out.cell (World.block_lt_of_cell? w _ hw433_0)).trans hw433_0), ((HB.out.cell (World.block_lt_of_cell? w _ hw433_1)).trans hw433_1), ((HB.out.cell (World.block_lt_of_cell? w _ hw433_2)).trans hw433_2), ((HB.out.cell (World.block_lt_of_cell? w _ hw433_3)).trans hw433_3)⟩ (fun hHeld => ?_); refine with_tabW pledge_place_api_Pledge.tab7 pledge_place_api_Pledge.bits7 (fun HT_ HW_ => ?_)
            generalize wr.drew = w16 at BK430 HB hx433_0 hx433_1 hx433_2 hx433_3 hHeld ⊢
            refine pure_ (i := 0) (N := some 31) (v := ?_) (a' := ?_) #[true, false, false, false, false, false, false, false, false, false, false, false, false, false, false, false, false] rfl rfl (any_of HT_.out (by kernel_rfl)) (fun _ _ _ h => h) (Or.inl ⟨by rfl, ?_⟩) ?_ ?_
            rotate_left
            · intro w'
              go_simp
              with_reducible rfl
            rotate_left
            · simp only [Act.put, List.setIfInBounds_toArray, List.set_cons_zero, List.set_cons_succ, i64_w, i32_w]
              rfl
            refine pure_ (i := 1) (N := some 32) (v := ?_) (a' := ?_) #[true, true, false, false, false, false, false, false, false, false, false, false, false, false, false, false, false] rfl rfl (any_of HT_.out (by kernel_rfl)) (fun _ _ _ h => h) (Or.inl ⟨by rfl, ?_⟩) ?_ ?_
            rotate_left
            · intro w'
              go_simp
              with_reducible rfl
            rotate_left
            · simp only [Act.put, List.setIfInBounds_toArray, List.set_cons_zero, List.set_cons_succ, i64_w, i32_w]
              rfl
            refine pure_ (i := 2) (N := some 33) (v := ?_) (a' := ?_) #[true, true, true, false, false, false, false, false, false, false, false, false, false, false, false, false, false] rfl rfl (any_of HT_.out (by kernel_rfl)) (fun _ _ _ h => h) (Or.inl ⟨by rfl, ?_⟩) ?_ ?_
            rotate_left
            · intro w'
              go_simp
              with_reducible rfl
            rotate_left
            · simp only [Act.put, List.setIfInBounds_toArray, List.set_cons_zero, List.set_cons_succ, i64_w, i32_w]
              rfl
            refine pure_ (i := 3) (N := some 34) (v := ?_) (a' := ?_) #[true, true, true, true, false, false, false, false, false, false, false, false, false, false, false, false, false] rfl rfl (any_of HT_.out (by kernel_rfl)) (fun _ _ _ h => h) (Or.inl ⟨by rfl, ?_⟩) ?_ ?_
            rotate_left
            · intro w'
              go_simp
              with_reducible rfl
            rotate_left
            · simp only [Act.put, List.setIfInBounds_toArray, List.set_cons_zero, List.set_cons_succ, i64_w, i32_w]
              rfl
            refine pure_ (i := 4) (N := some 35) (v := ?_) (a' := ?_) #[true, true, true, true, true, false, false, false, false, false, false, false, false, false, false, false, false] rfl rfl (any_of HT_.out (by kernel_rfl)) (fun _ _ _ h => h) (Or.inl ⟨by rfl, ?_⟩) ?_ ?_
            rotate_left
            · intro w'
              go_simp
              with_reducible rfl
            rotate_left
            · simp only [Act.put, List.setIfInBounds_toArray, List.set_cons_zero, List.set_cons_succ, i64_w, i32_w]
              rfl
            refine pure_ (i := 5) (N := some 36) (v := ?_) (a' := ?_) #[true, true, true, true, true, true, false, false, false, false, false, false, false, false, false, false, false] rfl rfl (any_of HT_.out (by kernel_rfl)) (fun _ _ _ h => h) (Or.inl ⟨by rfl, ?_⟩) ?_ ?_
            rotate_left
            · intro w'
              go_simp
              with_reducible rfl
            rotate_left
            · simp only [Act.put, List.setIfInBounds_toArray, List.set_cons_zero, List.set_cons_succ, i64_w, i32_w]
              rfl
            refine pure_ (i := 6) (N := some 37) (v := ?_) (a' := ?_) #[true, true, true, true, true, true, true, false, false, false, false, false, false, false, false, false, false] rfl rfl (any_of HT_.out (by kernel_rfl)) (fun _ _ _ h => h) (Or.inl ⟨by rfl, ?_⟩) ?_ ?_
            rotate_left
            · intro w'
              go_simp
              with_reducible rfl
            rotate_left
            · simp only [Act.put, List.setIfInBounds_toArray, List.set_cons_zero, List.set_cons_succ, i64_w, i32_w]
              rfl
            refine pure_ (i := 7) (N := some 38) (v := ?_) (a' := ?_) #[true, true, true, true, true, true, true, true, false, false, false, false, false, false, false, false, false] rfl rfl (any_of HT_.out (by kernel_rfl)) (fun _ _ _ h => h) (Or.inl ⟨by rfl, ?_⟩) ?_ ?_
            rotate_left
            · intro w'
              go_simp
              with_reducible rfl
            rotate_left
            · simp only [Act.put, List.setIfInBounds_toArray, List.set_cons_zero, List.set_cons_succ, i64_w, i32_w]
              rfl
            refine pure_ (i := 8) (N := some 39) (v := ?_) (a' := ?_) #[true, true, true, true, true, true, true, true, true, false, false, false, false, false, false, false, false] rfl rfl (any_of HT_.out (by kernel_rfl)) (fun _ _ _ h => h) (Or.inl ⟨by rfl, ?_⟩) ?_ ?_
            rotate_left
            · intro w'
              go_simp
              with_reducible rfl
            rotate_left
            · simp only [Act.put, List.setIfInBounds_toArray, List.set_cons_zero, List.set_cons_succ, i64_w, i32_w]
              rfl
            refine pure_ (i := 9) (N := some 40) (v := ?_) (a' := ?_) #[true, true, true, true, true, true, true, true, true, true, false, false, false, false, false, false, false] rfl rfl (any_of HT_.out (by kernel_rfl)) (fun _ _ _ h => h) (Or.inl ⟨by rfl, ?_⟩) ?_ ?_
            rotate_left
            · intro w'
              go_simp
              with_reducible rfl
            rotate_left
            · simp only [Act.put, List.setIfInBounds_toArray, List.set_cons_zero, List.set_cons_succ, i64_w, i32_w]
              rfl
            refine take_ (i := 10) (N := some 41) (v := ?_) (a' := ?_) #[true, true, true, true, true, true, true, true, true, true, true, false, false, false, false, false, false] rfl rfl (take_ofW HT_.out HW_.out (by kernel_rfl)) (fun _ _ _ h => h) (Or.inl ⟨by rfl, ?_⟩) hHeld ?_ ?_
            rotate_left
            · rintro w' ⟨s0, s1, s2, s3, s4, s5, s6, s7⟩
              go_simp
              with_reducible rfl
            rotate_left
            · simp only [Act.put, List.setIfInBounds_toArray, List.set_cons_zero, List.set_cons_succ, i64_w, i32_w]
              rfl
            refine take_ (i := 11) (N := some 42) (v := ?_) (a' := ?_) #[true, true, true, true, true, true, true, true, true, true, true, true, false, false, false, false, false] rfl rfl (take_ofW HT_.out HW_.out (by kernel_rfl)) (fun _ _ _ h => h) (Or.inl ⟨by rfl, ?_⟩) hHeld ?_ ?_
            rotate_left
            · rintro w' ⟨s0, s1, s2, s3, s4, s5, s6, s7⟩
              go_simp
              with_reducible rfl
            rotate_left
            · simp only [Act.put, List.setIfInBounds_toArray, List.set_cons_zero, List.set_cons_succ, i64_w, i32_w]
              rfl
            refine one_ (i := 12) (N := some 43) #[true, true, true, true, true, true, true, true, true, true, true, true, true, false, false, false, false] rfl rfl (one_of HT_.out (by kernel_rfl)) (by decide) (fun K hK => ?_)
            refine goesV_ Try.func83 (by kernel_rfl) rfl #[.agg #[.string ((rd_T85 l0 x8_1).f0.f0), .string ((rd_T85 l0 x8_1).f0.f1), .string ((rd_T85 l0 x8_1).f1), .int .i64 ((rd_T85 l0 x8_1).f2)], .agg #[.string a1_0, .string a1_1, .string a1_2, .int .i64 a1_3]] (by rfl) rfl rfl rfl (by (try simp only [List.map_toArray, List.map_cons, List.map_nil]); first | done | rfl | (simp only [List.length_drop, List.length_take]; rfl)) ?_
            with_reducible refine (pledge_compare.calls ((rd_T85 l0 x8_1).f0.f0) ((rd_T85 l0 x8_1).f0.f1) ((rd_T85 l0 x8_1).f1) ((rd_T85 l0 x8_1).f2) a1_0 a1_1 a1_2 a1_3 t434 _ A15.out).mono ?_
            rintro e w17 ⟨rfl, hb⟩
            refine ⟨_, rfl, ?_⟩
            have n0_ := Aside0.mk (blk_below (g := gb430) (o := .cells #[.string a1_0, .string a1_1, .string a1_2, .int .i64 a1_3] 85 (0, 0)) (by (with_reducible repeat (first | refine blk_drewN ?_ _ | refine blk_drew ?_ | refine blk_alloc ?_ _)); exact BK430.out) hb)
            have n1_ := Aside0.mk (below_step (by repeat (first | (with_reducible first | exact HB.out | apply below_alloc | apply pw_below_drewN | apply below_drew1 | refine below_set ?_ GE430.out) | exact HB.out)) hb)
            clear BK430
            clear HB
            have BK430 := n0_
            have HB := n1_
            clear n0_ n1_
            (try clear hb)
            (try clear hb2)
            (try clear hk)
            (try clear hi)
            refine hK.out _ _ ⟨(blk_cell BK430.out 0).trans rfl, (blk_cell BK430.out 1).trans rfl, (blk_cell BK430.out 2).trans rfl, (blk_cell BK430.out 3).trans rfl, ((HB.out.cell (World.block_lt_of_cell? w _ hw433_0)).trans hw433_0), ((HB.out.cell (World.block_lt_of_cell? w _ hw433_1)).trans hw433_1), ((HB.out.cell (World.block_lt_of_cell? w _ hw433_2)).trans hw433_2), ((HB.out.cell (World.block_lt_of_cell? w _ hw433_3)).trans hw433_3)⟩ (fun hHeld => ?_)
            clear hK K
            refine norm_ (a' := ?_) ?_ ?_
            rotate_left
            · show Act.put _ (some 43) _ = _
              simp only [Act.put, List.setIfInBounds_toArray, List.set_cons_zero, List.set_cons_succ, i64_w, i32_w]
              rfl
            refine pure_ (i := 13) (N := some 44) (v := ?_) (a' := ?_) #[true, true, true, true, true, true, true, true, true, true, true, true, true, true, false, false, false] rfl rfl (any_of HT_.out (by kernel_rfl)) (fun _ _ _ h => h) (Or.inl ⟨by rfl, ?_⟩) ?_ ?_
            rotate_left
            · intro w'
              go_simp
              with_reducible rfl
            rotate_left
            · simp only [Act.put, List.setIfInBounds_toArray, List.set_cons_zero, List.set_cons_succ, i64_w, i32_w]
              rfl
            refine pure_ (i := 14) (N := some 45) (v := ?_) (a' := ?_) #[true, true, true, true, true, true, true, true, true, true, true, true, true, true, true, false, false] rfl rfl (any_of HT_.out (by kernel_rfl)) (fun _ _ _ h => h) (Or.inl ⟨by rfl, ?_⟩) ?_ ?_
            rotate_left
            · intro w'
              go_simp
              with_reducible rfl
            rotate_left
            · simp only [Act.put, List.setIfInBounds_toArray, List.set_cons_zero, List.set_cons_succ, i64_w, i32_w]
              rfl
            refine pure_ (i := 15) (N := some 6) (v := ?_) (a' := ?_) #[true, true, true, true, true, true, true, true, true, true, true, true, true, true, true, true, false] rfl rfl (any_of HT_.out (by kernel_rfl)) (fun _ _ _ h => h) (Or.inl ⟨by rfl, ?_⟩) ?_ ?_
            rotate_left
            · intro w'
              go_simp
              with_reducible rfl
            rotate_left
            · simp only [Act.put, List.setIfInBounds_toArray, List.set_cons_zero, List.set_cons_succ, i64_w, i32_w]
              rfl
            refine pure_ (i := 16) (N := some 7) (v := ?_) (a' := ?_) #[true, true, true, true, true, true, true, true, true, true, true, true, true, true, true, true, true] rfl rfl (any_of HT_.out (by kernel_rfl)) (fun _ _ _ h => h) (Or.inl ⟨by rfl, ?_⟩) ?_ ?_
            rotate_left
            · intro w'
              go_simp
              with_reducible rfl
            rotate_left
            · simp only [Act.put, List.setIfInBounds_toArray, List.set_cons_zero, List.set_cons_succ, i64_w, i32_w]
              rfl
            refine done_ (done_of HT_.out (by kernel_rfl)) ?_
            try go_wp2
            go_ret2
            exact ⟨by first | rfl | (simp [errW_none, errW_some] <;> rfl) | (simp [*, errW_none, errW_some] <;> rfl), by repeat (first | (with_reducible first | exact HB.out | apply below_alloc | apply pw_below_drewN | apply below_drew1 | refine below_set ?_ GE430.out) | exact HB.out)⟩
          · rw [if_neg c14] at H
            exact absurd H (by simp)
        · rw [if_neg c13] at H
          have c13b0 : decide (x8_1 < (l0.length : Int)) = false := decide_eq_false c13
          clear c13
          simp only [Option.some.injEq, Prod.mk.injEq] at H
          obtain ⟨rfl, rfl⟩ := H
          try go_wp2
          have n0_ := Aside0.mk (blk_drew BK430.out)
          have n1_ := Aside0.mk (below_drew1 HB.out)
          clear BK430
          clear HB
          have BK430 := n0_
          have HB := n1_
          clear n0_ n1_
          refine start_ (n := 17) (S := fun w' => True) (ds := []) #[false, false, false, false, false, false, false, false, false, false, false, false, false, false, false, false, false] (by kernel_rfl) rfl rfl trivial (fun hHeld => ?_); refine with_tabW pledge_place_api_Pledge.tab7 pledge_place_api_Pledge.bits7 (fun HT_ HW_ => ?_)
          generalize wr.drew = w18 at BK430 HB hHeld ⊢
          refine pure_ (i := 0) (N := some 31) (v := ?_) (a' := ?_) #[true, false, false, false, false, false, false, false, false, false, false, false, false, false, false, false, false] rfl rfl (any_of HT_.out (by kernel_rfl)) (fun _ _ _ h => h) (Or.inl ⟨by rfl, ?_⟩) ?_ ?_
          rotate_left
          · intro w'
            go_simp
            with_reducible rfl
          rotate_left
          · simp only [Act.put, List.setIfInBounds_toArray, List.set_cons_zero, List.set_cons_succ, i64_w, i32_w]
            rfl
          refine pure_ (i := 1) (N := some 32) (v := ?_) (a' := ?_) #[true, true, false, false, false, false, false, false, false, false, false, false, false, false, false, false, false] rfl rfl (any_of HT_.out (by kernel_rfl)) (fun _ _ _ h => h) (Or.inl ⟨by rfl, ?_⟩) ?_ ?_
          rotate_left
          · intro w'
            go_simp
            with_reducible rfl
          rotate_left
          · simp only [Act.put, List.setIfInBounds_toArray, List.set_cons_zero, List.set_cons_succ, i64_w, i32_w]
            rfl
          refine pure_ (i := 2) (N := some 33) (v := ?_) (a' := ?_) #[true, true, true, false, false, false, false, false, false, false, false, false, false, false, false, false, false] rfl rfl (any_of HT_.out (by kernel_rfl)) (fun _ _ _ h => h) (Or.inl ⟨by rfl, ?_⟩) ?_ ?_
          rotate_left
          · intro w'
            go_simp
            with_reducible rfl
          rotate_left
          · simp only [Act.put, List.setIfInBounds_toArray, List.set_cons_zero, List.set_cons_succ, i64_w, i32_w]
            rfl
          refine pure_ (i := 3) (N := some 34) (v := ?_) (a' := ?_) #[true, true, true, true, false, false, false, false, false, false, false, false, false, false, false, false, false] rfl rfl (any_of HT_.out (by kernel_rfl)) (fun _ _ _ h => h) (Or.inl ⟨by rfl, ?_⟩) ?_ ?_
          rotate_left
          · intro w'
            go_simp
            with_reducible rfl
          rotate_left
          · simp only [Act.put, List.setIfInBounds_toArray, List.set_cons_zero, List.set_cons_succ, i64_w, i32_w]
            rfl
          refine pure_ (i := 4) (N := some 35) (v := ?_) (a' := ?_) #[true, true, true, true, true, false, false, false, false, false, false, false, false, false, false, false, false] rfl rfl (any_of HT_.out (by kernel_rfl)) (fun _ _ _ h => h) (Or.inl ⟨by rfl, ?_⟩) ?_ ?_
          rotate_left
          · intro w'
            go_simp
            with_reducible rfl
          rotate_left
          · simp only [Act.put, List.setIfInBounds_toArray, List.set_cons_zero, List.set_cons_succ, i64_w, i32_w]
            rfl
          refine pure_ (i := 5) (N := some 36) (v := ?_) (a' := ?_) #[true, true, true, true, true, true, false, false, false, false, false, false, false, false, false, false, false] rfl rfl (any_of HT_.out (by kernel_rfl)) (fun _ _ _ h => h) (Or.inl ⟨by rfl, ?_⟩) ?_ ?_
          rotate_left
          · intro w'
            go_simp
            with_reducible rfl
          rotate_left
          · simp only [Act.put, List.setIfInBounds_toArray, List.set_cons_zero, List.set_cons_succ, i64_w, i32_w]
            rfl
          refine pure_ (i := 6) (N := some 37) (v := undef) (a' := ?_) #[true, true, true, true, true, true, true, false, false, false, false, false, false, false, false, false, false] rfl rfl (any_of HT_.out (by kernel_rfl)) (fun _ _ _ h => h) (Or.inr ⟨by rfl, rfl⟩) ?_ ?_
          rotate_left
          · simp only [Act.put, List.setIfInBounds_toArray, List.set_cons_zero, List.set_cons_succ, i64_w, i32_w]
            rfl
          refine pure_ (i := 7) (N := some 38) (v := undef) (a' := ?_) #[true, true, true, true, true, true, true, true, false, false, false, false, false, false, false, false, false] rfl rfl (any_of HT_.out (by kernel_rfl)) (fun _ _ _ h => h) (Or.inr ⟨by rfl, rfl⟩) ?_ ?_
          rotate_left
          · simp only [Act.put, List.setIfInBounds_toArray, List.set_cons_zero, List.set_cons_succ, i64_w, i32_w]
            rfl
          refine pure_ (i := 8) (N := some 39) (v := undef) (a' := ?_) #[true, true, true, true, true, true, true, true, true, false, false, false, false, false, false, false, false] rfl rfl (any_of HT_.out (by kernel_rfl)) (fun _ _ _ h => h) (Or.inr ⟨by rfl, rfl⟩) ?_ ?_
          rotate_left
          · simp only [Act.put, List.setIfInBounds_toArray, List.set_cons_zero, List.set_cons_succ, i64_w, i32_w]
            rfl
          refine pure_ (i := 9) (N := some 40) (v := undef) (a' := ?_) #[true, true, true, true, true, true, true, true, true, true, false, false, false, false, false, false, false] rfl rfl (any_of HT_.out (by kernel_rfl)) (fun _ _ _ h => h) (Or.inr ⟨by rfl, rfl⟩) ?_ ?_
          rotate_left
          · simp only [Act.put, List.setIfInBounds_toArray, List.set_cons_zero, List.set_cons_succ, i64_w, i32_w]
            rfl
          refine pure_ (i := 10) (N := some 41) (v := undef) (a' := ?_) #[true, true, true, true, true, true, true, true, true, true, true, false, false, false, false, false, false] rfl rfl (any_of HT_.out (by kernel_rfl)) (fun _ _ _ h => h) (Or.inr ⟨by rfl, rfl⟩) ?_ ?_
          rotate_left
          · simp only [Act.put, List.setIfInBounds_toArray, List.set_cons_zero, List.set_cons_succ, i64_w, i32_w]
            rfl
          refine pure_ (i := 11) (N := some 42) (v := undef) (a' := ?_) #[true, true, true, true, true, true, true, true, true, true, true, true, false, false, false, false, false] rfl rfl (any_of HT_.out (by kernel_rfl)) (fun _ _ _ h => h) (Or.inr ⟨by rfl, rfl⟩) ?_ ?_
          rotate_left
          · simp only [Act.put, List.setIfInBounds_toArray, List.set_cons_zero, List.set_cons_succ, i64_w, i32_w]
            rfl
          refine pure_ (i := 12) (N := some 43) (v := undef) (a' := ?_) #[true, true, true, true, true, true, true, true, true, true, true, true, true, false, false, false, false] rfl rfl (any_of HT_.out (by kernel_rfl)) (fun _ _ _ h => h) (Or.inr ⟨by rfl, rfl⟩) ?_ ?_
          rotate_left
          · simp only [Act.put, List.setIfInBounds_toArray, List.set_cons_zero, List.set_cons_succ, i64_w, i32_w]
            rfl
          refine pure_ (i := 13) (N := some 44) (v := undef) (a' := ?_) #[true, true, true, true, true, true, true, true, true, true, true, true, true, true, false, false, false] rfl rfl (any_of HT_.out (by kernel_rfl)) (fun _ _ _ h => h) (Or.inr ⟨by rfl, rfl⟩) ?_ ?_
          rotate_left
          · simp only [Act.put, List.setIfInBounds_toArray, List.set_cons_zero, List.set_cons_succ, i64_w, i32_w]
            rfl
          refine pure_ (i := 14) (N := some 45) (v := ?_) (a' := ?_) #[true, true, true, true, true, true, true, true, true, true, true, true, true, true, true, false, false] rfl rfl (any_of HT_.out (by kernel_rfl)) (fun _ _ _ h => h) (Or.inl ⟨by rfl, ?_⟩) ?_ ?_
          rotate_left
          · intro w'
            go_simp
            with_reducible rfl
          rotate_left
          · simp only [Act.put, List.setIfInBounds_toArray, List.set_cons_zero, List.set_cons_succ, i64_w, i32_w]
            rfl
          refine pure_ (i := 15) (N := some 6) (v := ?_) (a' := ?_) #[true, true, true, true, true, true, true, true, true, true, true, true, true, true, true, true, false] rfl rfl (any_of HT_.out (by kernel_rfl)) (fun _ _ _ h => h) (Or.inl ⟨by rfl, ?_⟩) ?_ ?_
          rotate_left
          · intro w'
            go_simp
            with_reducible rfl
          rotate_left
          · simp only [Act.put, List.setIfInBounds_toArray, List.set_cons_zero, List.set_cons_succ, i64_w, i32_w]
            rfl
          refine pure_ (i := 16) (N := some 7) (v := ?_) (a' := ?_) #[true, true, true, true, true, true, true, true, true, true, true, true, true, true, true, true, true] rfl rfl (any_of HT_.out (by kernel_rfl)) (fun _ _ _ h => h) (Or.inl ⟨by rfl, ?_⟩) ?_ ?_
          rotate_left
          · intro w'
            go_simp
            with_reducible rfl
          rotate_left
          · simp only [Act.put, List.setIfInBounds_toArray, List.set_cons_zero, List.set_cons_succ, i64_w, i32_w]
            rfl
          refine done_ (done_of HT_.out (by kernel_rfl)) ?_
          try go_wp2
          go_ret2
          exact ⟨by first | rfl | (simp [errW_none, errW_some] <;> rfl) | (simp [*, errW_none, errW_some] <;> rfl), by repeat (first | (with_reducible first | exact HB.out | apply below_alloc | apply pw_below_drewN | apply below_drew1 | refine below_set ?_ GE430.out) | exact HB.out)⟩
def pledge_changed_api_Pledge.f (l0 : List (S85)) (a1 : Int) (a2 : Int) (l3 : List (S85)) : Option ((List (S85))) := if 0 ≤ (wrap64 ((wrap64 ((l0.length : Int) + (l3.length : Int))) - a2)) then (if (wrap64 ((wrap64 ((l0.length : Int) + (l3.length : Int))) - a2) : Int).toNat ≤ 5026338869833 then ((some (([] : List (S85)) : List (S85))).bind fun y435 => (if 0 ≤ a1 then (if a1 ≤ (l0.length : Int) then ((some (l0.take (a1 : Int).toNat : List (S85))).bind fun y438 => (if y435.length + y438.length < 2513169434916 then ((some (y435 ++ y438 : List (S85))).bind fun y442 => (if y442.length + l3.length < 2513169434916 then ((some (y442 ++ l3 : List (S85))).bind fun y445 => (if 0 ≤ (wrap64 (a1 + a2)) then (if (wrap64 (a1 + a2)) ≤ (l0.length : Int) then ((some (l0.drop ((wrap64 (a1 + a2)) : Int).toNat : List (S85))).bind fun y448 => (if y445.length + y448.length < 2513169434916 then (some (y445 ++ y448)) else (none))) else (none)) else (none))) else (none))) else (none))) else (none)) else (none))) else (none)) else (none)
set_option maxHeartbeats 8000000 in
set_option maxRecDepth 100000 in
theorem pledge_changed_api_Pledge.calls (A0 : Option Addr) (c0 : Nat) (l0 : List (S85)) (a1 : Int) (a2 : Int) (A3 : Option Addr) (c3 : Nat) (l3 : List (S85)) (r : List (S85)) (w : World) (hr0 : Kd.C k85 w A0 l0.length l0) (hc0 : l0.length ≤ c0) (hr3 : Kd.C k85 w A3 l3.length l3) (hc3 : l3.length ≤ c3) (h : pledge_changed_api_Pledge.f l0 a1 a2 l3 = some r) :
    Calls Try.prog 84 #[.slice A0 l0.length c0, .int .i64 a1, .int .i64 a2, .slice A3 l3.length c3] w fun e w' => ∃ v0_ : Value, e = .returned (v0_) ∧ Kd.R k85 85 w' w.heap.size (fun _ => True) v0_ r ∧ Below w.heap.size w w' := by
  have HR0 := Aside0.mk hr0
  have HC0 := Aside0.mk hc0
  clear hr0 hc0
  have HR3 := Aside0.mk hr3
  have HC3 := Aside0.mk hc3
  clear hr3 hc3
  have HB := Aside0.mk (Below.refl w.heap.size w)
  have H : (if 0 ≤ (wrap64 ((wrap64 ((l0.length : Int) + (l3.length : Int))) - a2)) then (if (wrap64 ((wrap64 ((l0.length : Int) + (l3.length : Int))) - a2) : Int).toNat ≤ 5026338869833 then ((some (([] : List (S85)) : List (S85))).bind fun y435 => (if 0 ≤ a1 then (if a1 ≤ (l0.length : Int) then ((some (l0.take (a1 : Int).toNat : List (S85))).bind fun y438 => (if y435.length + y438.length < 2513169434916 then ((some (y435 ++ y438 : List (S85))).bind fun y442 => (if y442.length + l3.length < 2513169434916 then ((some (y442 ++ l3 : List (S85))).bind fun y445 => (if 0 ≤ (wrap64 (a1 + a2)) then (if (wrap64 (a1 + a2)) ≤ (l0.length : Int) then ((some (l0.drop ((wrap64 (a1 + a2)) : Int).toNat : List (S85))).bind fun y448 => (if y445.length + y448.length < 2513169434916 then (some (y445 ++ y448)) else (none))) else (none)) else (none))) else (none))) else (none))) else (none)) else (none))) else (none)) else (none)) = some r := h
  clear h
  obtain ⟨ji5, hji5⟩ : ∃ j_ : Int, (wrap64 ((wrap64 ((l0.length : Int) + (l3.length : Int))) - a2)) = j_ := ⟨_, rfl⟩
  replace H : (if 0 ≤ (ji5) then (if (ji5 : Int).toNat ≤ 5026338869833 then ((some (([] : List (S85)) : List (S85))).bind fun y435 => (if 0 ≤ a1 then (if a1 ≤ (l0.length : Int) then ((some (l0.take (a1 : Int).toNat : List (S85))).bind fun y438 => (if y435.length + y438.length < 2513169434916 then ((some (y435 ++ y438 : List (S85))).bind fun y442 => (if y442.length + l3.length < 2513169434916 then ((some (y442 ++ l3 : List (S85))).bind fun y445 => (if 0 ≤ (wrap64 (a1 + a2)) then (if (wrap64 (a1 + a2)) ≤ (l0.length : Int) then ((some (l0.drop ((wrap64 (a1 + a2)) : Int).toNat : List (S85))).bind fun y448 => (if y445.length + y448.length < 2513169434916 then (some (y445 ++ y448)) else (none))) else (none)) else (none))) else (none))) else (none))) else (none)) else (none))) else (none)) else (none)) = some r := by first | (rw [hji5] at H; exact H) | (simp only [hji5] at H ⊢; exact H)
  have hji5w : (IntKind.i64.wrap ((wrap64 ((l0.length : Int) + (l3.length : Int))) - a2)) = ji5 := (i64_w _).trans hji5
  by_cases c6 : 0 ≤ (ji5)
  · rw [if_pos c6] at H
    have c6b0 := eq_true c6
    have c6b1 : decide (0 ≤ (ji5)) = true := decide_eq_true c6
    clear c6
    by_cases c7 : (ji5 : Int).toNat ≤ 5026338869833
    · rw [if_pos c7] at H
      have c7b0 := eq_true c7
      have c7b1 : decide ((ji5 : Int).toNat ≤ 5026338869833) = true := decide_eq_true c7
      clear c7
      obtain ⟨y435, hy435⟩ : ∃ y_ : List (S85), y_ = (([] : List (S85))) := ⟨_, rfl⟩
      replace H : (if 0 ≤ a1 then (if a1 ≤ (l0.length : Int) then ((some (l0.take (a1 : Int).toNat : List (S85))).bind fun y438 => (if y435.length + y438.length < 2513169434916 then ((some (y435 ++ y438 : List (S85))).bind fun y442 => (if y442.length + l3.length < 2513169434916 then ((some (y442 ++ l3 : List (S85))).bind fun y445 => (if 0 ≤ (wrap64 (a1 + a2)) then (if (wrap64 (a1 + a2)) ≤ (l0.length : Int) then ((some (l0.drop ((wrap64 (a1 + a2)) : Int).toNat : List (S85))).bind fun y448 => (if y445.length + y448.length < 2513169434916 then (some (y445 ++ y448)) else (none))) else (none)) else (none))) else (none))) else (none))) else (none)) else (none)) = some r := by first | (rw [hy435]; with_reducible exact H) | (have H2_ := (Option.bind_some _ _).symm.trans H; rw [hy435]; with_reducible exact H2_) | (have H2_ := (Option.bind_some _ _).symm.trans H; with_reducible exact H2_) | with_reducible exact H | (rw [hy435]; exact H) | exact H
      have Ny435 := Aside0.mk hy435
      clear hy435
      by_cases c8 : 0 ≤ a1
      · rw [if_pos c8] at H
        have c8b0 := eq_true c8
        have c8b1 : decide (0 ≤ a1) = true := decide_eq_true c8
        clear c8
        by_cases c9 : a1 ≤ (l0.length : Int)
        · rw [if_pos c9] at H
          have c9b0 := eq_true c9
          have c9b1 : decide (a1 ≤ (l0.length : Int)) = true := decide_eq_true c9
          clear c9
          obtain ⟨y438, hy438⟩ : ∃ y_ : List (S85), y_ = (l0.take (a1 : Int).toNat) := ⟨_, rfl⟩
          replace H : (if y435.length + y438.length < 2513169434916 then ((some (y435 ++ y438 : List (S85))).bind fun y442 => (if y442.length + l3.length < 2513169434916 then ((some (y442 ++ l3 : List (S85))).bind fun y445 => (if 0 ≤ (wrap64 (a1 + a2)) then (if (wrap64 (a1 + a2)) ≤ (l0.length : Int) then ((some (l0.drop ((wrap64 (a1 + a2)) : Int).toNat : List (S85))).bind fun y448 => (if y445.length + y448.length < 2513169434916 then (some (y445 ++ y448)) else (none))) else (none)) else (none))) else (none))) else (none)) = some r := by first | (rw [hy438]; with_reducible exact H) | (have H2_ := (Option.bind_some _ _).symm.trans H; rw [hy438]; with_reducible exact H2_) | (have H2_ := (Option.bind_some _ _).symm.trans H; with_reducible exact H2_) | with_reducible exact H | (rw [hy438]; exact H) | exact H
          have Ny438 := Aside0.mk hy438
          clear hy438
          by_cases c10 : y435.length + y438.length < 2513169434916
          · rw [if_pos c10] at H
            have LMc10 := Aside0.mk c10
            clear c10
            obtain ⟨y442, hy442⟩ : ∃ y_ : List (S85), y_ = (y435 ++ y438) := ⟨_, rfl⟩
            replace H : (if y442.length + l3.length < 2513169434916 then ((some (y442 ++ l3 : List (S85))).bind fun y445 => (if 0 ≤ (wrap64 (a1 + a2)) then (if (wrap64 (a1 + a2)) ≤ (l0.length : Int) then ((some (l0.drop ((wrap64 (a1 + a2)) : Int).toNat : List (S85))).bind fun y448 => (if y445.length + y448.length < 2513169434916 then (some (y445 ++ y448)) else (none))) else (none)) else (none))) else (none)) = some r := by first | (rw [hy442]; with_reducible exact H) | (have H2_ := (Option.bind_some _ _).symm.trans H; rw [hy442]; with_reducible exact H2_) | (have H2_ := (Option.bind_some _ _).symm.trans H; with_reducible exact H2_) | with_reducible exact H | (rw [hy442]; exact H) | exact H
            have Ny442 := Aside0.mk hy442
            clear hy442
            by_cases c11 : y442.length + l3.length < 2513169434916
            · rw [if_pos c11] at H
              have LMc11 := Aside0.mk c11
              clear c11
              obtain ⟨y445, hy445⟩ : ∃ y_ : List (S85), y_ = (y442 ++ l3) := ⟨_, rfl⟩
              replace H : (if 0 ≤ (wrap64 (a1 + a2)) then (if (wrap64 (a1 + a2)) ≤ (l0.length : Int) then ((some (l0.drop ((wrap64 (a1 + a2)) : Int).toNat : List (S85))).bind fun y448 => (if y445.length + y448.length < 2513169434916 then (some (y445 ++ y448)) else (none))) else (none)) else (none)) = some r := by first | (rw [hy445]; with_reducible exact H) | (have H2_ := (Option.bind_some _ _).symm.trans H; rw [hy445]; with_reducible exact H2_) | (have H2_ := (Option.bind_some _ _).symm.trans H; with_reducible exact H2_) | with_reducible exact H | (rw [hy445]; exact H) | exact H
              have Ny445 := Aside0.mk hy445
              clear hy445
              obtain ⟨ji12, hji12⟩ : ∃ j_ : Int, (wrap64 (a1 + a2)) = j_ := ⟨_, rfl⟩
              replace H : (if 0 ≤ (ji12) then (if (ji12) ≤ (l0.length : Int) then ((some (l0.drop ((ji12) : Int).toNat : List (S85))).bind fun y448 => (if y445.length + y448.length < 2513169434916 then (some (y445 ++ y448)) else (none))) else (none)) else (none)) = some r := by first | (rw [hji12] at H; exact H) | (simp only [hji12] at H ⊢; exact H)
              have hji12w : (IntKind.i64.wrap (a1 + a2)) = ji12 := (i64_w _).trans hji12
              by_cases c13 : 0 ≤ (ji12)
              · rw [if_pos c13] at H
                have c13b0 := eq_true c13
                have c13b1 : decide (0 ≤ (ji12)) = true := decide_eq_true c13
                clear c13
                by_cases c14 : (ji12) ≤ (l0.length : Int)
                · rw [if_pos c14] at H
                  have c14b0 := eq_true c14
                  have c14b1 : decide ((ji12) ≤ (l0.length : Int)) = true := decide_eq_true c14
                  clear c14
                  obtain ⟨y448, hy448⟩ : ∃ y_ : List (S85), y_ = (l0.drop ((ji12) : Int).toNat) := ⟨_, rfl⟩
                  replace H : (if y445.length + y448.length < 2513169434916 then (some (y445 ++ y448)) else (none)) = some r := by first | (rw [hy448]; with_reducible exact H) | (have H2_ := (Option.bind_some _ _).symm.trans H; rw [hy448]; with_reducible exact H2_) | (have H2_ := (Option.bind_some _ _).symm.trans H; with_reducible exact H2_) | with_reducible exact H | (rw [hy448]; exact H) | exact H
                  have Ny448 := Aside0.mk hy448
                  clear hy448
                  by_cases c15 : y445.length + y448.length < 2513169434916
                  · rw [if_pos c15] at H
                    have LMc15 := Aside0.mk c15
                    clear c15
                    obtain ⟨y452, hy452⟩ : ∃ y_ : List (S85), y_ = (y445 ++ y448) := ⟨_, rfl⟩
                    replace H : (some y452) = some r := by first | (rw [hy452]; with_reducible exact H) | (have H2_ := (Option.bind_some _ _).symm.trans H; rw [hy452]; with_reducible exact H2_) | (have H2_ := (Option.bind_some _ _).symm.trans H; with_reducible exact H2_) | with_reducible exact H | (rw [hy452]; exact H) | exact H
                    have Ny452 := Aside0.mk hy452
                    clear hy452
                    obtain rfl := Option.some.inj H
                    go_enter Try.func84, Try.ntmps84
                    go_wp2_with (first | ((with_reducible refine gate_dst (N := 17) rfl ?_); refine R_make0 k85 _ 85 rfl (N := 17) rfl 65 _ _ rfl ji5 rfl rfl Try.underlying65 (.agg #[(.string ⟨#[]⟩), (.string ⟨#[]⟩), (.string ⟨#[]⟩), (.int .i64 0)]) 56 info85 rfl (by omega) (ok := fun _ => True) trivial (of_decide_eq_true (by first | (with_reducible assumption) | assumption)) (Nat.le_trans (Nat.mul_le_mul_right _ (of_decide_eq_true (by first | (with_reducible assumption) | assumption) : ji5.toNat ≤ 5026338869833)) (by omega)) (Below.refl _ _) (Nat.le_refl _) ?_; intro v436 w16 ho17 hb hg_ hnew_; clear hg_ hnew_; (first | rw [← Ny435.out] at ho17 | (simp only [Int.reduceToNat] at ho17; rw [← Ny435.out] at ho17)); have n0_ := Aside0.mk (Kd.R_lower ho17 (below_size (by repeat (first | (with_reducible first | exact HB.out | apply below_alloc | apply pw_below_drewN | apply below_drew1) | exact HB.out)))); have n1_ := Aside0.mk (below_step (by repeat (first | (with_reducible first | exact HB.out | apply below_alloc | apply pw_below_drewN | apply below_drew1) | exact HB.out)) hb); clear HB; have HO437 := n0_; have HB := n1_; clear n0_ n1_; clear hb ho17; have q18 : (a1 : Int) ≤ ((l0.length : Int) : Int) := of_decide_eq_true (by first | (with_reducible assumption) | assumption); obtain ⟨i018, hi018, _, hsz18, _⟩ := info_parts info85; have hroom18 : l0.length ≤ c0 := HC0.out; have hC18 : Kd.C k85 _ A0 l0.length l0 := HR0.out; have hcut18 := cut_to (P := Try.prog) 65 85 .i64 Try.underlying65 hi018 A0 l0.length c0 a1 (of_decide_eq_true (by first | (with_reducible assumption) | assumption)) q18 hroom18; have hr18 := Kd.C_take (m := (a1 : Int).toNat) hC18 (by omega); have hy18 : y438.length = (a1 : Int).toNat := (by rw [Ny438.out, List.length_take]; omega); rw [← Ny438.out] at hr18; rw [← hy18] at hcut18; have HR441 := Aside0.mk hr18; have HC441 := Aside0.mk (show y438.length ≤ c0 from by omega); clear hr18 hC18 hroom18 hi018 hsz18; have KY18 := Aside0.mk hy18; clear hy18; replace q18 := eq_true q18) | ((with_reducible refine gate_builtin (b := .append) (xs := #[.tmp 18, .tmp 21]) rfl ?_); at_builtin; refine Kd.R_append_rows k85 (w0 := w) w.heap.size rfl (.tmp 18) (.tmp 21) 65 85 (.agg #[(.string ⟨#[]⟩), (.string ⟨#[]⟩), (.string ⟨#[]⟩), (.int .i64 0)]) 56 rfl Try.underlying65 info85 rfl (by decide) (by omega) v436 y435 y438 _ _ _ (fun _ => True) (fun _ => False) rfl rfl ?aO ?aR (fun _ _ h => h) (fun _ h => h.elim) ?aF ?aB ?aS ?aL ?_; (case aR => repeat (first | exact (Kd.C_below HR441.out HB.out) | (with_reducible refine Kd.C_alloc ?_ _) | (with_reducible refine Kd.C_drewN ?_ _) | (with_reducible refine Kd.C_drew ?_))); (case aB => exact (by repeat (first | (with_reducible first | exact HB.out | apply below_alloc | apply pw_below_drewN | apply below_drew1) | exact HB.out))); (case aF => exact (fun _ _ => trivial)); (case aO => exact (by (with_reducible repeat (first | apply Kd.R_alloc | apply Kd.R_drewN | apply Kd.R_drew)); exact HO437.out)); (case aS => exact (below_size (by repeat (first | (with_reducible first | exact HB.out | apply below_alloc | apply pw_below_drewN | apply below_drew1) | exact HB.out)))); (case aL => have := LMc10.out; omega); intro v443 w19 ho hb hg hat; rw [← Ny442.out] at ho; have n0_ := Aside0.mk (hb); have n1_ := Aside0.mk (ho); clear HB; clear HO437; have HB := n0_; have HO444 := n1_; clear n0_ n1_; clear ho hb hg hat) | ((with_reducible refine gate_builtin (b := .append) (xs := #[.tmp 23, .tmp 24]) rfl ?_); at_builtin; refine Kd.R_append_rows k85 (w0 := w) w.heap.size rfl (.tmp 23) (.tmp 24) 65 85 (.agg #[(.string ⟨#[]⟩), (.string ⟨#[]⟩), (.string ⟨#[]⟩), (.int .i64 0)]) 56 rfl Try.underlying65 info85 rfl (by decide) (by omega) v443 y442 l3 _ _ _ (fun _ => True) (fun _ => False) rfl rfl ?aO ?aR (fun _ _ h => h) (fun _ h => h.elim) ?aF ?aB ?aS ?aL ?_; (case aR => repeat (first | exact (Kd.C_below HR3.out HB.out) | (with_reducible refine Kd.C_alloc ?_ _) | (with_reducible refine Kd.C_drewN ?_ _) | (with_reducible refine Kd.C_drew ?_))); (case aB => exact (by repeat (first | (with_reducible first | exact HB.out | apply below_alloc | apply pw_below_drewN | apply below_drew1) | exact HB.out))); (case aF => exact (fun _ _ => trivial)); (case aO => exact (by (with_reducible repeat (first | apply Kd.R_alloc | apply Kd.R_drewN | apply Kd.R_drew)); exact HO444.out)); (case aS => exact (below_size (by repeat (first | (with_reducible first | exact HB.out | apply below_alloc | apply pw_below_drewN | apply below_drew1) | exact HB.out)))); (case aL => have := LMc11.out; omega); intro v446 w20 ho hb hg hat; rw [← Ny445.out] at ho; have n0_ := Aside0.mk (hb); have n1_ := Aside0.mk (ho); clear HB; clear HO444; have HB := n0_; have HO447 := n1_; clear n0_ n1_; clear ho hb hg hat; have q21 : ((ji12) : Int) ≤ ((l0.length : Int) : Int) := of_decide_eq_true (by first | (with_reducible assumption) | assumption); obtain ⟨i021, hi021, _, hsz21, _⟩ := info_parts info85; have hroom21 : l0.length ≤ c0 := HC0.out; have hC21 : Kd.C k85 _ A0 l0.length l0 := HR0.out; have q021 : (0 : Int) ≤ ((ji12) : Int) := of_decide_eq_true (by first | (with_reducible assumption) | assumption); have hcut21 := cut_from (P := Try.prog) 65 85 .i64 Try.underlying65 hi021 4 hsz21 A0 l0.length c0 (ji12) q021 q21; have hr21 := Kd.C_drop (m := ((ji12) : Int).toNat) (c := c0) hC21 (by omega) hroom21; obtain ⟨A21, hA21⟩ : ∃ A1, A1 = (if c0 = ((ji12) : Int).toNat then A0 else (A0 : Option Addr).map (·.add (((ji12) : Int).toNat * 4))) := ⟨_, rfl⟩; obtain ⟨c21, hc21⟩ : ∃ c1, c1 = c0 - ((ji12) : Int).toNat := ⟨_, rfl⟩; have hy21 : y448.length = l0.length - ((ji12) : Int).toNat := (by rw [Ny448.out, List.length_drop] <;> omega); rw [show (l0).drop ((ji12) : Int).toNat = y448 from Ny448.out.symm] at hr21; replace hr21 : Kd.C k85 _ A21 y448.length y448 := (by rw [hA21]; exact hr21); rw [← hy21, ← hA21, ← hc21] at hcut21; have HR451 := Aside0.mk hr21; have HC451 := Aside0.mk (show y448.length ≤ c21 from by rw [hy21, hc21]; exact Nat.sub_le_sub_right hroom21 _); clear hr21 hC21 hroom21 hi021 hsz21 hc21; have KY21 := Aside0.mk hy21; have KA21 := Aside0.mk hA21; clear hy21 hA21; replace q21 := eq_true q21) | ((with_reducible refine gate_builtin (b := .append) (xs := #[.tmp 26, .tmp 31]) rfl ?_); at_builtin; refine Kd.R_append_rows k85 (w0 := w) w.heap.size rfl (.tmp 26) (.tmp 31) 65 85 (.agg #[(.string ⟨#[]⟩), (.string ⟨#[]⟩), (.string ⟨#[]⟩), (.int .i64 0)]) 56 rfl Try.underlying65 info85 rfl (by decide) (by omega) v446 y445 y448 _ _ _ (fun _ => True) (fun _ => False) rfl rfl ?aO ?aR (fun _ _ h => h) (fun _ h => h.elim) ?aF ?aB ?aS ?aL ?_; (case aR => repeat (first | exact (Kd.C_below HR451.out HB.out) | (with_reducible refine Kd.C_alloc ?_ _) | (with_reducible refine Kd.C_drewN ?_ _) | (with_reducible refine Kd.C_drew ?_))); (case aB => exact (by repeat (first | (with_reducible first | exact HB.out | apply below_alloc | apply pw_below_drewN | apply below_drew1) | exact HB.out))); (case aF => exact (fun _ _ => trivial)); (case aO => exact (by (with_reducible repeat (first | apply Kd.R_alloc | apply Kd.R_drewN | apply Kd.R_drew)); exact HO447.out)); (case aS => exact (below_size (by repeat (first | (with_reducible first | exact HB.out | apply below_alloc | apply pw_below_drewN | apply below_drew1) | exact HB.out)))); (case aL => have := LMc15.out; omega); intro v453 w22 ho hb hg hat; rw [← Ny452.out] at ho; have n0_ := Aside0.mk (hb); have n1_ := Aside0.mk (ho); clear HB; clear HO447; have HB := n0_; have HO454 := n1_; clear n0_ n1_; clear ho hb hg hat))
                    go_ret
                    exact ⟨_, by first | rfl | (simp [errW_none, errW_some] <;> rfl) | (simp only [← hji5, ← hji12]; first | rfl | (simp [errW_none, errW_some] <;> rfl)) | (simp [*, errW_none, errW_some] <;> rfl), by (with_reducible repeat (first | apply Kd.R_alloc | apply Kd.R_drewN | apply Kd.R_drew)); exact HO454.out, by repeat (first | (with_reducible first | exact HB.out | apply below_alloc | apply pw_below_drewN | apply below_drew1) | exact HB.out)⟩
                  · rw [if_neg c15] at H
                    exact absurd H (by simp)
                · rw [if_neg c14] at H
                  exact absurd H (by simp)
              · rw [if_neg c13] at H
                exact absurd H (by simp)
            · rw [if_neg c11] at H
              exact absurd H (by simp)
          · rw [if_neg c10] at H
            exact absurd H (by simp)
        · rw [if_neg c9] at H
          exact absurd H (by simp)
      · rw [if_neg c8] at H
        exact absurd H (by simp)
    · rw [if_neg c7] at H
      exact absurd H (by simp)
  · rw [if_neg c6] at H
    exact absurd H (by simp)
def pledge_with.f (k : Nat) (l0 : List (S85)) (a1_0 : ByteArray) (a1_1 : ByteArray) (a1_2 : ByteArray) (a1_3 : Int) : Option ((List (S85)) × Int) := (pledge_place_api_Pledge.f k l0 a1_0 a1_1 a1_2 a1_3).bind fun bt456 => (if bt456.2 = true then (if 0 ≤ bt456.1 then (if bt456.1 < (l0.length : Int) then (if a1_3 > (wrap64 (1152921504606846976 - ((rd_T85 l0 bt456.1).f2))) then (some (([] : List (S85)), 18)) else ((pledge_changed_api_Pledge.f l0 bt456.1 1 (([(⟨(⟨a1_0, a1_1⟩ : S67), a1_2, wrap64 (a1_3 + ((rd_T85 l0 bt456.1).f2))⟩ : S85)] : List (S85)))).bind fun t463 => (some (t463, 0)))) else (none)) else (none)) else ((pledge_changed_api_Pledge.f l0 bt456.1 0 (([(⟨(⟨a1_0, a1_1⟩ : S67), a1_2, a1_3⟩ : S85)] : List (S85)))).bind fun t469 => (some (t469, 0))))
theorem pledge_with.mono : ∀ a0 a1 a2 a3 a4 k, LeO (pledge_with.f k a0 a1 a2 a3 a4) (pledge_with.f (k + 1) a0 a1 a2 a3 a4) := by
  intro a0 a1 a2 a3 a4 k
  unfold pledge_with.f
  repeat' first
      | (with_reducible exact pledge_place_api_Pledge.mono _ _ _ _ _ _)
      | (with_reducible exact LeO.refl _)
      | (with_reducible exact LeO.none _)
      | (with_reducible refine LeO.ite ?_ ?_)
      | (with_reducible refine LeO.bind ?_ (fun _ => ?_))
      | exact pledge_place_api_Pledge.mono _ _ _ _ _ _
      | exact LeO.none _
      | refine LeO.ite ?_ ?_
      | refine LeO.bind ?_ (fun _ => ?_)
def pledge_with.T4 : Bool × List (List Nat × List Nat) := (true, [([], []), ([0], [0]), ([], []), ([], []), ([2, 3], [2, 3]), ([4], [4]), ([5], [5]), ([6], [6]), ([1, 7], [1, 7])])
def pledge_with.B4 : List Nat := [0, 1, 0, 0, 12, 28, 60, 124, 255]
theorem pledge_with.tab4 : rtab .any (opsOf Try.f81 4) = pledge_with.T4 := by kernel_rfl
theorem pledge_with.bits4 : waitsOk pledge_with.T4.2 pledge_with.B4 = true := by kernel_rfl
def pledge_with.T6 : Bool × List (List Nat × List Nat) := (true, [([], []), ([0], [0]), ([], []), ([], []), ([2, 3], [2, 3]), ([4], [4]), ([5], [5]), ([1, 6], [1, 6]), ([0, 1, 2, 3, 4, 5, 6, 7], []), ([8, 7, 0, 1, 2, 3, 4, 5, 6, 7], [7, 8])])
def pledge_with.B6 : List Nat := [0, 1, 0, 0, 12, 28, 60, 127, 255, 511]
theorem pledge_with.tab6 : rtab .any (opsOf Try.f81 6) = pledge_with.T6 := by kernel_rfl
theorem pledge_with.bits6 : waitsOk pledge_with.T6.2 pledge_with.B6 = true := by kernel_rfl
set_option maxHeartbeats 8000000 in
set_option maxRecDepth 100000 in
theorem pledge_with.calls (k : Nat) (A0 : Option Addr) (c0 : Nat) (l0 : List (S85)) (a1_0 : ByteArray) (a1_1 : ByteArray) (a1_2 : ByteArray) (a1_3 : Int) (r1 : List (S85)) (r2 : Int) (w : World) (hr0 : Kd.C k85 w A0 l0.length l0) (hc0 : l0.length ≤ c0) (h : pledge_with.f k l0 a1_0 a1_1 a1_2 a1_3 = some (r1, r2)) :
    Calls Try.prog 81 #[.slice A0 l0.length c0, .agg #[.string a1_0, .string a1_1, .string a1_2, .int .i64 a1_3]] w fun e w' => ∃ v0_ : Value, e = .returned (.tuple #[v0_, .int .i64 r2]) ∧ Kd.R k85 85 w' w.heap.size (fun _ => True) v0_ r1 ∧ Below w.heap.size w w' := by
  have hu85 := Try.underlying85
  have HR0 := Aside0.mk hr0
  have HC0 := Aside0.mk hc0
  clear hr0 hc0
  have HB := Aside0.mk (Below.refl w.heap.size w)
  have H : ((pledge_place_api_Pledge.f k l0 a1_0 a1_1 a1_2 a1_3).bind fun bt456 => (if bt456.2 = true then (if 0 ≤ bt456.1 then (if bt456.1 < (l0.length : Int) then (if a1_3 > (wrap64 (1152921504606846976 - ((rd_T85 l0 bt456.1).f2))) then (some (([] : List (S85)), 18)) else ((pledge_changed_api_Pledge.f l0 bt456.1 1 (([(⟨(⟨a1_0, a1_1⟩ : S67), a1_2, wrap64 (a1_3 + ((rd_T85 l0 bt456.1).f2))⟩ : S85)] : List (S85)))).bind fun t463 => (some (t463, 0)))) else (none)) else (none)) else ((pledge_changed_api_Pledge.f l0 bt456.1 0 (([(⟨(⟨a1_0, a1_1⟩ : S67), a1_2, a1_3⟩ : S85)] : List (S85)))).bind fun t469 => (some (t469, 0))))) = some (r1, r2) := h
  clear h
  replace H := Option.bind_eq_some_iff.mp H
  obtain ⟨⟨t456, t457⟩, A30, H⟩ := H
  replace H : (if t457 = true then (if 0 ≤ t456 then (if t456 < (l0.length : Int) then (if a1_3 > (wrap64 (1152921504606846976 - ((rd_T85 l0 t456).f2))) then (some (([] : List (S85)), 18)) else ((pledge_changed_api_Pledge.f l0 t456 1 (([(⟨(⟨a1_0, a1_1⟩ : S67), a1_2, wrap64 (a1_3 + ((rd_T85 l0 t456).f2))⟩ : S85)] : List (S85)))).bind fun t463 => (some (t463, 0)))) else (none)) else (none)) else ((pledge_changed_api_Pledge.f l0 t456 0 (([(⟨(⟨a1_0, a1_1⟩ : S67), a1_2, a1_3⟩ : S85)] : List (S85)))).bind fun t469 => (some (t469, 0)))) = some (r1, r2) := H
  have A3 := Aside0.mk A30
  clear A30
  go_enter Try.func81, Try.ntmps81
  go_upto_if 15 with (first | ((with_reducible refine gate_dst (N := 3) rfl ?_); refine box_event ?hg (N := 3) ?hd (cs := #[.string a1_0, .string a1_1, .string a1_2, .int .i64 a1_3]) (t := 85) ?hr ?_; (case hd => rfl); (case hg => rfl); (case hr => first | (go_simp; done) | (go_simp; rfl)); intro gb455 hg w4 hbox hb; have n0_ := Aside0.mk (below_step (by repeat (first | (with_reducible first | exact HB.out | apply below_alloc | apply pw_below_drewN | apply below_drew1) | exact HB.out)) hb); have n1_ := Aside0.mk (hbox); have n2_ := Aside0.mk ((by rw [hg]; exact (below_size (by repeat (first | (with_reducible first | exact HB.out | apply below_alloc | apply pw_below_drewN | apply below_drew1) | exact HB.out))) : w.heap.size ≤ gb455)); have n3_ := Aside0.mk ((by rw [hg]; exact (below_size (by repeat (first | (with_reducible first | exact HB.out | apply below_alloc | apply pw_below_drewN | apply below_drew1) | exact HB.out))) : w.heap.size ≤ gb455)); clear HB; have HB := n0_; have BK455 := n1_; have GW455 := n2_; have GE455 := n3_; clear n0_ n1_ n2_ n3_; clear hb hbox hg; have hcz5_0 : w4.cell? ⟨gb455, 0, none⟩ = some (.string a1_0) := (blk_cell BK455.out 0).trans rfl; have hcz5_1 : w4.cell? ⟨gb455, 1, none⟩ = some (.string a1_1) := (blk_cell BK455.out 1).trans rfl; have hcz5_2 : w4.cell? ⟨gb455, 2, none⟩ = some (.string a1_2) := (blk_cell BK455.out 2).trans rfl; have hcz5_3 : w4.cell? ⟨gb455, 3, none⟩ = some (.int .i64 a1_3) := (blk_cell BK455.out 3).trans rfl; have hfz5_0 := blk_frozen BK455.out 0; have hfz5_1 := blk_frozen BK455.out 1; have hfz5_2 := blk_frozen BK455.out 2; have hfz5_3 := blk_frozen BK455.out 3) | ((with_reducible refine gate_callee (f := 82) rfl ?_); refine goesL_ (some 11) rfl rfl Try.func82 (by kernel_rfl) rfl #[.slice A0 l0.length c0, .agg #[.string a1_0, .string a1_1, .string a1_2, .int .i64 a1_3], .func (.func 83) #[] #[]] rfl (by (try simp only [List.map_toArray, List.map_cons, List.map_nil]); first | done | rfl | (simp only [List.length_drop, List.length_take]; rfl)) ?_; (with_reducible refine (pledge_place_api_Pledge.calls k _ _ l0 a1_0 a1_1 a1_2 a1_3  t456 t457 _ ?side1 ?side2 A3.out).mono ?_); (case side1 => repeat (first | exact (Kd.C_below HR0.out HB.out) | (with_reducible refine Kd.C_alloc ?_ _) | (with_reducible refine Kd.C_drewN ?_ _) | (with_reducible refine Kd.C_drew ?_))); (case side2 => exact HC0.out); rintro e w6 ⟨rfl, hb⟩; refine ⟨_, rfl, ?_⟩; have n0_ := Aside0.mk (blk_below (g := gb455) (o := .cells #[.string a1_0, .string a1_1, .string a1_2, .int .i64 a1_3] 85 (0, 0)) (by (with_reducible repeat (first | refine blk_drewN ?_ _ | refine blk_drew ?_ | refine blk_alloc ?_ _)); exact BK455.out) hb); have n1_ := Aside0.mk (below_step (by repeat (first | (with_reducible first | exact HB.out | apply below_alloc | apply pw_below_drewN | apply below_drew1 | refine below_set ?_ GE455.out) | exact HB.out)) hb); clear BK455; clear HB; have BK455 := n0_; have HB := n1_; clear n0_ n1_; (try clear hb); (try clear hb2); (try clear hk); (try clear hi)))
  (try simp only [Act.put, List.setIfInBounds_toArray, List.set_cons_zero, List.set_cons_succ])
  by_cases c7 : t457 = true
  · subst c7
    have H1 : (if 0 ≤ t456 then (if t456 < (l0.length : Int) then (if a1_3 > (wrap64 (1152921504606846976 - ((rd_T85 l0 t456).f2))) then (some (([] : List (S85)), 18)) else ((pledge_changed_api_Pledge.f l0 t456 1 (([(⟨(⟨a1_0, a1_1⟩ : S67), a1_2, wrap64 (a1_3 + ((rd_T85 l0 t456).f2))⟩ : S85)] : List (S85)))).bind fun t463 => (some (t463, 0)))) else (none)) else (none)) = some (r1, r2) := by rw [if_pos rfl] at H; exact H
    clear H
    have H := H1
    clear H1
    by_cases c8 : 0 ≤ t456
    · rw [if_pos c8] at H
      have c8b0 : decide (0 ≤ t456) = true := decide_eq_true c8
      clear c8
      (try simp only [c8b0])
      by_cases c9 : t456 < (l0.length : Int)
      · rw [if_pos c9] at H
        have c9b0 : decide (t456 < (l0.length : Int)) = true := decide_eq_true c9
        clear c9
        try go_wp2
        have n0_ := Aside0.mk (blk_drew BK455.out)
        have n1_ := Aside0.mk (below_drew1 HB.out)
        clear BK455
        clear HB
        have BK455 := n0_
        have HB := n1_
        clear n0_ n1_
        have p458 : 0 ≤ (t456 : Int) := of_decide_eq_true (by first | (with_reducible assumption) | assumption)
        have q458 : t456 < (l0.length : Int) := of_decide_eq_true (by first | (with_reducible assumption) | assumption)
        obtain ⟨ad458, e458, hx458_0, hx458_1, hx458_2, hx458_3⟩ := at_T85 HR0.out t456 p458 q458
        have hw458_3 := hx458_3
        have hw458_2 := hx458_2
        have hw458_1 := hx458_1
        have hw458_0 := hx458_0
        cases e458
        replace hx458_0 := (HB.out.cell (World.block_lt_of_cell? w _ hx458_0)).trans hx458_0
        replace hx458_1 := (HB.out.cell (World.block_lt_of_cell? w _ hx458_1)).trans hx458_1
        replace hx458_2 := (HB.out.cell (World.block_lt_of_cell? w _ hx458_2)).trans hx458_2
        replace hx458_3 := (HB.out.cell (World.block_lt_of_cell? w _ hx458_3)).trans hx458_3
        replace p458 := eq_true p458
        replace q458 := eq_true q458
        refine start_ (n := 9) (S := fun w' => w'.cell? ⟨gb455, 0, none⟩ = some (.string a1_0) ∧ w'.cell? ⟨gb455, 1, none⟩ = some (.string a1_1) ∧ w'.cell? ⟨gb455, 2, none⟩ = some (.string a1_2) ∧ w'.cell? ⟨gb455, 3, none⟩ = some (.int .i64 a1_3) ∧ w'.cell? (ad458.add ((t456).toNat * 4)) = some (.string ((rd_T85 l0 t456).f0.f0)) ∧ w'.cell? ⟨(ad458.add ((t456).toNat * 4)).block, (ad458.add ((t456).toNat * 4)).off + 1, none⟩ = some (.string ((rd_T85 l0 t456).f0.f1)) ∧ w'.cell? ⟨(ad458.add ((t456).toNat * 4)).block, (ad458.add ((t456).toNat * 4)).off + 2, none⟩ = some (.string ((rd_T85 l0 t456).f1)) ∧ w'.cell? ⟨(ad458.add ((t456).toNat * 4)).block, (ad458.add ((t456).toNat * 4)).off + 3, none⟩ = some (.int .i64 ((rd_T85 l0 t456).f2))) (ds := []) #[false, false, false, false, false, false, false, false, false] (by kernel_rfl) rfl rfl ⟨(blk_cell BK455.out 0).trans rfl, (blk_cell BK455.out 1).trans rfl, (blk_cell BK455.out 2).trans rfl, (blk_cell BK455.out 3).trans rfl, ((HB.out.cell (World.block_lt_of_cell? w _ hw458_0)).trans hw458_0), ((HB.out.cell (World.block_lt_of_cell? w _ hw458_1)).trans hw458_1), ((HB.out.cell (World.block_lt_of_cell? w _ hw458_2)).trans hw458_2), ((HB.out.cell (World.block_lt_of_cell? w _ hw458_3)).trans hw458_3)⟩ (fun hHeld => ?_); refine with_tabW pledge_with.tab4 pledge_with.bits4 (fun HT_ HW_ => ?_)
        generalize w6.drew = w10 at BK455 HB hx458_0 hx458_1 hx458_2 hx458_3 hHeld ⊢
        refine pure_ (i := 0) (N := some 21) (v := ?_) (a' := ?_) #[true, false, false, false, false, false, false, false, false] rfl rfl (any_of HT_.out (by kernel_rfl)) (fun _ _ _ h => h) (Or.inl ⟨by rfl, ?_⟩) ?_ ?_
        rotate_left
        · intro w'
          go_simp
          with_reducible rfl
        rotate_left
        · simp only [Act.put, List.setIfInBounds_toArray, List.set_cons_zero, List.set_cons_succ, i64_w, i32_w]
          rfl
        refine pure_ (i := 2) (N := some 23) (v := ?_) (a' := ?_) #[true, false, true, false, false, false, false, false, false] rfl rfl (any_of HT_.out (by kernel_rfl)) (fun _ _ _ h => h) (Or.inl ⟨by rfl, ?_⟩) ?_ ?_
        rotate_left
        · intro w'
          go_simp
          with_reducible rfl
        rotate_left
        · simp only [Act.put, List.setIfInBounds_toArray, List.set_cons_zero, List.set_cons_succ, i64_w, i32_w]
          rfl
        refine pure_ (i := 3) (N := some 24) (v := ?_) (a' := ?_) #[true, false, true, true, false, false, false, false, false] rfl rfl (any_of HT_.out (by kernel_rfl)) (fun _ _ _ h => h) (Or.inl ⟨by rfl, ?_⟩) ?_ ?_
        rotate_left
        · intro w'
          go_simp
          with_reducible rfl
        rotate_left
        · simp only [Act.put, List.setIfInBounds_toArray, List.set_cons_zero, List.set_cons_succ, i64_w, i32_w]
          rfl
        refine pure_ (i := 4) (N := some 25) (v := ?_) (a' := ?_) #[true, false, true, true, true, false, false, false, false] rfl rfl (any_of HT_.out (by kernel_rfl)) (fun _ _ _ h => h) (Or.inl ⟨by rfl, ?_⟩) ?_ ?_
        rotate_left
        · intro w'
          go_simp
          with_reducible rfl
        rotate_left
        · simp only [Act.put, List.setIfInBounds_toArray, List.set_cons_zero, List.set_cons_succ, i64_w, i32_w]
          rfl
        refine pure_ (i := 5) (N := some 26) (v := ?_) (a' := ?_) #[true, false, true, true, true, true, false, false, false] rfl rfl (any_of HT_.out (by kernel_rfl)) (fun _ _ _ h => h) (Or.inl ⟨by rfl, ?_⟩) ?_ ?_
        rotate_left
        · intro w'
          go_simp
          with_reducible rfl
        rotate_left
        · simp only [Act.put, List.setIfInBounds_toArray, List.set_cons_zero, List.set_cons_succ, i64_w, i32_w]
          rfl
        refine take_ (i := 1) (N := some 22) (v := ?_) (a' := ?_) #[true, true, true, true, true, true, false, false, false] rfl rfl (take_ofW HT_.out HW_.out (by kernel_rfl)) (fun _ _ _ h => h) (Or.inl ⟨by rfl, ?_⟩) hHeld ?_ ?_
        rotate_left
        · rintro w' ⟨s0, s1, s2, s3, s4, s5, s6, s7⟩
          go_simp
          with_reducible rfl
        rotate_left
        · simp only [Act.put, List.setIfInBounds_toArray, List.set_cons_zero, List.set_cons_succ, i64_w, i32_w]
          rfl
        refine take_ (i := 6) (N := some 27) (v := ?_) (a' := ?_) #[true, true, true, true, true, true, true, false, false] rfl rfl (take_ofW HT_.out HW_.out (by kernel_rfl)) (fun _ _ _ h => h) (Or.inl ⟨by rfl, ?_⟩) hHeld ?_ ?_
        rotate_left
        · rintro w' ⟨s0, s1, s2, s3, s4, s5, s6, s7⟩
          go_simp
          with_reducible rfl
        rotate_left
        · simp only [Act.put, List.setIfInBounds_toArray, List.set_cons_zero, List.set_cons_succ, i64_w, i32_w]
          rfl
        refine pure_ (i := 7) (N := some 28) (v := ?_) (a' := ?_) #[true, true, true, true, true, true, true, true, false] rfl rfl (any_of HT_.out (by kernel_rfl)) (fun _ _ _ h => h) (Or.inl ⟨by rfl, ?_⟩) ?_ ?_
        rotate_left
        · intro w'
          go_simp
          with_reducible rfl
        rotate_left
        · simp only [Act.put, List.setIfInBounds_toArray, List.set_cons_zero, List.set_cons_succ, i64_w, i32_w]
          rfl
        refine pure_ (i := 8) (N := some 29) (v := ?_) (a' := ?_) #[true, true, true, true, true, true, true, true, true] rfl rfl (any_of HT_.out (by kernel_rfl)) (fun _ _ _ h => h) (Or.inl ⟨by rfl, ?_⟩) ?_ ?_
        rotate_left
        · intro w'
          go_simp
          with_reducible rfl
        rotate_left
        · simp only [Act.put, List.setIfInBounds_toArray, List.set_cons_zero, List.set_cons_succ, i64_w, i32_w]
          rfl
        refine done_ (done_of HT_.out (by kernel_rfl)) ?_
        go_upto_if 29 with (fail)
        by_cases c11 : a1_3 > (wrap64 (1152921504606846976 - ((rd_T85 l0 t456).f2)))
        · rw [if_pos c11] at H
          have c11b0 : decide ((wrap64 (1152921504606846976 - ((rd_T85 l0 t456).f2))) < a1_3) = true := decide_eq_true c11
          clear c11
          (try simp only [c11b0])
          simp only [Option.some.injEq, Prod.mk.injEq] at H
          obtain ⟨rfl, rfl⟩ := H
          go_wp2
          go_ret2
          exact ⟨_, by first | rfl | (simp [errW_none, errW_some] <;> rfl) | (simp [*, errW_none, errW_some] <;> rfl), by first | exact Kd.R_nil _ _ _ _ _ | exact Kd.N_nil _ _ _ _ _ | exact Kd.V_nil _ _ _ _ _ | exact Kd.Q_nil _ _ _ _ _ | exact Kd.S_nil _ _ _ _ _, by repeat (first | (with_reducible first | exact HB.out | apply below_alloc | apply pw_below_drewN | apply below_drew1 | refine below_set ?_ GE455.out) | exact HB.out)⟩
        · rw [if_neg c11] at H
          have c11b0 : decide ((wrap64 (1152921504606846976 - ((rd_T85 l0 t456).f2))) < a1_3) = false := decide_eq_false c11
          clear c11
          (try simp only [c11b0])
          obtain ⟨y460, hy460⟩ : ∃ y_ : List (S85), y_ = (([(⟨(⟨a1_0, a1_1⟩ : S67), a1_2, wrap64 (a1_3 + ((rd_T85 l0 t456).f2))⟩ : S85)] : List (S85))) := ⟨_, rfl⟩
          replace H : ((pledge_changed_api_Pledge.f l0 t456 1 y460).bind fun t463 => (some (t463, 0))) = some (r1, r2) := by first | (rw [hy460]; with_reducible exact H) | (have H2_ := (Option.bind_some _ _).symm.trans H; rw [hy460]; with_reducible exact H2_) | (have H2_ := (Option.bind_some _ _).symm.trans H; with_reducible exact H2_) | with_reducible exact H | (rw [hy460]; exact H) | exact H
          have Ny460 := Aside0.mk hy460
          clear hy460
          replace H := Option.bind_eq_some_iff.mp H
          obtain ⟨t463, A120, H⟩ := H
          replace H : (some (t463, 0)) = some (r1, r2) := H
          have A12 := Aside0.mk A120
          clear A120
          simp only [Option.some.injEq, Prod.mk.injEq] at H
          obtain ⟨rfl, rfl⟩ := H
          try go_wp2
          have n0_ := Aside0.mk (blk_drew BK455.out)
          have n1_ := Aside0.mk (below_drew1 HB.out)
          clear BK455
          clear HB
          have BK455 := n0_
          have HB := n1_
          clear n0_ n1_
          have p459 : 0 ≤ (t456 : Int) := of_decide_eq_true (by first | (with_reducible assumption) | assumption)
          have q459 : t456 < (l0.length : Int) := of_decide_eq_true (by first | (with_reducible assumption) | assumption)
          obtain ⟨ad459, e459, hx459_0, hx459_1, hx459_2, hx459_3⟩ := at_T85 HR0.out t456 p459 q459
          have hw459_3 := hx459_3
          have hw459_2 := hx459_2
          have hw459_1 := hx459_1
          have hw459_0 := hx459_0
          obtain rfl : ad458 = ad459 := (by injection e459)
          replace hx459_0 := (HB.out.cell (World.block_lt_of_cell? w _ hx459_0)).trans hx459_0
          replace hx459_1 := (HB.out.cell (World.block_lt_of_cell? w _ hx459_1)).trans hx459_1
          replace hx459_2 := (HB.out.cell (World.block_lt_of_cell? w _ hx459_2)).trans hx459_2
          replace hx459_3 := (HB.out.cell (World.block_lt_of_cell? w _ hx459_3)).trans hx459_3
          replace p459 := eq_true p459
          replace q459 := eq_true q459
          refine start_ (n := 10) (S := fun w' => w'.cell? ⟨gb455, 0, none⟩ = some (.string a1_0) ∧ w'.cell? ⟨gb455, 1, none⟩ = some (.string a1_1) ∧ w'.cell? ⟨gb455, 2, none⟩ = some (.string a1_2) ∧ w'.cell? ⟨gb455, 3, none⟩ = some (.int .i64 a1_3) ∧ w'.cell? (ad458.add ((t456).toNat * 4)) = some (.string ((rd_T85 l0 t456).f0.f0)) ∧ w'.cell? ⟨(ad458.add ((t456).toNat * 4)).block, (ad458.add ((t456).toNat * 4)).off + 1, none⟩ = some (.string ((rd_T85 l0 t456).f0.f1)) ∧ w'.cell? ⟨(ad458.add ((t456).toNat * 4)).block, (ad458.add ((t456).toNat * 4)).off + 2, none⟩ = some (.string ((rd_T85 l0 t456).f1)) ∧ w'.cell? ⟨(ad458.add ((t456).toNat * 4)).block, (ad458.add ((t456).toNat * 4)).off + 3, none⟩ = some (.int .i64 ((rd_T85 l0 t456).f2))) (ds := [9]) #[false, false, false, false, false, false, false, false, false, false] (by kernel_rfl) rfl rfl ⟨(blk_cell BK455.out 0).trans rfl, (blk_cell BK455.out 1).trans rfl, (blk_cell BK455.out 2).trans rfl, (blk_cell BK455.out 3).trans rfl, ((HB.out.cell (World.block_lt_of_cell? w _ hw459_0)).trans hw459_0), ((HB.out.cell (World.block_lt_of_cell? w _ hw459_1)).trans hw459_1), ((HB.out.cell (World.block_lt_of_cell? w _ hw459_2)).trans hw459_2), ((HB.out.cell (World.block_lt_of_cell? w _ hw459_3)).trans hw459_3)⟩ (fun hHeld => ?_); refine with_tabW pledge_with.tab6 pledge_with.bits6 (fun HT_ HW_ => ?_)
          generalize w10.drew = w13 at BK455 HB hx459_0 hx459_1 hx459_2 hx459_3 hHeld ⊢
          refine pure_ (i := 0) (N := some 30) (v := ?_) (a' := ?_) #[true, false, false, false, false, false, false, false, false, false] rfl rfl (any_of HT_.out (by kernel_rfl)) (fun _ _ _ h => h) (Or.inl ⟨by rfl, ?_⟩) ?_ ?_
          rotate_left
          · intro w'
            go_simp
            with_reducible rfl
          rotate_left
          · simp only [Act.put, List.setIfInBounds_toArray, List.set_cons_zero, List.set_cons_succ, i64_w, i32_w]
            rfl
          refine pure_ (i := 2) (N := some 32) (v := ?_) (a' := ?_) #[true, false, true, false, false, false, false, false, false, false] rfl rfl (any_of HT_.out (by kernel_rfl)) (fun _ _ _ h => h) (Or.inl ⟨by rfl, ?_⟩) ?_ ?_
          rotate_left
          · intro w'
            go_simp
            with_reducible rfl
          rotate_left
          · simp only [Act.put, List.setIfInBounds_toArray, List.set_cons_zero, List.set_cons_succ, i64_w, i32_w]
            rfl
          refine pure_ (i := 3) (N := some 33) (v := ?_) (a' := ?_) #[true, false, true, true, false, false, false, false, false, false] rfl rfl (any_of HT_.out (by kernel_rfl)) (fun _ _ _ h => h) (Or.inl ⟨by rfl, ?_⟩) ?_ ?_
          rotate_left
          · intro w'
            go_simp
            with_reducible rfl
          rotate_left
          · simp only [Act.put, List.setIfInBounds_toArray, List.set_cons_zero, List.set_cons_succ, i64_w, i32_w]
            rfl
          refine pure_ (i := 4) (N := some 34) (v := ?_) (a' := ?_) #[true, false, true, true, true, false, false, false, false, false] rfl rfl (any_of HT_.out (by kernel_rfl)) (fun _ _ _ h => h) (Or.inl ⟨by rfl, ?_⟩) ?_ ?_
          rotate_left
          · intro w'
            go_simp
            with_reducible rfl
          rotate_left
          · simp only [Act.put, List.setIfInBounds_toArray, List.set_cons_zero, List.set_cons_succ, i64_w, i32_w]
            rfl
          refine pure_ (i := 5) (N := some 35) (v := ?_) (a' := ?_) #[true, false, true, true, true, true, false, false, false, false] rfl rfl (any_of HT_.out (by kernel_rfl)) (fun _ _ _ h => h) (Or.inl ⟨by rfl, ?_⟩) ?_ ?_
          rotate_left
          · intro w'
            go_simp
            with_reducible rfl
          rotate_left
          · simp only [Act.put, List.setIfInBounds_toArray, List.set_cons_zero, List.set_cons_succ, i64_w, i32_w]
            rfl
          refine take_ (i := 1) (N := some 31) (v := ?_) (a' := ?_) #[true, true, true, true, true, true, false, false, false, false] rfl rfl (take_ofW HT_.out HW_.out (by kernel_rfl)) (fun _ _ _ h => h) (Or.inl ⟨by rfl, ?_⟩) hHeld ?_ ?_
          rotate_left
          · rintro w' ⟨s0, s1, s2, s3, s4, s5, s6, s7⟩
            go_simp
            with_reducible rfl
          rotate_left
          · simp only [Act.put, List.setIfInBounds_toArray, List.set_cons_zero, List.set_cons_succ, i64_w, i32_w]
            rfl
          refine take_ (i := 6) (N := some 36) (v := ?_) (a' := ?_) #[true, true, true, true, true, true, true, false, false, false] rfl rfl (take_ofW HT_.out HW_.out (by kernel_rfl)) (fun _ _ _ h => h) (Or.inl ⟨by rfl, ?_⟩) hHeld ?_ ?_
          rotate_left
          · rintro w' ⟨s0, s1, s2, s3, s4, s5, s6, s7⟩
            go_simp
            with_reducible rfl
          rotate_left
          · simp only [Act.put, List.setIfInBounds_toArray, List.set_cons_zero, List.set_cons_succ, i64_w, i32_w]
            rfl
          refine pure_ (i := 7) (N := some 37) (v := ?_) (a' := ?_) #[true, true, true, true, true, true, true, true, false, false] rfl rfl (any_of HT_.out (by kernel_rfl)) (fun _ _ _ h => h) (Or.inl ⟨by rfl, ?_⟩) ?_ ?_
          rotate_left
          · intro w'
            go_simp
            with_reducible rfl
          rotate_left
          · simp only [Act.put, List.setIfInBounds_toArray, List.set_cons_zero, List.set_cons_succ, i64_w, i32_w]
            rfl
          refine pure_ (i := 8) (N := some 38) (v := ?_) (a' := ?_) #[true, true, true, true, true, true, true, true, true, false] rfl rfl (any_of HT_.out (by kernel_rfl)) (fun _ _ _ h => h) (Or.inl ⟨by rfl, ?_⟩) ?_ ?_
          rotate_left
          · intro w'
            go_simp
            with_reducible rfl
          rotate_left
          · simp only [Act.put, List.setIfInBounds_toArray, List.set_cons_zero, List.set_cons_succ, i64_w, i32_w]
            rfl
          refine last_ (i := 9) (N := none) #[true, true, true, true, true, true, true, true, true, true] rfl rfl (one_of HT_.out (by kernel_rfl)) (by decide) (fun K hK => ?_)
          have hs14 : w13.cell? ⟨gb455, 3, none⟩ = some (.int .i64 a1_3) := (blk_cell BK455.out 3).trans rfl
          have hfs14 := blk_frozen BK455.out 3
          refine skip_ (w1 := ?_) (by rfl) rfl ?_ ?_
          rotate_left
          · go_simp
            rfl
          refine hK.out _ _ ?_
          clear hK K
          refine done_ (done_of HT_.out (by kernel_rfl)) ?_
          have hcz15_0 : w13.cell? ⟨gb455, 0, none⟩ = some (.string a1_0) := (blk_cell BK455.out 0).trans rfl
          have hcz15_1 : w13.cell? ⟨gb455, 1, none⟩ = some (.string a1_1) := (blk_cell BK455.out 1).trans rfl
          have hcz15_2 : w13.cell? ⟨gb455, 2, none⟩ = some (.string a1_2) := (blk_cell BK455.out 2).trans rfl
          have hcz15_3 : w13.cell? ⟨gb455, 3, none⟩ = some (.int .i64 a1_3) := (blk_cell BK455.out 3).trans rfl
          have hfz15_0 := blk_frozen BK455.out 0
          have hfz15_1 := blk_frozen BK455.out 1
          have hfz15_2 := blk_frozen BK455.out 2
          have hfz15_3 := blk_frozen BK455.out 3
          try go_wp2_with (first | ((with_reducible refine gate_dst (N := 42) rfl ?_); refine Kd.R_lit k85 _ 85 ?hg (N := 42) ?hd (xs := ([(⟨(⟨a1_0, a1_1⟩ : S67), a1_2, wrap64 (a1_3 + ((rd_T85 l0 t456).f2))⟩ : S85)] : List (S85))) (inner := [.string a1_0, .string a1_1, .string a1_2, .int .i64 (wrap64 (a1_3 + ((rd_T85 l0 t456).f2)))]) (ok := fun _ => True) (okp := fun _ => True) ?hr ?hp (fun _ hk => hk) trivial (Below.refl _ _) (Nat.le_refl _) (by simp) ?_; (case hd => rfl); (case hg => rfl); (case hr => first | (go_simp; done) | (go_simp; rfl)); (case hp => exact (Reps.c4 (show Kd.M k85 _ _ _ (⟨(⟨a1_0, a1_1⟩ : S67), a1_2, wrap64 (a1_3 + ((rd_T85 l0 t456).f2))⟩ : S85) [.string a1_0, .string a1_1, .string a1_2, .int .i64 (wrap64 (a1_3 + ((rd_T85 l0 t456).f2)))] from (k85_mkM _ _ _ (⟨(⟨a1_0, a1_1⟩ : S67), a1_2, wrap64 (a1_3 + ((rd_T85 l0 t456).f2))⟩ : S85) )) (Reps.none _ _))); intro v461 w16 ho17 hb hg_ hnew_; clear hg_ hnew_; (first | rw [← Ny460.out] at ho17 | (simp only [Int.reduceToNat] at ho17; rw [← Ny460.out] at ho17)); have n0_ := Aside0.mk (Kd.R_lower (Kd.R_newB ho17 (g := gb455) (o := .cells #[.string a1_0, .string a1_1, .string a1_2, .int .i64 (wrap64 (a1_3 + ((rd_T85 l0 t456).f2)))] 85 (0, 0)) (by (with_reducible repeat (first | refine blk_drewN ?_ _ | refine blk_drew ?_ | refine blk_alloc ?_ _)); refine blk_put (cs := #[.string a1_0, .string a1_1, .string a1_2, .int .i64 a1_3]) ?_ 3 _ rfl; (with_reducible repeat (first | refine blk_drewN ?_ _ | refine blk_drew ?_ | refine blk_alloc ?_ _)); exact BK455.out)) (below_size (by repeat (first | (with_reducible first | exact HB.out | apply below_alloc | apply pw_below_drewN | apply below_drew1 | refine below_set ?_ GE455.out) | exact HB.out)))); have n1_ := Aside0.mk (blk_below (g := gb455) (o := .cells #[.string a1_0, .string a1_1, .string a1_2, .int .i64 (wrap64 (a1_3 + ((rd_T85 l0 t456).f2)))] 85 (0, 0)) (by (with_reducible repeat (first | refine blk_drewN ?_ _ | refine blk_drew ?_ | refine blk_alloc ?_ _)); refine blk_put (cs := #[.string a1_0, .string a1_1, .string a1_2, .int .i64 a1_3]) ?_ 3 _ rfl; (with_reducible repeat (first | refine blk_drewN ?_ _ | refine blk_drew ?_ | refine blk_alloc ?_ _)); exact BK455.out) hb); have n2_ := Aside0.mk (below_step (by repeat (first | (with_reducible first | exact HB.out | apply below_alloc | apply pw_below_drewN | apply below_drew1 | refine below_set ?_ GE455.out) | exact HB.out)) hb); clear BK455; clear HB; have HO462 := n0_; have BK455 := n1_; have HB := n2_; clear n0_ n1_ n2_; clear hb ho17; obtain ⟨Ao18, co18, eo18⟩ := Kd.R_slice HO462.out; subst eo18) | ((with_reducible refine gate_callee (f := 84) rfl ?_); refine goesL_ (some 43) rfl rfl Try.func84 (by kernel_rfl) rfl #[.slice (some ad458) l0.length c0, .int .i64 t456, .int .i64 1, .slice Ao18 y460.length co18] rfl (by (try simp only [List.map_toArray, List.map_cons, List.map_nil]); first | done | rfl | (simp only [List.length_drop, List.length_take]; rfl)) ?_; (with_reducible refine (pledge_changed_api_Pledge.calls _ _ l0 t456 1 _ _ y460 t463 _ ?side1 ?side2 ?side3 ?side4 A12.out).mono ?_); (case side1 => repeat (first | exact (Kd.C_below HR0.out HB.out) | (with_reducible refine Kd.C_alloc ?_ _) | (with_reducible refine Kd.C_drewN ?_ _) | (with_reducible refine Kd.C_drew ?_))); (case side2 => exact HC0.out); (case side3 => repeat (first | exact (Kd.R_reads' HO462.out).2.2 | (with_reducible refine Kd.C_alloc ?_ _) | (with_reducible refine Kd.C_drewN ?_ _) | (with_reducible refine Kd.C_drew ?_))); (case side4 => exact (Kd.R_reads' HO462.out).2.1); rintro e w19 ⟨v464, rfl, ho0, hb⟩; refine ⟨_, rfl, ?_⟩; have n0_ := Aside0.mk (Kd.R_elder' (by (with_reducible repeat (first | apply Kd.R_alloc | apply Kd.R_drewN | apply Kd.R_drew)); exact HO462.out) (Kd.R_base ho0) hb); have n1_ := Aside0.mk (Kd.R_lower (Kd.R_newB (Kd.R_new' ho0 (Kd.R_lt (by (with_reducible repeat (first | apply Kd.R_alloc | apply Kd.R_drewN | apply Kd.R_drew)); exact HO462.out))) (g := gb455) (o := .cells #[.string a1_0, .string a1_1, .string a1_2, .int .i64 (wrap64 (a1_3 + ((rd_T85 l0 t456).f2)))] 85 (0, 0)) (by (with_reducible repeat (first | refine blk_drewN ?_ _ | refine blk_drew ?_ | refine blk_alloc ?_ _)); exact BK455.out)) (below_size (by repeat (first | (with_reducible first | exact HB.out | apply below_alloc | apply pw_below_drewN | apply below_drew1 | refine below_set ?_ GE455.out) | exact HB.out)))); have n2_ := Aside0.mk (blk_below (g := gb455) (o := .cells #[.string a1_0, .string a1_1, .string a1_2, .int .i64 (wrap64 (a1_3 + ((rd_T85 l0 t456).f2)))] 85 (0, 0)) (by (with_reducible repeat (first | refine blk_drewN ?_ _ | refine blk_drew ?_ | refine blk_alloc ?_ _)); exact BK455.out) hb); have n3_ := Aside0.mk (below_step (by repeat (first | (with_reducible first | exact HB.out | apply below_alloc | apply pw_below_drewN | apply below_drew1 | refine below_set ?_ GE455.out) | exact HB.out)) hb); clear HO462; clear BK455; clear HB; have HO462 := n0_; have HO465 := n1_; have BK455 := n2_; have HB := n3_; clear n0_ n1_ n2_ n3_; (try clear hb); (try clear hb2); (try clear hk); (try clear hi); (try clear ho0)))
          go_ret2
          exact ⟨_, by first | rfl | (simp [errW_none, errW_some] <;> rfl) | (simp [*, errW_none, errW_some] <;> rfl), by (with_reducible repeat (first | apply Kd.R_alloc | apply Kd.R_drewN | apply Kd.R_drew)); exact Kd.R_mono HO465.out (fun _ hk => trivial), by repeat (first | (with_reducible first | exact HB.out | apply below_alloc | apply pw_below_drewN | apply below_drew1 | refine below_set ?_ GE455.out) | exact HB.out)⟩
      · rw [if_neg c9] at H
        exact absurd H (by simp)
    · rw [if_neg c8] at H
      exact absurd H (by simp)
  · replace c7 := Bool.eq_false_iff.mpr c7
    subst c7
    have H1 : ((pledge_changed_api_Pledge.f l0 t456 0 (([(⟨(⟨a1_0, a1_1⟩ : S67), a1_2, a1_3⟩ : S85)] : List (S85)))).bind fun t469 => (some (t469, 0))) = some (r1, r2) := by rw [if_neg (show ¬ (false = true) by decide)] at H; exact H
    clear H
    have H := H1
    clear H1
    obtain ⟨y466, hy466⟩ : ∃ y_ : List (S85), y_ = (([(⟨(⟨a1_0, a1_1⟩ : S67), a1_2, a1_3⟩ : S85)] : List (S85))) := ⟨_, rfl⟩
    replace H : ((pledge_changed_api_Pledge.f l0 t456 0 y466).bind fun t469 => (some (t469, 0))) = some (r1, r2) := by first | (rw [hy466]; with_reducible exact H) | (have H2_ := (Option.bind_some _ _).symm.trans H; rw [hy466]; with_reducible exact H2_) | (have H2_ := (Option.bind_some _ _).symm.trans H; with_reducible exact H2_) | with_reducible exact H | (rw [hy466]; exact H) | exact H
    have Ny466 := Aside0.mk hy466
    clear hy466
    replace H := Option.bind_eq_some_iff.mp H
    obtain ⟨t469, A200, H⟩ := H
    replace H : (some (t469, 0)) = some (r1, r2) := H
    have A20 := Aside0.mk A200
    clear A200
    simp only [Option.some.injEq, Prod.mk.injEq] at H
    obtain ⟨rfl, rfl⟩ := H
    have hcz21_0 : w6.cell? ⟨gb455, 0, none⟩ = some (.string a1_0) := (blk_cell BK455.out 0).trans rfl
    have hcz21_1 : w6.cell? ⟨gb455, 1, none⟩ = some (.string a1_1) := (blk_cell BK455.out 1).trans rfl
    have hcz21_2 : w6.cell? ⟨gb455, 2, none⟩ = some (.string a1_2) := (blk_cell BK455.out 2).trans rfl
    have hcz21_3 : w6.cell? ⟨gb455, 3, none⟩ = some (.int .i64 a1_3) := (blk_cell BK455.out 3).trans rfl
    have hfz21_0 := blk_frozen BK455.out 0
    have hfz21_1 := blk_frozen BK455.out 1
    have hfz21_2 := blk_frozen BK455.out 2
    have hfz21_3 := blk_frozen BK455.out 3
    go_wp2_with (first | ((with_reducible refine gate_dst (N := 19) rfl ?_); refine Kd.R_lit k85 _ 85 ?hg (N := 19) ?hd (xs := ([(⟨(⟨a1_0, a1_1⟩ : S67), a1_2, a1_3⟩ : S85)] : List (S85))) (inner := [.string a1_0, .string a1_1, .string a1_2, .int .i64 a1_3]) (ok := fun _ => True) (okp := fun _ => True) ?hr ?hp (fun _ hk => hk) trivial (Below.refl _ _) (Nat.le_refl _) (by simp) ?_; (case hd => rfl); (case hg => rfl); (case hr => first | (go_simp; done) | (go_simp; rfl)); (case hp => exact (Reps.c4 (show Kd.M k85 _ _ _ (⟨(⟨a1_0, a1_1⟩ : S67), a1_2, a1_3⟩ : S85) [.string a1_0, .string a1_1, .string a1_2, .int .i64 a1_3] from (k85_mkM _ _ _ (⟨(⟨a1_0, a1_1⟩ : S67), a1_2, a1_3⟩ : S85) )) (Reps.none _ _))); intro v467 w22 ho23 hb hg_ hnew_; clear hg_ hnew_; (first | rw [← Ny466.out] at ho23 | (simp only [Int.reduceToNat] at ho23; rw [← Ny466.out] at ho23)); have n0_ := Aside0.mk (Kd.R_lower (Kd.R_newB ho23 (g := gb455) (o := .cells #[.string a1_0, .string a1_1, .string a1_2, .int .i64 a1_3] 85 (0, 0)) (by (with_reducible repeat (first | refine blk_drewN ?_ _ | refine blk_drew ?_ | refine blk_alloc ?_ _)); exact BK455.out)) (below_size (by repeat (first | (with_reducible first | exact HB.out | apply below_alloc | apply pw_below_drewN | apply below_drew1 | refine below_set ?_ GE455.out) | exact HB.out)))); have n1_ := Aside0.mk (blk_below (g := gb455) (o := .cells #[.string a1_0, .string a1_1, .string a1_2, .int .i64 a1_3] 85 (0, 0)) (by (with_reducible repeat (first | refine blk_drewN ?_ _ | refine blk_drew ?_ | refine blk_alloc ?_ _)); exact BK455.out) hb); have n2_ := Aside0.mk (below_step (by repeat (first | (with_reducible first | exact HB.out | apply below_alloc | apply pw_below_drewN | apply below_drew1 | refine below_set ?_ GE455.out) | exact HB.out)) hb); clear BK455; clear HB; have HO468 := n0_; have BK455 := n1_; have HB := n2_; clear n0_ n1_ n2_; clear hb ho23; obtain ⟨Ao24, co24, eo24⟩ := Kd.R_slice HO468.out; subst eo24) | ((with_reducible refine gate_callee (f := 84) rfl ?_); refine goesL_ (some 20) rfl rfl Try.func84 (by kernel_rfl) rfl #[.slice A0 l0.length c0, .int .i64 t456, .int .i64 0, .slice Ao24 y466.length co24] rfl (by (try simp only [List.map_toArray, List.map_cons, List.map_nil]); first | done | rfl | (simp only [List.length_drop, List.length_take]; rfl)) ?_; (with_reducible refine (pledge_changed_api_Pledge.calls _ _ l0 t456 0 _ _ y466 t469 _ ?side1 ?side2 ?side3 ?side4 A20.out).mono ?_); (case side1 => repeat (first | exact (Kd.C_below HR0.out HB.out) | (with_reducible refine Kd.C_alloc ?_ _) | (with_reducible refine Kd.C_drewN ?_ _) | (with_reducible refine Kd.C_drew ?_))); (case side2 => exact HC0.out); (case side3 => repeat (first | exact (Kd.R_reads' HO468.out).2.2 | (with_reducible refine Kd.C_alloc ?_ _) | (with_reducible refine Kd.C_drewN ?_ _) | (with_reducible refine Kd.C_drew ?_))); (case side4 => exact (Kd.R_reads' HO468.out).2.1); rintro e w25 ⟨v470, rfl, ho0, hb⟩; refine ⟨_, rfl, ?_⟩; have n0_ := Aside0.mk (Kd.R_elder' (by (with_reducible repeat (first | apply Kd.R_alloc | apply Kd.R_drewN | apply Kd.R_drew)); exact HO468.out) (Kd.R_base ho0) hb); have n1_ := Aside0.mk (Kd.R_lower (Kd.R_newB (Kd.R_new' ho0 (Kd.R_lt (by (with_reducible repeat (first | apply Kd.R_alloc | apply Kd.R_drewN | apply Kd.R_drew)); exact HO468.out))) (g := gb455) (o := .cells #[.string a1_0, .string a1_1, .string a1_2, .int .i64 a1_3] 85 (0, 0)) (by (with_reducible repeat (first | refine blk_drewN ?_ _ | refine blk_drew ?_ | refine blk_alloc ?_ _)); exact BK455.out)) (below_size (by repeat (first | (with_reducible first | exact HB.out | apply below_alloc | apply pw_below_drewN | apply below_drew1 | refine below_set ?_ GE455.out) | exact HB.out)))); have n2_ := Aside0.mk (blk_below (g := gb455) (o := .cells #[.string a1_0, .string a1_1, .string a1_2, .int .i64 a1_3] 85 (0, 0)) (by (with_reducible repeat (first | refine blk_drewN ?_ _ | refine blk_drew ?_ | refine blk_alloc ?_ _)); exact BK455.out) hb); have n3_ := Aside0.mk (below_step (by repeat (first | (with_reducible first | exact HB.out | apply below_alloc | apply pw_below_drewN | apply below_drew1 | refine below_set ?_ GE455.out) | exact HB.out)) hb); clear HO468; clear BK455; clear HB; have HO468 := n0_; have HO471 := n1_; have BK455 := n2_; have HB := n3_; clear n0_ n1_ n2_ n3_; (try clear hb); (try clear hb2); (try clear hk); (try clear hi); (try clear ho0)))
    go_ret2
    exact ⟨_, by first | rfl | (simp [errW_none, errW_some] <;> rfl) | (simp [*, errW_none, errW_some] <;> rfl), by (with_reducible repeat (first | apply Kd.R_alloc | apply Kd.R_drewN | apply Kd.R_drew)); exact Kd.R_mono HO471.out (fun _ hk => trivial), by repeat (first | (with_reducible first | exact HB.out | apply below_alloc | apply pw_below_drewN | apply below_drew1 | refine below_set ?_ GE455.out) | exact HB.out)⟩
def pledge_Put.f (k : Nat) (l0 : List (S85)) (a1_0 : ByteArray) (a1_1 : ByteArray) (a2 : ByteArray) (a3 : Int) : Option ((List (S85)) × Int) := (pledge_Check.f k l0).bind fun t473 => (if t473 = 0 then ((pledge_named.f k (([a1_0, a1_1, a2] : List ByteArray))).bind fun t477 => (if t477 = true then ((pledge_many.f a3).bind fun t478 => (if t478 = true then ((pledge_with.f k l0 a1_0 a1_1 a2 a3).bind fun bt479 => (if bt479.2 = 0 then (if (bt479.1.length : Int) > 1024 then (some (([] : List (S85)), 8)) else (some (bt479.1, bt479.2))) else (some (bt479.1, bt479.2)))) else (some (([] : List (S85)), 18)))) else (some (([] : List (S85)), 10)))) else (some (([] : List (S85)), t473)))
theorem pledge_Put.mono : ∀ a0 a1 a2 a3 a4 k, LeO (pledge_Put.f k a0 a1 a2 a3 a4) (pledge_Put.f (k + 1) a0 a1 a2 a3 a4) := by
  intro a0 a1 a2 a3 a4 k
  unfold pledge_Put.f
  repeat' first
      | (with_reducible exact pledge_Check.mono _ _)
      | (with_reducible exact pledge_named.mono _ _)
      | (with_reducible exact pledge_with.mono _ _ _ _ _ _)
      | (with_reducible exact LeO.refl _)
      | (with_reducible exact LeO.none _)
      | (with_reducible refine LeO.ite ?_ ?_)
      | (with_reducible refine LeO.bind ?_ (fun _ => ?_))
      | exact pledge_Check.mono _ _
      | exact pledge_named.mono _ _
      | exact pledge_with.mono _ _ _ _ _ _
      | exact LeO.none _
      | refine LeO.ite ?_ ?_
      | refine LeO.bind ?_ (fun _ => ?_)
set_option maxHeartbeats 8000000 in
set_option maxRecDepth 100000 in
theorem pledge_Put.calls (k : Nat) (A0 : Option Addr) (c0 : Nat) (l0 : List (S85)) (a1_0 : ByteArray) (a1_1 : ByteArray) (a2 : ByteArray) (a3 : Int) (r1 : List (S85)) (r2 : Int) (w : World) (hr0 : Kd.C k85 w A0 l0.length l0) (hc0 : l0.length ≤ c0) (h : pledge_Put.f k l0 a1_0 a1_1 a2 a3 = some (r1, r2)) :
    Calls Try.prog 43 #[.slice A0 l0.length c0, .agg #[.string a1_0, .string a1_1], .string a2, .int .i64 a3] w fun e w' => ∃ v0_ : Value, e = .returned (.tuple #[v0_, .int .i64 r2]) ∧ Kd.R k85 85 w' w.heap.size (fun _ => True) v0_ r1 ∧ Below w.heap.size w w' := by
  have hu67 := Try.underlying67
  have hu85 := Try.underlying85
  have HR0 := Aside0.mk hr0
  have HC0 := Aside0.mk hc0
  clear hr0 hc0
  have HB := Aside0.mk (Below.refl w.heap.size w)
  have H : ((pledge_Check.f k l0).bind fun t473 => (if t473 = 0 then ((pledge_named.f k (([a1_0, a1_1, a2] : List ByteArray))).bind fun t477 => (if t477 = true then ((pledge_many.f a3).bind fun t478 => (if t478 = true then ((pledge_with.f k l0 a1_0 a1_1 a2 a3).bind fun bt479 => (if bt479.2 = 0 then (if (bt479.1.length : Int) > 1024 then (some (([] : List (S85)), 8)) else (some (bt479.1, bt479.2))) else (some (bt479.1, bt479.2)))) else (some (([] : List (S85)), 18)))) else (some (([] : List (S85)), 10)))) else (some (([] : List (S85)), t473)))) = some (r1, r2) := h
  clear h
  replace H := Option.bind_eq_some_iff.mp H
  obtain ⟨t473, A50, H⟩ := H
  replace H : (if t473 = 0 then ((pledge_named.f k (([a1_0, a1_1, a2] : List ByteArray))).bind fun t477 => (if t477 = true then ((pledge_many.f a3).bind fun t478 => (if t478 = true then ((pledge_with.f k l0 a1_0 a1_1 a2 a3).bind fun bt479 => (if bt479.2 = 0 then (if (bt479.1.length : Int) > 1024 then (some (([] : List (S85)), 8)) else (some (bt479.1, bt479.2))) else (some (bt479.1, bt479.2)))) else (some (([] : List (S85)), 18)))) else (some (([] : List (S85)), 10)))) else (some (([] : List (S85)), t473))) = some (r1, r2) := H
  have A5 := Aside0.mk A50
  clear A50
  go_enter Try.func43, Try.ntmps43
  go_upto_if 13 with (first | ((with_reducible refine gate_dst (N := 5) rfl ?_); (try (refine gate_guard (by rfl) ?_; dsimp only)); refine box_event ?hg (N := 5) ?hd (cs := #[.string a1_0, .string a1_1]) (t := 67) ?hr ?_; (case hd => rfl); (case hg => rfl); (case hr => first | (go_simp; done) | (go_simp; rfl)); intro gb472 hg w6 hbox hb; have n0_ := Aside0.mk (below_step (by repeat (first | (with_reducible first | exact HB.out | apply below_alloc | apply pw_below_drewN | apply below_drew1) | exact HB.out)) hb); have n1_ := Aside0.mk (hbox); have n2_ := Aside0.mk ((by rw [hg]; exact (below_size (by repeat (first | (with_reducible first | exact HB.out | apply below_alloc | apply pw_below_drewN | apply below_drew1) | exact HB.out))) : w.heap.size ≤ gb472)); have n3_ := Aside0.mk ((by rw [hg]; exact (below_size (by repeat (first | (with_reducible first | exact HB.out | apply below_alloc | apply pw_below_drewN | apply below_drew1) | exact HB.out))) : w.heap.size ≤ gb472)); clear HB; have HB := n0_; have BK472 := n1_; have GW472 := n2_; have GE472 := n3_; clear n0_ n1_ n2_ n3_; clear hb hbox hg) | ((with_reducible refine gate_callee (f := 48) rfl ?_); refine goesL_ (some 11) rfl rfl Try.func48 (by kernel_rfl) rfl #[.slice A0 l0.length c0] rfl (by (try simp only [List.map_toArray, List.map_cons, List.map_nil]); first | done | rfl | (simp only [List.length_drop, List.length_take]; rfl)) ?_; (with_reducible refine (pledge_Check.calls k _ _ l0 t473 _ ?side1 ?side2 A5.out).mono ?_); (case side1 => repeat (first | exact (Kd.C_below HR0.out HB.out) | (with_reducible refine Kd.C_alloc ?_ _) | (with_reducible refine Kd.C_drewN ?_ _) | (with_reducible refine Kd.C_drew ?_))); (case side2 => exact HC0.out); rintro e w7 ⟨rfl, hb⟩; refine ⟨_, rfl, ?_⟩; have n0_ := Aside0.mk (blk_below (g := gb472) (o := .cells #[.string a1_0, .string a1_1] 67 (0, 0)) (by (with_reducible repeat (first | refine blk_drewN ?_ _ | refine blk_drew ?_ | refine blk_alloc ?_ _)); exact BK472.out) hb); have n1_ := Aside0.mk (below_step (by repeat (first | (with_reducible first | exact HB.out | apply below_alloc | apply pw_below_drewN | apply below_drew1 | refine below_set ?_ GE472.out) | exact HB.out)) hb); clear BK472; clear HB; have BK472 := n0_; have HB := n1_; clear n0_ n1_; (try clear hb); (try clear hb2); (try clear hk); (try clear hi)))
  (try simp only [Act.put, List.setIfInBounds_toArray, List.set_cons_zero, List.set_cons_succ])
  by_cases c8 : t473 = 0
  · rw [if_pos c8] at H
    have c8b0 : (t473 == 0) = true := beq_iff_eq.mpr c8
    have c8b1 : (t473 != 0) = false := bne_eq_false_iff_eq.mpr c8
    clear c8
    (try simp only [c8b0, c8b1])
    obtain ⟨y474, hy474⟩ : ∃ y_ : List ByteArray, y_ = (([a1_0, a1_1, a2] : List ByteArray)) := ⟨_, rfl⟩
    replace H : ((pledge_named.f k y474).bind fun t477 => (if t477 = true then ((pledge_many.f a3).bind fun t478 => (if t478 = true then ((pledge_with.f k l0 a1_0 a1_1 a2 a3).bind fun bt479 => (if bt479.2 = 0 then (if (bt479.1.length : Int) > 1024 then (some (([] : List (S85)), 8)) else (some (bt479.1, bt479.2))) else (some (bt479.1, bt479.2)))) else (some (([] : List (S85)), 18)))) else (some (([] : List (S85)), 10)))) = some (r1, r2) := by first | (rw [hy474]; with_reducible exact H) | (have H2_ := (Option.bind_some _ _).symm.trans H; rw [hy474]; with_reducible exact H2_) | (have H2_ := (Option.bind_some _ _).symm.trans H; with_reducible exact H2_) | with_reducible exact H | (rw [hy474]; exact H) | exact H
    have Ny474 := Aside0.mk hy474
    clear hy474
    replace H := Option.bind_eq_some_iff.mp H
    obtain ⟨t477, A90, H⟩ := H
    replace H : (if t477 = true then ((pledge_many.f a3).bind fun t478 => (if t478 = true then ((pledge_with.f k l0 a1_0 a1_1 a2 a3).bind fun bt479 => (if bt479.2 = 0 then (if (bt479.1.length : Int) > 1024 then (some (([] : List (S85)), 8)) else (some (bt479.1, bt479.2))) else (some (bt479.1, bt479.2)))) else (some (([] : List (S85)), 18)))) else (some (([] : List (S85)), 10))) = some (r1, r2) := H
    have A9 := Aside0.mk A90
    clear A90
    have hcz10_0 : w7.cell? ⟨gb472, 0, none⟩ = some (.string a1_0) := (blk_cell BK472.out 0).trans rfl
    have hcz10_1 : w7.cell? ⟨gb472, 1, none⟩ = some (.string a1_1) := (blk_cell BK472.out 1).trans rfl
    have hfz10_0 := blk_frozen BK472.out 0
    have hfz10_1 := blk_frozen BK472.out 1
    go_upto_if 22 with (first | ((with_reducible refine gate_dst (N := 20) rfl ?_); (try (refine gate_guard (by rfl) ?_; dsimp only)); refine Kd.R_lit Kd.string _ 9 ?hg (N := 20) ?hd (xs := ([a1_0, a1_1, a2] : List ByteArray)) (inner := [.string a1_0, .string a1_1, .string a2]) (ok := fun _ => True) (okp := fun _ => True) ?hr ?hp (fun _ hk => hk) trivial (Below.refl _ _) (Nat.le_refl _) (by simp) ?_; (case hd => rfl); (case hg => rfl); (case hr => first | (go_simp; done) | (go_simp; rfl)); (case hp => exact (Reps.one (show Kd.M Kd.string _ _ _ a1_0 [.string a1_0] from rfl) (Reps.one (show Kd.M Kd.string _ _ _ a1_1 [.string a1_1] from rfl) (Reps.one (show Kd.M Kd.string _ _ _ a2 [.string a2] from rfl) (Reps.none _ _))))); intro v475 w11 ho12 hb hg_ hnew_; clear hg_ hnew_; (first | rw [← Ny474.out] at ho12 | (simp only [Int.reduceToNat] at ho12; rw [← Ny474.out] at ho12)); have n0_ := Aside0.mk (Kd.R_lower ho12 (below_size (by repeat (first | (with_reducible first | exact HB.out | apply below_alloc | apply pw_below_drewN | apply below_drew1 | refine below_set ?_ GE472.out) | exact HB.out)))); have n1_ := Aside0.mk (blk_below (g := gb472) (o := .cells #[.string a1_0, .string a1_1] 67 (0, 0)) (by (with_reducible repeat (first | refine blk_drewN ?_ _ | refine blk_drew ?_ | refine blk_alloc ?_ _)); exact BK472.out) hb); have n2_ := Aside0.mk (below_step (by repeat (first | (with_reducible first | exact HB.out | apply below_alloc | apply pw_below_drewN | apply below_drew1 | refine below_set ?_ GE472.out) | exact HB.out)) hb); clear BK472; clear HB; have HO476 := n0_; have BK472 := n1_; have HB := n2_; clear n0_ n1_ n2_; clear hb ho12; obtain ⟨Ao13, co13, eo13⟩ := Kd.R_slice HO476.out; subst eo13) | ((with_reducible refine gate_callee (f := 79) rfl ?_); refine goesL_ (some 21) rfl rfl Try.func79 (by kernel_rfl) rfl #[.slice Ao13 y474.length co13] rfl (by (try simp only [List.map_toArray, List.map_cons, List.map_nil]); first | done | rfl | (simp only [List.length_drop, List.length_take]; rfl)) ?_; (with_reducible refine (pledge_named.calls k _ _ y474 t477 _ ?side1 ?side2 A9.out).mono ?_); (case side1 => repeat (first | exact (Kd.R_reads' HO476.out).2.2 | (with_reducible refine Kd.C_alloc ?_ _) | (with_reducible refine Kd.C_drewN ?_ _) | (with_reducible refine Kd.C_drew ?_))); (case side2 => exact (Kd.R_reads' HO476.out).2.1); rintro e w' ⟨rfl, ⟨nd, rfl⟩⟩; refine ⟨_, rfl, ?_⟩))
    (try simp only [Act.put, List.setIfInBounds_toArray, List.set_cons_zero, List.set_cons_succ])
    by_cases c14 : t477 = true
    · subst c14
      have H1 : ((pledge_many.f a3).bind fun t478 => (if t478 = true then ((pledge_with.f k l0 a1_0 a1_1 a2 a3).bind fun bt479 => (if bt479.2 = 0 then (if (bt479.1.length : Int) > 1024 then (some (([] : List (S85)), 8)) else (some (bt479.1, bt479.2))) else (some (bt479.1, bt479.2)))) else (some (([] : List (S85)), 18)))) = some (r1, r2) := by rw [if_pos rfl] at H; exact H
      clear H
      have H := H1
      clear H1
      replace H := Option.bind_eq_some_iff.mp H
      obtain ⟨t478, A150, H⟩ := H
      replace H : (if t478 = true then ((pledge_with.f k l0 a1_0 a1_1 a2 a3).bind fun bt479 => (if bt479.2 = 0 then (if (bt479.1.length : Int) > 1024 then (some (([] : List (S85)), 8)) else (some (bt479.1, bt479.2))) else (some (bt479.1, bt479.2)))) else (some (([] : List (S85)), 18))) = some (r1, r2) := H
      have A15 := Aside0.mk A150
      clear A150
      go_upto_if 25 with (first | ((with_reducible refine gate_callee (f := 80) rfl ?_); refine goesL_ (some 24) rfl rfl Try.func80 (by kernel_rfl) rfl #[.int .i64 a3] rfl (by (try simp only [List.map_toArray, List.map_cons, List.map_nil]); first | done | rfl | (simp only [List.length_drop, List.length_take]; rfl)) ?_; (with_reducible refine (pledge_many.calls a3 t478 _ A15.out).mono ?_); rintro e w' ⟨rfl, ⟨nd, rfl⟩⟩; refine ⟨_, rfl, ?_⟩))
      (try simp only [Act.put, List.setIfInBounds_toArray, List.set_cons_zero, List.set_cons_succ])
      by_cases c16 : t478 = true
      · subst c16
        have H1 : ((pledge_with.f k l0 a1_0 a1_1 a2 a3).bind fun bt479 => (if bt479.2 = 0 then (if (bt479.1.length : Int) > 1024 then (some (([] : List (S85)), 8)) else (some (bt479.1, bt479.2))) else (some (bt479.1, bt479.2)))) = some (r1, r2) := by rw [if_pos rfl] at H; exact H
        clear H
        have H := H1
        clear H1
        replace H := Option.bind_eq_some_iff.mp H
        obtain ⟨⟨t479, t482⟩, A170, H⟩ := H
        replace H : (if t482 = 0 then (if (t479.length : Int) > 1024 then (some (([] : List (S85)), 8)) else (some (t479, t482))) else (some (t479, t482))) = some (r1, r2) := H
        have A17 := Aside0.mk A170
        clear A170
        have hcz18_0 : w11.cell? ⟨gb472, 0, none⟩ = some (.string a1_0) := (blk_cell BK472.out 0).trans rfl
        have hcz18_1 : w11.cell? ⟨gb472, 1, none⟩ = some (.string a1_1) := (blk_cell BK472.out 1).trans rfl
        have hfz18_0 := blk_frozen BK472.out 0
        have hfz18_1 := blk_frozen BK472.out 1
        go_upto_region 9 with (first | ((with_reducible refine gate_callee (f := 81) rfl ?_); refine goesL_ (some 32) rfl rfl Try.func81 (by kernel_rfl) rfl #[.slice A0 l0.length c0, .agg #[.string a1_0, .string a1_1, .string a2, .int .i64 a3]] rfl (by (try simp only [List.map_toArray, List.map_cons, List.map_nil]); first | done | rfl | (simp only [List.length_drop, List.length_take]; rfl)) ?_; (with_reducible refine (pledge_with.calls k _ _ l0 a1_0 a1_1 a2 a3 t479 t482 _ ?side1 ?side2 A17.out).mono ?_); (case side1 => repeat (first | exact (Kd.C_below HR0.out HB.out) | (with_reducible refine Kd.C_alloc ?_ _) | (with_reducible refine Kd.C_drewN ?_ _) | (with_reducible refine Kd.C_drew ?_))); (case side2 => exact HC0.out); rintro e w19 ⟨v480, rfl, ho0, hb⟩; refine ⟨_, rfl, ?_⟩; have n0_ := Aside0.mk (Kd.R_below (by (with_reducible repeat (first | apply Kd.R_alloc | apply Kd.R_drewN | apply Kd.R_drew)); exact HO476.out) hb); have n1_ := Aside0.mk (Kd.R_lower ho0 (below_size (by repeat (first | (with_reducible first | exact HB.out | apply below_alloc | apply pw_below_drewN | apply below_drew1 | refine below_set ?_ GE472.out) | exact HB.out)))); have n2_ := Aside0.mk (blk_below (g := gb472) (o := .cells #[.string a1_0, .string a1_1] 67 (0, 0)) (by (with_reducible repeat (first | refine blk_drewN ?_ _ | refine blk_drew ?_ | refine blk_alloc ?_ _)); exact BK472.out) hb); have n3_ := Aside0.mk (below_step (by repeat (first | (with_reducible first | exact HB.out | apply below_alloc | apply pw_below_drewN | apply below_drew1 | refine below_set ?_ GE472.out) | exact HB.out)) hb); clear HO476; clear BK472; clear HB; have HO476 := n0_; have HO481 := n1_; have BK472 := n2_; have HB := n3_; clear n0_ n1_ n2_ n3_; (try clear hb); (try clear hb2); (try clear hk); (try clear hi); (try clear ho0)))
        (try simp only [Act.put, List.setIfInBounds_toArray, List.set_cons_zero, List.set_cons_succ])
        by_cases c20 : t482 = 0
        · rw [if_pos c20] at H
          have c20b0 : (t482 == 0) = true := beq_iff_eq.mpr c20
          have c20b1 : (t482 != 0) = false := bne_eq_false_iff_eq.mpr c20
          clear c20
          (try simp only [c20b0, c20b1])
          obtain ⟨Ao21, co21, eo21⟩ := Kd.R_slice HO481.out
          subst eo21
          go_upto_if 41 with (fail)
          by_cases c22 : (t479.length : Int) > 1024
          · rw [if_pos c22] at H
            have c22b0 : decide (1024 < (t479.length : Int)) = true := decide_eq_true c22
            have c22b1 : decide (1024 < t479.length) = true := decide_eq_true (by omega)
            clear c22
            (try simp only [c22b0, c22b1])
            simp only [Option.some.injEq, Prod.mk.injEq] at H
            obtain ⟨rfl, rfl⟩ := H
            go_wp2
            go_ret2
            exact ⟨_, by first | rfl | (simp [errW_none, errW_some] <;> rfl) | (simp [*, errW_none, errW_some] <;> rfl), by first | exact Kd.R_nil _ _ _ _ _ | exact Kd.N_nil _ _ _ _ _ | exact Kd.V_nil _ _ _ _ _ | exact Kd.Q_nil _ _ _ _ _ | exact Kd.S_nil _ _ _ _ _, by repeat (first | (with_reducible first | exact HB.out | apply below_alloc | apply pw_below_drewN | apply below_drew1 | refine below_set ?_ GE472.out) | exact HB.out)⟩
          · rw [if_neg c22] at H
            have c22b0 : decide (1024 < (t479.length : Int)) = false := decide_eq_false c22
            have c22b1 : decide (1024 < t479.length) = false := decide_eq_false (by omega)
            clear c22
            (try simp only [c22b0, c22b1])
            simp only [Option.some.injEq, Prod.mk.injEq] at H
            obtain ⟨rfl, rfl⟩ := H
            go_wp2
            go_ret2
            exact ⟨_, by first | rfl | (simp [errW_none, errW_some] <;> rfl) | (simp [*, errW_none, errW_some] <;> rfl), by (with_reducible repeat (first | apply Kd.R_alloc | apply Kd.R_drewN | apply Kd.R_drew)); exact HO481.out, by repeat (first | (with_reducible first | exact HB.out | apply below_alloc | apply pw_below_drewN | apply below_drew1 | refine below_set ?_ GE472.out) | exact HB.out)⟩
        · rw [if_neg c20] at H
          have c20b0 : (t482 == 0) = false := beq_eq_false_iff_ne.mpr c20
          have c20b1 : (t482 != 0) = true := bne_iff_ne.mpr c20
          (try simp only [c20b0, c20b1])
          simp only [Option.some.injEq, Prod.mk.injEq] at H
          obtain ⟨rfl, rfl⟩ := H
          go_wp2
          go_ret2
          exact ⟨_, by first | rfl | (simp [errW_none, errW_some] <;> rfl) | (simp [*, errW_none, errW_some] <;> rfl), by (with_reducible repeat (first | apply Kd.R_alloc | apply Kd.R_drewN | apply Kd.R_drew)); exact HO481.out, by repeat (first | (with_reducible first | exact HB.out | apply below_alloc | apply pw_below_drewN | apply below_drew1 | refine below_set ?_ GE472.out) | exact HB.out)⟩
      · replace c16 := Bool.eq_false_iff.mpr c16
        subst c16
        have H1 : (some (([] : List (S85)), 18)) = some (r1, r2) := by rw [if_neg (show ¬ (false = true) by decide)] at H; exact H
        clear H
        have H := H1
        clear H1
        simp only [Option.some.injEq, Prod.mk.injEq] at H
        obtain ⟨rfl, rfl⟩ := H
        go_wp2
        go_ret2
        exact ⟨_, by first | rfl | (simp [errW_none, errW_some] <;> rfl) | (simp [*, errW_none, errW_some] <;> rfl), by first | exact Kd.R_nil _ _ _ _ _ | exact Kd.N_nil _ _ _ _ _ | exact Kd.V_nil _ _ _ _ _ | exact Kd.Q_nil _ _ _ _ _ | exact Kd.S_nil _ _ _ _ _, by repeat (first | (with_reducible first | exact HB.out | apply below_alloc | apply pw_below_drewN | apply below_drew1 | refine below_set ?_ GE472.out) | exact HB.out)⟩
    · replace c14 := Bool.eq_false_iff.mpr c14
      subst c14
      have H1 : (some (([] : List (S85)), 10)) = some (r1, r2) := by rw [if_neg (show ¬ (false = true) by decide)] at H; exact H
      clear H
      have H := H1
      clear H1
      simp only [Option.some.injEq, Prod.mk.injEq] at H
      obtain ⟨rfl, rfl⟩ := H
      go_wp2
      go_ret2
      exact ⟨_, by first | rfl | (simp [errW_none, errW_some] <;> rfl) | (simp [*, errW_none, errW_some] <;> rfl), by first | exact Kd.R_nil _ _ _ _ _ | exact Kd.N_nil _ _ _ _ _ | exact Kd.V_nil _ _ _ _ _ | exact Kd.Q_nil _ _ _ _ _ | exact Kd.S_nil _ _ _ _ _, by repeat (first | (with_reducible first | exact HB.out | apply below_alloc | apply pw_below_drewN | apply below_drew1 | refine below_set ?_ GE472.out) | exact HB.out)⟩
  · rw [if_neg c8] at H
    have c8b0 : (t473 == 0) = false := beq_eq_false_iff_ne.mpr c8
    have c8b1 : (t473 != 0) = true := bne_iff_ne.mpr c8
    (try simp only [c8b0, c8b1])
    simp only [Option.some.injEq, Prod.mk.injEq] at H
    obtain ⟨rfl, rfl⟩ := H
    go_wp2
    go_ret2
    exact ⟨_, by first | rfl | (simp [errW_none, errW_some] <;> rfl) | (simp [*, errW_none, errW_some] <;> rfl), by first | exact Kd.R_nil _ _ _ _ _ | exact Kd.N_nil _ _ _ _ _ | exact Kd.V_nil _ _ _ _ _ | exact Kd.Q_nil _ _ _ _ _ | exact Kd.S_nil _ _ _ _ _, by repeat (first | (with_reducible first | exact HB.out | apply below_alloc | apply pw_below_drewN | apply below_drew1 | refine below_set ?_ GE472.out) | exact HB.out)⟩
def contangotop_goes16.f (k : Nat)  : Option (Bool) := (some (([(⟨(⟨#[117, 115, 100]⟩ : ByteArray), 1000000⟩ : S94), (⟨(⟨#[101, 117, 114]⟩ : ByteArray), 500000⟩ : S94)] : List (S94)) : List (S94))).bind fun y617 => ((asset_Units.f k (⟨#[116, 98]⟩ : ByteArray) 2 1 10000 100 0 13501 y617).bind fun bt622 => ((pledge_Put.f k ([] : List (S85)) (⟨#[97]⟩ : ByteArray) (⟨#[120]⟩ : ByteArray) (⟨#[116, 98]⟩ : ByteArray) bt622.1).bind fun bt624 => ((pledge_Worth.f k bt624.1 (⟨#[97]⟩ : ByteArray) (⟨#[120]⟩ : ByteArray) (([(⟨(⟨#[116, 98]⟩ : ByteArray), 2, 1, 10000, 100, 0⟩ : S23)] : List (S23))) y617).bind fun bt631 => (if bt622.1 = 4 then (if bt622.2 = 0 then (if bt624.2 = 0 then (if bt631.1 = 18000 then (some (bt631.2 == 0)) else (some false)) else (some false)) else (some false)) else (some false)))))
theorem contangotop_goes16.mono : ∀ k, LeO (contangotop_goes16.f k ) (contangotop_goes16.f (k + 1) ) := by
  intro  k
  unfold contangotop_goes16.f
  repeat' first
      | (with_reducible exact asset_Units.mono _ _ _ _ _ _ _ _ _)
      | (with_reducible exact pledge_Put.mono _ _ _ _ _ _)
      | (with_reducible exact pledge_Worth.mono _ _ _ _ _ _)
      | (with_reducible exact LeO.refl _)
      | (with_reducible exact LeO.none _)
      | (with_reducible refine LeO.ite ?_ ?_)
      | (with_reducible refine LeO.bind ?_ (fun _ => ?_))
      | exact asset_Units.mono _ _ _ _ _ _ _ _ _
      | exact pledge_Put.mono _ _ _ _ _ _
      | exact pledge_Worth.mono _ _ _ _ _ _
      | exact LeO.none _
      | refine LeO.ite ?_ ?_
      | refine LeO.bind ?_ (fun _ => ?_)
set_option maxHeartbeats 8000000 in
set_option maxRecDepth 100000 in
theorem contangotop_goes16.calls (k : Nat)  (r : Bool) (w : World) (h : contangotop_goes16.f k  = some r) :
    Calls Try.prog 42 #[] w fun e w' => e = .returned (.bool r) ∧ Below w.heap.size w w' := by
  have hu94 := Try.underlying94
  have hu23 := Try.underlying23
  have hu67 := Try.underlying67
  have HB := Aside0.mk (Below.refl w.heap.size w)
  have H : ((some (([(⟨(⟨#[117, 115, 100]⟩ : ByteArray), 1000000⟩ : S94), (⟨(⟨#[101, 117, 114]⟩ : ByteArray), 500000⟩ : S94)] : List (S94)) : List (S94))).bind fun y617 => ((asset_Units.f k (⟨#[116, 98]⟩ : ByteArray) 2 1 10000 100 0 13501 y617).bind fun bt622 => ((pledge_Put.f k ([] : List (S85)) (⟨#[97]⟩ : ByteArray) (⟨#[120]⟩ : ByteArray) (⟨#[116, 98]⟩ : ByteArray) bt622.1).bind fun bt624 => ((pledge_Worth.f k bt624.1 (⟨#[97]⟩ : ByteArray) (⟨#[120]⟩ : ByteArray) (([(⟨(⟨#[116, 98]⟩ : ByteArray), 2, 1, 10000, 100, 0⟩ : S23)] : List (S23))) y617).bind fun bt631 => (if bt622.1 = 4 then (if bt622.2 = 0 then (if bt624.2 = 0 then (if bt631.1 = 18000 then (some (bt631.2 == 0)) else (some false)) else (some false)) else (some false)) else (some false)))))) = some r := h
  clear h
  obtain ⟨y617, hy617⟩ : ∃ y_ : List (S94), y_ = (([(⟨(⟨#[117, 115, 100]⟩ : ByteArray), 1000000⟩ : S94), (⟨(⟨#[101, 117, 114]⟩ : ByteArray), 500000⟩ : S94)] : List (S94))) := ⟨_, rfl⟩
  replace H : ((asset_Units.f k (⟨#[116, 98]⟩ : ByteArray) 2 1 10000 100 0 13501 y617).bind fun bt622 => ((pledge_Put.f k ([] : List (S85)) (⟨#[97]⟩ : ByteArray) (⟨#[120]⟩ : ByteArray) (⟨#[116, 98]⟩ : ByteArray) bt622.1).bind fun bt624 => ((pledge_Worth.f k bt624.1 (⟨#[97]⟩ : ByteArray) (⟨#[120]⟩ : ByteArray) (([(⟨(⟨#[116, 98]⟩ : ByteArray), 2, 1, 10000, 100, 0⟩ : S23)] : List (S23))) y617).bind fun bt631 => (if bt622.1 = 4 then (if bt622.2 = 0 then (if bt624.2 = 0 then (if bt631.1 = 18000 then (some (bt631.2 == 0)) else (some false)) else (some false)) else (some false)) else (some false))))) = some r := by first | (rw [hy617]; with_reducible exact H) | (have H2_ := (Option.bind_some _ _).symm.trans H; rw [hy617]; with_reducible exact H2_) | (have H2_ := (Option.bind_some _ _).symm.trans H; with_reducible exact H2_) | with_reducible exact H | (rw [hy617]; exact H) | exact H
  have Ny617 := Aside0.mk hy617
  clear hy617
  replace H := Option.bind_eq_some_iff.mp H
  obtain ⟨⟨t622, t623⟩, A10, H⟩ := H
  replace H : ((pledge_Put.f k ([] : List (S85)) (⟨#[97]⟩ : ByteArray) (⟨#[120]⟩ : ByteArray) (⟨#[116, 98]⟩ : ByteArray) t622).bind fun bt624 => ((pledge_Worth.f k bt624.1 (⟨#[97]⟩ : ByteArray) (⟨#[120]⟩ : ByteArray) (([(⟨(⟨#[116, 98]⟩ : ByteArray), 2, 1, 10000, 100, 0⟩ : S23)] : List (S23))) y617).bind fun bt631 => (if t622 = 4 then (if t623 = 0 then (if bt624.2 = 0 then (if bt631.1 = 18000 then (some (bt631.2 == 0)) else (some false)) else (some false)) else (some false)) else (some false)))) = some r := H
  have A1 := Aside0.mk A10
  clear A10
  replace H := Option.bind_eq_some_iff.mp H
  obtain ⟨⟨t624, t627⟩, A20, H⟩ := H
  replace H : ((pledge_Worth.f k t624 (⟨#[97]⟩ : ByteArray) (⟨#[120]⟩ : ByteArray) (([(⟨(⟨#[116, 98]⟩ : ByteArray), 2, 1, 10000, 100, 0⟩ : S23)] : List (S23))) y617).bind fun bt631 => (if t622 = 4 then (if t623 = 0 then (if t627 = 0 then (if bt631.1 = 18000 then (some (bt631.2 == 0)) else (some false)) else (some false)) else (some false)) else (some false))) = some r := H
  have A2 := Aside0.mk A20
  clear A20
  obtain ⟨y628, hy628⟩ : ∃ y_ : List (S23), y_ = (([(⟨(⟨#[116, 98]⟩ : ByteArray), 2, 1, 10000, 100, 0⟩ : S23)] : List (S23))) := ⟨_, rfl⟩
  replace H : ((pledge_Worth.f k t624 (⟨#[97]⟩ : ByteArray) (⟨#[120]⟩ : ByteArray) y628 y617).bind fun bt631 => (if t622 = 4 then (if t623 = 0 then (if t627 = 0 then (if bt631.1 = 18000 then (some (bt631.2 == 0)) else (some false)) else (some false)) else (some false)) else (some false))) = some r := by first | (rw [hy628]; with_reducible exact H) | (have H2_ := (Option.bind_some _ _).symm.trans H; rw [hy628]; with_reducible exact H2_) | (have H2_ := (Option.bind_some _ _).symm.trans H; with_reducible exact H2_) | with_reducible exact H | (rw [hy628]; exact H) | exact H
  have Ny628 := Aside0.mk hy628
  clear hy628
  replace H := Option.bind_eq_some_iff.mp H
  obtain ⟨⟨t631, t632⟩, A30, H⟩ := H
  replace H : (if t622 = 4 then (if t623 = 0 then (if t627 = 0 then (if t631 = 18000 then (some (t632 == 0)) else (some false)) else (some false)) else (some false)) else (some false)) = some r := H
  have A3 := Aside0.mk A30
  clear A30
  go_enter Try.func42, Try.ntmps42
  go_upto_region 7 with (first | ((with_reducible refine gate_dst (N := 12) rfl ?_); refine Kd.R_lit k94 _ 94 ?hg (N := 12) ?hd (xs := ([(⟨(⟨#[117, 115, 100]⟩ : ByteArray), 1000000⟩ : S94), (⟨(⟨#[101, 117, 114]⟩ : ByteArray), 500000⟩ : S94)] : List (S94))) (inner := [.string (⟨#[117, 115, 100]⟩ : ByteArray), .int .i64 1000000, .string (⟨#[101, 117, 114]⟩ : ByteArray), .int .i64 500000]) (ok := fun _ => True) (okp := fun _ => True) ?hr ?hp (fun _ hk => hk) trivial (Below.refl _ _) (Nat.le_refl _) (by simp) ?_; (case hd => rfl); (case hg => rfl); (case hr => first | (go_simp; done) | (go_simp; rfl)); (case hp => exact (Reps.c2 (show Kd.M k94 _ _ _ (⟨(⟨#[117, 115, 100]⟩ : ByteArray), 1000000⟩ : S94) [.string (⟨#[117, 115, 100]⟩ : ByteArray), .int .i64 1000000] from (k94_mkM _ _ _ (⟨(⟨#[117, 115, 100]⟩ : ByteArray), 1000000⟩ : S94) )) (Reps.c2 (show Kd.M k94 _ _ _ (⟨(⟨#[101, 117, 114]⟩ : ByteArray), 500000⟩ : S94) [.string (⟨#[101, 117, 114]⟩ : ByteArray), .int .i64 500000] from (k94_mkM _ _ _ (⟨(⟨#[101, 117, 114]⟩ : ByteArray), 500000⟩ : S94) )) (Reps.none _ _)))); intro v618 w4 ho5 hb hg_ hnew_; clear hg_ hnew_; (first | rw [← Ny617.out] at ho5 | (simp only [Int.reduceToNat] at ho5; rw [← Ny617.out] at ho5)); have n0_ := Aside0.mk (Kd.R_lower ho5 (below_size (by repeat (first | (with_reducible first | exact HB.out | apply below_alloc | apply pw_below_drewN | apply below_drew1) | exact HB.out)))); have n1_ := Aside0.mk (below_step (by repeat (first | (with_reducible first | exact HB.out | apply below_alloc | apply pw_below_drewN | apply below_drew1) | exact HB.out)) hb); clear HB; have HO619 := n0_; have HB := n1_; clear n0_ n1_; clear hb ho5) | ((with_reducible refine gate_dst (N := 2) rfl ?_); refine box_event ?hg (N := 2) ?hd (cs := #[.string (⟨#[]⟩ : ByteArray), .int .i64 0, .int .i64 0, .int .i64 0, .int .i64 0, .int .i64 0]) (t := 23) ?hr ?_; (case hd => rfl); (case hg => rfl); (case hr => first | (go_simp; done) | (go_simp; rfl)); intro gb620 hg w6 hbox hb; have n0_ := Aside0.mk (Kd.R_below (by (with_reducible repeat (first | apply Kd.R_alloc | apply Kd.R_drewN | apply Kd.R_drew)); exact HO619.out) hb); have n1_ := Aside0.mk (below_step (by repeat (first | (with_reducible first | exact HB.out | apply below_alloc | apply pw_below_drewN | apply below_drew1) | exact HB.out)) hb); have n2_ := Aside0.mk (hbox); have n3_ := Aside0.mk ((by rw [hg]; exact (below_size (by repeat (first | (with_reducible first | exact HB.out | apply below_alloc | apply pw_below_drewN | apply below_drew1) | exact HB.out))) : w.heap.size ≤ gb620)); have n4_ := Aside0.mk ((by rw [hg]; exact (below_size (by repeat (first | (with_reducible first | exact HB.out | apply below_alloc | apply pw_below_drewN | apply below_drew1) | exact HB.out))) : w.heap.size ≤ gb620)); clear HO619; clear HB; have HO619 := n0_; have HB := n1_; have BK620 := n2_; have GW620 := n3_; have GE620 := n4_; clear n0_ n1_ n2_ n3_ n4_; clear hb hbox hg; have hcz7_0 : w6.cell? ⟨gb620, 0, none⟩ = some (.string (⟨#[]⟩ : ByteArray)) := (blk_cell BK620.out 0).trans rfl; have hcz7_1 : w6.cell? ⟨gb620, 1, none⟩ = some (.int .i64 0) := (blk_cell BK620.out 1).trans rfl; have hcz7_2 : w6.cell? ⟨gb620, 2, none⟩ = some (.int .i64 0) := (blk_cell BK620.out 2).trans rfl; have hcz7_3 : w6.cell? ⟨gb620, 3, none⟩ = some (.int .i64 0) := (blk_cell BK620.out 3).trans rfl; have hcz7_4 : w6.cell? ⟨gb620, 4, none⟩ = some (.int .i64 0) := (blk_cell BK620.out 4).trans rfl; have hcz7_5 : w6.cell? ⟨gb620, 5, none⟩ = some (.int .i64 0) := (blk_cell BK620.out 5).trans rfl; have hfz7_0 := blk_frozen BK620.out 0; have hfz7_1 := blk_frozen BK620.out 1; have hfz7_2 := blk_frozen BK620.out 2; have hfz7_3 := blk_frozen BK620.out 3; have hfz7_4 := blk_frozen BK620.out 4; have hfz7_5 := blk_frozen BK620.out 5) | ((with_reducible refine gate_dst (N := 3) rfl ?_); refine box_event ?hg (N := 3) ?hd (cs := #[.string (⟨#[]⟩ : ByteArray), .string (⟨#[]⟩ : ByteArray)]) (t := 67) ?hr ?_; (case hd => rfl); (case hg => rfl); (case hr => first | (go_simp; done) | (go_simp; rfl)); intro gb621 hg w8 hbox hb; have n0_ := Aside0.mk (Kd.R_below (by (with_reducible repeat (first | apply Kd.R_alloc | apply Kd.R_drewN | apply Kd.R_drew)); exact (Kd.R_mono (Kd.R_far (p := ⟨gb620, 5, none⟩) (Kd.R_far (p := ⟨gb620, 4, none⟩) (Kd.R_far (p := ⟨gb620, 3, none⟩) (Kd.R_far (p := ⟨gb620, 2, none⟩) (Kd.R_far (p := ⟨gb620, 1, none⟩) (Kd.R_far (p := ⟨gb620, 0, none⟩) (Kd.R_types HO619.out BK620.out (by decide)) (fun _ hk => hk.2) (.string (⟨#[116, 98]⟩ : ByteArray))) (fun _ hk => hk.2) (.int .i64 2)) (fun _ hk => hk.2) (.int .i64 1)) (fun _ hk => hk.2) (.int .i64 10000)) (fun _ hk => hk.2) (.int .i64 100)) (fun _ hk => hk.2) (.int .i64 0)) (fun _ h_ => h_.1))) hb); have n1_ := Aside0.mk (blk_below (g := gb620) (o := .cells #[.string (⟨#[116, 98]⟩ : ByteArray), .int .i64 2, .int .i64 1, .int .i64 10000, .int .i64 100, .int .i64 0] 23 (0, 0)) (by (with_reducible repeat (first | refine blk_drewN ?_ _ | refine blk_drew ?_ | refine blk_alloc ?_ _)); refine blk_put (cs := #[.string (⟨#[116, 98]⟩ : ByteArray), .int .i64 2, .int .i64 1, .int .i64 10000, .int .i64 100, .int .i64 0]) ?_ 5 _ rfl; (with_reducible repeat (first | refine blk_drewN ?_ _ | refine blk_drew ?_ | refine blk_alloc ?_ _)); refine blk_put (cs := #[.string (⟨#[116, 98]⟩ : ByteArray), .int .i64 2, .int .i64 1, .int .i64 10000, .int .i64 0, .int .i64 0]) ?_ 4 _ rfl; (with_reducible repeat (first | refine blk_drewN ?_ _ | refine blk_drew ?_ | refine blk_alloc ?_ _)); refine blk_put (cs := #[.string (⟨#[116, 98]⟩ : ByteArray), .int .i64 2, .int .i64 1, .int .i64 0, .int .i64 0, .int .i64 0]) ?_ 3 _ rfl; (with_reducible repeat (first | refine blk_drewN ?_ _ | refine blk_drew ?_ | refine blk_alloc ?_ _)); refine blk_put (cs := #[.string (⟨#[116, 98]⟩ : ByteArray), .int .i64 2, .int .i64 0, .int .i64 0, .int .i64 0, .int .i64 0]) ?_ 2 _ rfl; (with_reducible repeat (first | refine blk_drewN ?_ _ | refine blk_drew ?_ | refine blk_alloc ?_ _)); refine blk_put (cs := #[.string (⟨#[116, 98]⟩ : ByteArray), .int .i64 0, .int .i64 0, .int .i64 0, .int .i64 0, .int .i64 0]) ?_ 1 _ rfl; (with_reducible repeat (first | refine blk_drewN ?_ _ | refine blk_drew ?_ | refine blk_alloc ?_ _)); refine blk_put (cs := #[.string (⟨#[]⟩ : ByteArray), .int .i64 0, .int .i64 0, .int .i64 0, .int .i64 0, .int .i64 0]) ?_ 0 _ rfl; (with_reducible repeat (first | refine blk_drewN ?_ _ | refine blk_drew ?_ | refine blk_alloc ?_ _)); exact BK620.out) hb); have n2_ := Aside0.mk (below_step (by repeat (first | (with_reducible first | exact HB.out | apply below_alloc | apply pw_below_drewN | apply below_drew1 | refine below_set ?_ GE620.out) | exact HB.out)) hb); have n3_ := Aside0.mk (hbox); have n4_ := Aside0.mk ((by rw [hg]; exact (below_size (by repeat (first | (with_reducible first | exact HB.out | apply below_alloc | apply pw_below_drewN | apply below_drew1 | refine below_set ?_ GE620.out) | exact HB.out))) : w.heap.size ≤ gb621)); have n5_ := Aside0.mk ((by rw [hg]; exact (below_size (by repeat (first | (with_reducible first | exact HB.out | apply below_alloc | apply pw_below_drewN | apply below_drew1 | refine below_set ?_ GE620.out) | exact HB.out))) : w.heap.size ≤ gb621)); have n6_ := Aside0.mk ((by rw [hg]; exact Nat.ne_of_lt (blk_lt (g := gb620) (o := .cells #[.string (⟨#[116, 98]⟩ : ByteArray), .int .i64 2, .int .i64 1, .int .i64 10000, .int .i64 100, .int .i64 0] 23 (0, 0)) (by (with_reducible repeat (first | refine blk_drewN ?_ _ | refine blk_drew ?_ | refine blk_alloc ?_ _)); refine blk_put (cs := #[.string (⟨#[116, 98]⟩ : ByteArray), .int .i64 2, .int .i64 1, .int .i64 10000, .int .i64 100, .int .i64 0]) ?_ 5 _ rfl; (with_reducible repeat (first | refine blk_drewN ?_ _ | refine blk_drew ?_ | refine blk_alloc ?_ _)); refine blk_put (cs := #[.string (⟨#[116, 98]⟩ : ByteArray), .int .i64 2, .int .i64 1, .int .i64 10000, .int .i64 0, .int .i64 0]) ?_ 4 _ rfl; (with_reducible repeat (first | refine blk_drewN ?_ _ | refine blk_drew ?_ | refine blk_alloc ?_ _)); refine blk_put (cs := #[.string (⟨#[116, 98]⟩ : ByteArray), .int .i64 2, .int .i64 1, .int .i64 0, .int .i64 0, .int .i64 0]) ?_ 3 _ rfl; (with_reducible repeat (first | refine blk_drewN ?_ _ | refine blk_drew ?_ | refine blk_alloc ?_ _)); refine blk_put (cs := #[.string (⟨#[116, 98]⟩ : ByteArray), .int .i64 2, .int .i64 0, .int .i64 0, .int .i64 0, .int .i64 0]) ?_ 2 _ rfl; (with_reducible repeat (first | refine blk_drewN ?_ _ | refine blk_drew ?_ | refine blk_alloc ?_ _)); refine blk_put (cs := #[.string (⟨#[116, 98]⟩ : ByteArray), .int .i64 0, .int .i64 0, .int .i64 0, .int .i64 0, .int .i64 0]) ?_ 1 _ rfl; (with_reducible repeat (first | refine blk_drewN ?_ _ | refine blk_drew ?_ | refine blk_alloc ?_ _)); refine blk_put (cs := #[.string (⟨#[]⟩ : ByteArray), .int .i64 0, .int .i64 0, .int .i64 0, .int .i64 0, .int .i64 0]) ?_ 0 _ rfl; (with_reducible repeat (first | refine blk_drewN ?_ _ | refine blk_drew ?_ | refine blk_alloc ?_ _)); exact BK620.out)) : gb620 ≠ gb621)); have n7_ := Aside0.mk ((by rw [hg]; exact Nat.ne_of_gt (blk_lt (g := gb620) (o := .cells #[.string (⟨#[116, 98]⟩ : ByteArray), .int .i64 2, .int .i64 1, .int .i64 10000, .int .i64 100, .int .i64 0] 23 (0, 0)) (by (with_reducible repeat (first | refine blk_drewN ?_ _ | refine blk_drew ?_ | refine blk_alloc ?_ _)); refine blk_put (cs := #[.string (⟨#[116, 98]⟩ : ByteArray), .int .i64 2, .int .i64 1, .int .i64 10000, .int .i64 100, .int .i64 0]) ?_ 5 _ rfl; (with_reducible repeat (first | refine blk_drewN ?_ _ | refine blk_drew ?_ | refine blk_alloc ?_ _)); refine blk_put (cs := #[.string (⟨#[116, 98]⟩ : ByteArray), .int .i64 2, .int .i64 1, .int .i64 10000, .int .i64 0, .int .i64 0]) ?_ 4 _ rfl; (with_reducible repeat (first | refine blk_drewN ?_ _ | refine blk_drew ?_ | refine blk_alloc ?_ _)); refine blk_put (cs := #[.string (⟨#[116, 98]⟩ : ByteArray), .int .i64 2, .int .i64 1, .int .i64 0, .int .i64 0, .int .i64 0]) ?_ 3 _ rfl; (with_reducible repeat (first | refine blk_drewN ?_ _ | refine blk_drew ?_ | refine blk_alloc ?_ _)); refine blk_put (cs := #[.string (⟨#[116, 98]⟩ : ByteArray), .int .i64 2, .int .i64 0, .int .i64 0, .int .i64 0, .int .i64 0]) ?_ 2 _ rfl; (with_reducible repeat (first | refine blk_drewN ?_ _ | refine blk_drew ?_ | refine blk_alloc ?_ _)); refine blk_put (cs := #[.string (⟨#[116, 98]⟩ : ByteArray), .int .i64 0, .int .i64 0, .int .i64 0, .int .i64 0, .int .i64 0]) ?_ 1 _ rfl; (with_reducible repeat (first | refine blk_drewN ?_ _ | refine blk_drew ?_ | refine blk_alloc ?_ _)); refine blk_put (cs := #[.string (⟨#[]⟩ : ByteArray), .int .i64 0, .int .i64 0, .int .i64 0, .int .i64 0, .int .i64 0]) ?_ 0 _ rfl; (with_reducible repeat (first | refine blk_drewN ?_ _ | refine blk_drew ?_ | refine blk_alloc ?_ _)); exact BK620.out)) : gb621 ≠ gb620)); clear HO619; clear BK620; clear HB; have HO619 := n0_; have BK620 := n1_; have HB := n2_; have BK621 := n3_; have GW621 := n4_; have GE621 := n5_; have NB620_621 := n6_; have NB621_620 := n7_; clear n0_ n1_ n2_ n3_ n4_ n5_ n6_ n7_; clear hb hbox hg; have hnb9 := NB621_620.out; have hnc9 := NB620_621.out; have hcz10_0 : w8.cell? ⟨gb621, 0, none⟩ = some (.string (⟨#[]⟩ : ByteArray)) := (blk_cell BK621.out 0).trans rfl; have hcz10_1 : w8.cell? ⟨gb621, 1, none⟩ = some (.string (⟨#[]⟩ : ByteArray)) := (blk_cell BK621.out 1).trans rfl; have hfz10_0 := blk_frozen BK621.out 0; have hfz10_1 := blk_frozen BK621.out 1; have hcz11_0 : w8.cell? ⟨gb620, 0, none⟩ = some (.string (⟨#[116, 98]⟩ : ByteArray)) := (blk_cell BK620.out 0).trans rfl; have hcz11_1 : w8.cell? ⟨gb620, 1, none⟩ = some (.int .i64 2) := (blk_cell BK620.out 1).trans rfl; have hcz11_2 : w8.cell? ⟨gb620, 2, none⟩ = some (.int .i64 1) := (blk_cell BK620.out 2).trans rfl; have hcz11_3 : w8.cell? ⟨gb620, 3, none⟩ = some (.int .i64 10000) := (blk_cell BK620.out 3).trans rfl; have hcz11_4 : w8.cell? ⟨gb620, 4, none⟩ = some (.int .i64 100) := (blk_cell BK620.out 4).trans rfl; have hcz11_5 : w8.cell? ⟨gb620, 5, none⟩ = some (.int .i64 0) := (blk_cell BK620.out 5).trans rfl; have hfz11_0 := blk_frozen BK620.out 0; have hfz11_1 := blk_frozen BK620.out 1; have hfz11_2 := blk_frozen BK620.out 2; have hfz11_3 := blk_frozen BK620.out 3; have hfz11_4 := blk_frozen BK620.out 4; have hfz11_5 := blk_frozen BK620.out 5; obtain ⟨Ao12, co12, eo12⟩ := Kd.R_slice HO619.out; subst eo12) | ((with_reducible refine gate_callee (f := 20) rfl ?_); refine goesL_ (some 18) rfl rfl Try.func20 (by kernel_rfl) rfl #[.agg #[.string (⟨#[116, 98]⟩ : ByteArray), .int .i64 2, .int .i64 1, .int .i64 10000, .int .i64 100, .int .i64 0], .int .i64 13501, .slice Ao12 y617.length co12] rfl (by (try simp only [List.map_toArray, List.map_cons, List.map_nil]); first | done | rfl | (simp only [List.length_drop, List.length_take]; rfl)) ?_; (with_reducible refine (asset_Units.calls k (⟨#[116, 98]⟩ : ByteArray) 2 1 10000 100 0 13501 _ _ y617 t622 t623 _ ?side1 ?side2 A1.out).mono ?_); (case side1 => refine (Kd.R_reads' (e := 94) (base := w.heap.size) (ok := fun k_ => True) (n := y617.length) (c := co12) ?_).2.2; exact (by (with_reducible repeat (first | apply Kd.R_alloc | apply Kd.R_drewN | apply Kd.R_drew)); exact (Kd.R_mono (Kd.R_far (p := ⟨gb621, 1, none⟩) (Kd.R_far (p := ⟨gb621, 0, none⟩) (Kd.R_types HO619.out BK621.out (by decide)) (fun _ hk => hk.2) (.string (⟨#[97]⟩ : ByteArray))) (fun _ hk => hk.2) (.string (⟨#[120]⟩ : ByteArray))) (fun _ h_ => h_.1)))); (case side2 => exact (Kd.R_reads' HO619.out).2.1); rintro e w13 ⟨rfl, hb⟩; refine ⟨_, rfl, ?_⟩; have n0_ := Aside0.mk (Kd.R_below (by (with_reducible repeat (first | apply Kd.R_alloc | apply Kd.R_drewN | apply Kd.R_drew)); exact (Kd.R_mono (Kd.R_far (p := ⟨gb621, 1, none⟩) (Kd.R_far (p := ⟨gb621, 0, none⟩) (Kd.R_types HO619.out BK621.out (by decide)) (fun _ hk => hk.2) (.string (⟨#[97]⟩ : ByteArray))) (fun _ hk => hk.2) (.string (⟨#[120]⟩ : ByteArray))) (fun _ h_ => h_.1))) hb); have n1_ := Aside0.mk (blk_below (g := gb620) (o := .cells #[.string (⟨#[116, 98]⟩ : ByteArray), .int .i64 2, .int .i64 1, .int .i64 10000, .int .i64 100, .int .i64 0] 23 (0, 0)) (by (with_reducible repeat (first | refine blk_drewN ?_ _ | refine blk_drew ?_ | refine blk_alloc ?_ _)); refine blk_far ?_ NB620_621.out _; (with_reducible repeat (first | refine blk_drewN ?_ _ | refine blk_drew ?_ | refine blk_alloc ?_ _)); refine blk_far ?_ NB620_621.out _; (with_reducible repeat (first | refine blk_drewN ?_ _ | refine blk_drew ?_ | refine blk_alloc ?_ _)); exact BK620.out) hb); have n2_ := Aside0.mk (blk_below (g := gb621) (o := .cells #[.string (⟨#[97]⟩ : ByteArray), .string (⟨#[120]⟩ : ByteArray)] 67 (0, 0)) (by (with_reducible repeat (first | refine blk_drewN ?_ _ | refine blk_drew ?_ | refine blk_alloc ?_ _)); refine blk_put (cs := #[.string (⟨#[97]⟩ : ByteArray), .string (⟨#[]⟩ : ByteArray)]) ?_ 1 _ rfl; (with_reducible repeat (first | refine blk_drewN ?_ _ | refine blk_drew ?_ | refine blk_alloc ?_ _)); refine blk_put (cs := #[.string (⟨#[]⟩ : ByteArray), .string (⟨#[]⟩ : ByteArray)]) ?_ 0 _ rfl; (with_reducible repeat (first | refine blk_drewN ?_ _ | refine blk_drew ?_ | refine blk_alloc ?_ _)); exact BK621.out) hb); have n3_ := Aside0.mk (below_step (by repeat (first | (with_reducible first | exact HB.out | apply below_alloc | apply pw_below_drewN | apply below_drew1 | refine below_set ?_ GE620.out | refine below_set ?_ GE621.out) | exact HB.out)) hb); clear HO619; clear BK620; clear BK621; clear HB; have HO619 := n0_; have BK620 := n1_; have BK621 := n2_; have HB := n3_; clear n0_ n1_ n2_ n3_; (try clear hb); (try clear hb2); (try clear hk); (try clear hi); have hcz14_0 : w13.cell? ⟨gb621, 0, none⟩ = some (.string (⟨#[97]⟩ : ByteArray)) := (blk_cell BK621.out 0).trans rfl; have hcz14_1 : w13.cell? ⟨gb621, 1, none⟩ = some (.string (⟨#[120]⟩ : ByteArray)) := (blk_cell BK621.out 1).trans rfl; have hfz14_0 := blk_frozen BK621.out 0; have hfz14_1 := blk_frozen BK621.out 1) | ((with_reducible refine gate_callee (f := 43) rfl ?_); refine goesL_ (some 24) rfl rfl Try.func43 (by kernel_rfl) rfl #[.slice none 0 0, .agg #[.string (⟨#[97]⟩ : ByteArray), .string (⟨#[120]⟩ : ByteArray)], .string (⟨#[116, 98]⟩ : ByteArray), .int .i64 t622] rfl (by (try simp only [List.map_toArray, List.map_cons, List.map_nil]); first | done | rfl | (simp only [List.length_drop, List.length_take]; rfl)) ?_; (refine (pledge_Put.calls k _ _ ([] : List (S85)) (⟨#[97]⟩ : ByteArray) (⟨#[120]⟩ : ByteArray) (⟨#[116, 98]⟩ : ByteArray) t622 t624 t627 _ ?side1 ?side2 A2.out).mono ?_); (case side1 => exact Kd.C_nil _ _); (case side2 => exact Nat.le_refl _); rintro e w15 ⟨v625, rfl, ho0, hb⟩; refine ⟨_, rfl, ?_⟩; have n0_ := Aside0.mk (Kd.R_below (by (with_reducible repeat (first | apply Kd.R_alloc | apply Kd.R_drewN | apply Kd.R_drew)); exact HO619.out) hb); have n1_ := Aside0.mk (Kd.R_lower ho0 (below_size (by repeat (first | (with_reducible first | exact HB.out | apply below_alloc | apply pw_below_drewN | apply below_drew1 | refine below_set ?_ GE620.out | refine below_set ?_ GE621.out) | exact HB.out)))); have n2_ := Aside0.mk (blk_below (g := gb620) (o := .cells #[.string (⟨#[116, 98]⟩ : ByteArray), .int .i64 2, .int .i64 1, .int .i64 10000, .int .i64 100, .int .i64 0] 23 (0, 0)) (by (with_reducible repeat (first | refine blk_drewN ?_ _ | refine blk_drew ?_ | refine blk_alloc ?_ _)); exact BK620.out) hb); have n3_ := Aside0.mk (blk_below (g := gb621) (o := .cells #[.string (⟨#[97]⟩ : ByteArray), .string (⟨#[120]⟩ : ByteArray)] 67 (0, 0)) (by (with_reducible repeat (first | refine blk_drewN ?_ _ | refine blk_drew ?_ | refine blk_alloc ?_ _)); exact BK621.out) hb); have n4_ := Aside0.mk (below_step (by repeat (first | (with_reducible first | exact HB.out | apply below_alloc | apply pw_below_drewN | apply below_drew1 | refine below_set ?_ GE620.out | refine below_set ?_ GE621.out) | exact HB.out)) hb); clear HO619; clear BK620; clear BK621; clear HB; have HO619 := n0_; have HO626 := n1_; have BK620 := n2_; have BK621 := n3_; have HB := n4_; clear n0_ n1_ n2_ n3_ n4_; (try clear hb); (try clear hb2); (try clear hk); (try clear hi); (try clear ho0); have hcz16_0 : w15.cell? ⟨gb621, 0, none⟩ = some (.string (⟨#[97]⟩ : ByteArray)) := (blk_cell BK621.out 0).trans rfl; have hcz16_1 : w15.cell? ⟨gb621, 1, none⟩ = some (.string (⟨#[120]⟩ : ByteArray)) := (blk_cell BK621.out 1).trans rfl; have hfz16_0 := blk_frozen BK621.out 0; have hfz16_1 := blk_frozen BK621.out 1; have hcz17_0 : w15.cell? ⟨gb620, 0, none⟩ = some (.string (⟨#[116, 98]⟩ : ByteArray)) := (blk_cell BK620.out 0).trans rfl; have hcz17_1 : w15.cell? ⟨gb620, 1, none⟩ = some (.int .i64 2) := (blk_cell BK620.out 1).trans rfl; have hcz17_2 : w15.cell? ⟨gb620, 2, none⟩ = some (.int .i64 1) := (blk_cell BK620.out 2).trans rfl; have hcz17_3 : w15.cell? ⟨gb620, 3, none⟩ = some (.int .i64 10000) := (blk_cell BK620.out 3).trans rfl; have hcz17_4 : w15.cell? ⟨gb620, 4, none⟩ = some (.int .i64 100) := (blk_cell BK620.out 4).trans rfl; have hcz17_5 : w15.cell? ⟨gb620, 5, none⟩ = some (.int .i64 0) := (blk_cell BK620.out 5).trans rfl; have hfz17_0 := blk_frozen BK620.out 0; have hfz17_1 := blk_frozen BK620.out 1; have hfz17_2 := blk_frozen BK620.out 2; have hfz17_3 := blk_frozen BK620.out 3; have hfz17_4 := blk_frozen BK620.out 4; have hfz17_5 := blk_frozen BK620.out 5) | ((with_reducible refine gate_dst (N := 31) rfl ?_); refine Kd.R_lit k23 _ 23 ?hg (N := 31) ?hd (xs := ([(⟨(⟨#[116, 98]⟩ : ByteArray), 2, 1, 10000, 100, 0⟩ : S23)] : List (S23))) (inner := [.string (⟨#[116, 98]⟩ : ByteArray), .int .i64 2, .int .i64 1, .int .i64 10000, .int .i64 100, .int .i64 0]) (ok := fun _ => True) (okp := fun _ => True) ?hr ?hp (fun _ hk => hk) trivial (Below.refl _ _) (Nat.le_refl _) (by simp) ?_; (case hd => rfl); (case hg => rfl); (case hr => first | (go_simp; done) | (go_simp; rfl)); (case hp => exact (Reps.c6 (show Kd.M k23 _ _ _ (⟨(⟨#[116, 98]⟩ : ByteArray), 2, 1, 10000, 100, 0⟩ : S23) [.string (⟨#[116, 98]⟩ : ByteArray), .int .i64 2, .int .i64 1, .int .i64 10000, .int .i64 100, .int .i64 0] from (k23_mkM _ _ _ (⟨(⟨#[116, 98]⟩ : ByteArray), 2, 1, 10000, 100, 0⟩ : S23) )) (Reps.none _ _))); intro v629 w18 ho19 hb hg_ hnew_; clear hg_ hnew_; (first | rw [← Ny628.out] at ho19 | (simp only [Int.reduceToNat] at ho19; rw [← Ny628.out] at ho19)); have n0_ := Aside0.mk (Kd.R_below (by (with_reducible repeat (first | apply Kd.R_alloc | apply Kd.R_drewN | apply Kd.R_drew)); exact HO619.out) hb); have n1_ := Aside0.mk (Kd.R_below (by (with_reducible repeat (first | apply Kd.R_alloc | apply Kd.R_drewN | apply Kd.R_drew)); exact HO626.out) hb); have n2_ := Aside0.mk (Kd.R_lower (Kd.R_newB ho19 (g := gb620) (o := .cells #[.string (⟨#[116, 98]⟩ : ByteArray), .int .i64 2, .int .i64 1, .int .i64 10000, .int .i64 100, .int .i64 0] 23 (0, 0)) (by (with_reducible repeat (first | refine blk_drewN ?_ _ | refine blk_drew ?_ | refine blk_alloc ?_ _)); exact BK620.out)) (below_size (by repeat (first | (with_reducible first | exact HB.out | apply below_alloc | apply pw_below_drewN | apply below_drew1 | refine below_set ?_ GE620.out | refine below_set ?_ GE621.out) | exact HB.out)))); have n3_ := Aside0.mk (blk_below (g := gb620) (o := .cells #[.string (⟨#[116, 98]⟩ : ByteArray), .int .i64 2, .int .i64 1, .int .i64 10000, .int .i64 100, .int .i64 0] 23 (0, 0)) (by (with_reducible repeat (first | refine blk_drewN ?_ _ | refine blk_drew ?_ | refine blk_alloc ?_ _)); exact BK620.out) hb); have n4_ := Aside0.mk (blk_below (g := gb621) (o := .cells #[.string (⟨#[97]⟩ : ByteArray), .string (⟨#[120]⟩ : ByteArray)] 67 (0, 0)) (by (with_reducible repeat (first | refine blk_drewN ?_ _ | refine blk_drew ?_ | refine blk_alloc ?_ _)); exact BK621.out) hb); have n5_ := Aside0.mk (below_step (by repeat (first | (with_reducible first | exact HB.out | apply below_alloc | apply pw_below_drewN | apply below_drew1 | refine below_set ?_ GE620.out | refine below_set ?_ GE621.out) | exact HB.out)) hb); clear HO619; clear HO626; clear BK620; clear BK621; clear HB; have HO619 := n0_; have HO626 := n1_; have HO630 := n2_; have BK620 := n3_; have BK621 := n4_; have HB := n5_; clear n0_ n1_ n2_ n3_ n4_ n5_; clear hb ho19; obtain ⟨Ao20, co20, eo20⟩ := Kd.R_slice HO626.out; subst eo20; obtain ⟨Ao21, co21, eo21⟩ := Kd.R_slice HO630.out; subst eo21) | ((with_reducible refine gate_callee (f := 40) rfl ?_); refine goesL_ (some 33) rfl rfl Try.func40 (by kernel_rfl) rfl #[.slice Ao20 t624.length co20, .agg #[.string (⟨#[97]⟩ : ByteArray), .string (⟨#[120]⟩ : ByteArray)], .slice Ao21 y628.length co21, .slice Ao12 y617.length co12] rfl (by (try simp only [List.map_toArray, List.map_cons, List.map_nil]); first | done | rfl | (simp only [List.length_drop, List.length_take]; rfl)) ?_; (with_reducible refine (pledge_Worth.calls k _ _ t624 (⟨#[97]⟩ : ByteArray) (⟨#[120]⟩ : ByteArray) _ _ y628 _ _ y617 t631 t632 _ ?side1 ?side2 ?side3 ?side4 ?side5 ?side6 A3.out).mono ?_); (case side1 => repeat (first | exact (Kd.R_reads' HO626.out).2.2 | (with_reducible refine Kd.C_alloc ?_ _) | (with_reducible refine Kd.C_drewN ?_ _) | (with_reducible refine Kd.C_drew ?_))); (case side2 => exact (Kd.R_reads' HO626.out).2.1); (case side3 => repeat (first | exact (Kd.R_reads' HO630.out).2.2 | (with_reducible refine Kd.C_alloc ?_ _) | (with_reducible refine Kd.C_drewN ?_ _) | (with_reducible refine Kd.C_drew ?_))); (case side4 => exact (Kd.R_reads' HO630.out).2.1); (case side5 => repeat (first | exact (Kd.R_reads' HO619.out).2.2 | (with_reducible refine Kd.C_alloc ?_ _) | (with_reducible refine Kd.C_drewN ?_ _) | (with_reducible refine Kd.C_drew ?_))); (case side6 => exact (Kd.R_reads' HO619.out).2.1); rintro e w22 ⟨rfl, hb⟩; refine ⟨_, rfl, ?_⟩; have n0_ := Aside0.mk (Kd.R_below (by (with_reducible repeat (first | apply Kd.R_alloc | apply Kd.R_drewN | apply Kd.R_drew)); exact HO619.out) hb); have n1_ := Aside0.mk (Kd.R_below (by (with_reducible repeat (first | apply Kd.R_alloc | apply Kd.R_drewN | apply Kd.R_drew)); exact HO626.out) hb); have n2_ := Aside0.mk (Kd.R_below (by (with_reducible repeat (first | apply Kd.R_alloc | apply Kd.R_drewN | apply Kd.R_drew)); exact HO630.out) hb); have n3_ := Aside0.mk (blk_below (g := gb620) (o := .cells #[.string (⟨#[116, 98]⟩ : ByteArray), .int .i64 2, .int .i64 1, .int .i64 10000, .int .i64 100, .int .i64 0] 23 (0, 0)) (by (with_reducible repeat (first | refine blk_drewN ?_ _ | refine blk_drew ?_ | refine blk_alloc ?_ _)); exact BK620.out) hb); have n4_ := Aside0.mk (blk_below (g := gb621) (o := .cells #[.string (⟨#[97]⟩ : ByteArray), .string (⟨#[120]⟩ : ByteArray)] 67 (0, 0)) (by (with_reducible repeat (first | refine blk_drewN ?_ _ | refine blk_drew ?_ | refine blk_alloc ?_ _)); exact BK621.out) hb); have n5_ := Aside0.mk (below_step (by repeat (first | (with_reducible first | exact HB.out | apply below_alloc | apply pw_below_drewN | apply below_drew1 | refine below_set ?_ GE620.out | refine below_set ?_ GE621.out) | exact HB.out)) hb); clear HO619; clear HO626; clear HO630; clear BK620; clear BK621; clear HB; have HO619 := n0_; have HO626 := n1_; have HO630 := n2_; have BK620 := n3_; have BK621 := n4_; have HB := n5_; clear n0_ n1_ n2_ n3_ n4_ n5_; (try clear hb); (try clear hb2); (try clear hk); (try clear hi)))
  (try simp only [Act.put, List.setIfInBounds_toArray, List.set_cons_zero, List.set_cons_succ])
  by_cases c23 : t622 = 4
  · rw [if_pos c23] at H
    have c23b0 : (t622 == 4) = true := beq_iff_eq.mpr c23
    have c23b1 : (t622 != 4) = false := bne_eq_false_iff_eq.mpr c23
    clear c23
    (try simp only [c23b0, c23b1])
    by_cases c24 : t623 = 0
    · rw [if_pos c24] at H
      have c24b0 : (t623 == 0) = true := beq_iff_eq.mpr c24
      have c24b1 : (t623 != 0) = false := bne_eq_false_iff_eq.mpr c24
      clear c24
      by_cases c25 : t627 = 0
      · rw [if_pos c25] at H
        have c25b0 : (t627 == 0) = true := beq_iff_eq.mpr c25
        have c25b1 : (t627 != 0) = false := bne_eq_false_iff_eq.mpr c25
        clear c25
        by_cases c26 : t631 = 18000
        · rw [if_pos c26] at H
          have c26b0 : (t631 == 18000) = true := beq_iff_eq.mpr c26
          have c26b1 : (t631 != 18000) = false := bne_eq_false_iff_eq.mpr c26
          clear c26
          obtain rfl := Option.some.inj H
          go_wp2
          go_ret
          exact ⟨by first | rfl | (simp [errW_none, errW_some] <;> rfl) | (simp [*, errW_none, errW_some] <;> rfl), by repeat (first | (with_reducible first | exact HB.out | apply below_alloc | apply pw_below_drewN | apply below_drew1 | refine below_set ?_ GE620.out | refine below_set ?_ GE621.out) | exact HB.out)⟩
        · rw [if_neg c26] at H
          have c26b0 : (t631 == 18000) = false := beq_eq_false_iff_ne.mpr c26
          have c26b1 : (t631 != 18000) = true := bne_iff_ne.mpr c26
          obtain rfl := Option.some.inj H
          go_wp2
          go_ret
          exact ⟨by first | rfl | (simp [errW_none, errW_some] <;> rfl) | (simp [*, errW_none, errW_some] <;> rfl), by repeat (first | (with_reducible first | exact HB.out | apply below_alloc | apply pw_below_drewN | apply below_drew1 | refine below_set ?_ GE620.out | refine below_set ?_ GE621.out) | exact HB.out)⟩
      · rw [if_neg c25] at H
        have c25b0 : (t627 == 0) = false := beq_eq_false_iff_ne.mpr c25
        have c25b1 : (t627 != 0) = true := bne_iff_ne.mpr c25
        obtain rfl := Option.some.inj H
        go_wp2
        go_ret
        exact ⟨by first | rfl | (simp [errW_none, errW_some] <;> rfl) | (simp [*, errW_none, errW_some] <;> rfl), by repeat (first | (with_reducible first | exact HB.out | apply below_alloc | apply pw_below_drewN | apply below_drew1 | refine below_set ?_ GE620.out | refine below_set ?_ GE621.out) | exact HB.out)⟩
    · rw [if_neg c24] at H
      have c24b0 : (t623 == 0) = false := beq_eq_false_iff_ne.mpr c24
      have c24b1 : (t623 != 0) = true := bne_iff_ne.mpr c24
      obtain rfl := Option.some.inj H
      go_wp2
      go_ret
      exact ⟨by first | rfl | (simp [errW_none, errW_some] <;> rfl) | (simp [*, errW_none, errW_some] <;> rfl), by repeat (first | (with_reducible first | exact HB.out | apply below_alloc | apply pw_below_drewN | apply below_drew1 | refine below_set ?_ GE620.out | refine below_set ?_ GE621.out) | exact HB.out)⟩
  · rw [if_neg c23] at H
    have c23b0 : (t622 == 4) = false := beq_eq_false_iff_ne.mpr c23
    have c23b1 : (t622 != 4) = true := bne_iff_ne.mpr c23
    (try simp only [c23b0, c23b1])
    obtain rfl := Option.some.inj H
    go_wp2
    go_ret
    exact ⟨by first | rfl | (simp [errW_none, errW_some] <;> rfl) | (simp [*, errW_none, errW_some] <;> rfl), by repeat (first | (with_reducible first | exact HB.out | apply below_alloc | apply pw_below_drewN | apply below_drew1 | refine below_set ?_ GE620.out | refine below_set ?_ GE621.out) | exact HB.out)⟩
end Go.Proofs.Ytaiekjimdjlgbaa.Pr
