/- Functions' values and contracts, as the print wrote them. -/
import Derived.Test.YtaiekjimdjlgbaaQF9EP0
import Derived.Test.YtaiekjimdjlgbaaQF9EP3
import Derived.Test.YtaiekjimdjlgbaaQF9EP4
namespace Go.Proofs.Ytaiekjimdjlgbaa.Pr
open Go.RowKit Go.Proofs.YtaiekjimdjlgbaaW.PrintWords Go.Proofs.YtaiekjimdjlgbaaW.PrintLast Go.Proofs.YtaiekjimdjlgbaaW.PrintMore
attribute [local go_sem] max2_int min2_int max_two min_two max_three min_three max_four min_four   -- for this text's walks alone
set_option linter.unusedVariables false
set_option linter.unusedSimpArgs false
def contangoref31_Check.f (k : Nat) (a0_0 : ByteArray) (a0_1 : Int) (a0_2 : Int) (a0_3 : Int) (a0_4 : Int) (a0_5 : Int) : Option (Int) := (contangoref03_Name.f k a0_0).bind fun t124 => (if t124 = true then ((contangoref31_within.f a0_1 1 3).bind fun t125 => (if t125 = true then ((contangoref31_within.f a0_2 0 7).bind fun t126 => (if t126 = true then ((contangoref31_within.f a0_3 1 68719476736).bind fun t127 => (if t127 = true then (if a0_1 = 1 then (if a0_3 = 1 then ((contangoref31_within.f a0_4 0 1000).bind fun t128 => (if t128 = true then ((contangoref31_within.f a0_5 0 1000).bind fun t129 => (if t129 = true then (some 0) else (some 2))) else (some 2))) else (some 2)) else ((contangoref31_within.f a0_4 0 1000).bind fun t130 => (if t130 = true then ((contangoref31_within.f a0_5 0 1000).bind fun t131 => (if t131 = true then (some 0) else (some 2))) else (some 2)))) else (some 2))) else (some 25))) else (some 2))) else (some 10))
theorem contangoref31_Check.mono : ∀ a0 a1 a2 a3 a4 a5 k, LeO (contangoref31_Check.f k a0 a1 a2 a3 a4 a5) (contangoref31_Check.f (k + 1) a0 a1 a2 a3 a4 a5) := by
  intro a0 a1 a2 a3 a4 a5 k
  unfold contangoref31_Check.f
  repeat' first
      | (with_reducible exact contangoref03_Name.mono _ _)
      | (with_reducible exact LeO.refl _)
      | (with_reducible exact LeO.none _)
      | (with_reducible refine LeO.ite ?_ ?_)
      | (with_reducible refine LeO.bind ?_ (fun _ => ?_))
      | exact contangoref03_Name.mono _ _
      | exact LeO.none _
      | refine LeO.ite ?_ ?_
      | refine LeO.bind ?_ (fun _ => ?_)
set_option maxHeartbeats 8000000 in
set_option maxRecDepth 100000 in
theorem contangoref31_Check.calls (k : Nat) (a0_0 : ByteArray) (a0_1 : Int) (a0_2 : Int) (a0_3 : Int) (a0_4 : Int) (a0_5 : Int) (r : Int) (w : World) (h : contangoref31_Check.f k a0_0 a0_1 a0_2 a0_3 a0_4 a0_5 = some r) :
    Calls Try.prog 26 #[.agg #[.string a0_0, .int .i64 a0_1, .int .i64 a0_2, .int .i64 a0_3, .int .i64 a0_4, .int .i64 a0_5]] w fun e w' => e = .returned (.int .i64 r) ∧ Below w.heap.size w w' := by
  have hu23 := Try.underlying23
  have HB := Aside0.mk (Below.refl w.heap.size w)
  have H : ((contangoref03_Name.f k a0_0).bind fun t124 => (if t124 = true then ((contangoref31_within.f a0_1 1 3).bind fun t125 => (if t125 = true then ((contangoref31_within.f a0_2 0 7).bind fun t126 => (if t126 = true then ((contangoref31_within.f a0_3 1 68719476736).bind fun t127 => (if t127 = true then (if a0_1 = 1 then (if a0_3 = 1 then ((contangoref31_within.f a0_4 0 1000).bind fun t128 => (if t128 = true then ((contangoref31_within.f a0_5 0 1000).bind fun t129 => (if t129 = true then (some 0) else (some 2))) else (some 2))) else (some 2)) else ((contangoref31_within.f a0_4 0 1000).bind fun t130 => (if t130 = true then ((contangoref31_within.f a0_5 0 1000).bind fun t131 => (if t131 = true then (some 0) else (some 2))) else (some 2)))) else (some 2))) else (some 25))) else (some 2))) else (some 10))) = some r := h
  clear h
  replace H := Option.bind_eq_some_iff.mp H
  obtain ⟨t124, A20, H⟩ := H
  replace H : (if t124 = true then ((contangoref31_within.f a0_1 1 3).bind fun t125 => (if t125 = true then ((contangoref31_within.f a0_2 0 7).bind fun t126 => (if t126 = true then ((contangoref31_within.f a0_3 1 68719476736).bind fun t127 => (if t127 = true then (if a0_1 = 1 then (if a0_3 = 1 then ((contangoref31_within.f a0_4 0 1000).bind fun t128 => (if t128 = true then ((contangoref31_within.f a0_5 0 1000).bind fun t129 => (if t129 = true then (some 0) else (some 2))) else (some 2))) else (some 2)) else ((contangoref31_within.f a0_4 0 1000).bind fun t130 => (if t130 = true then ((contangoref31_within.f a0_5 0 1000).bind fun t131 => (if t131 = true then (some 0) else (some 2))) else (some 2)))) else (some 2))) else (some 25))) else (some 2))) else (some 10)) = some r := H
  have A2 := Aside0.mk A20
  clear A20
  go_enter Try.func26, Try.ntmps26
  go_upto_if 3 with (first | ((with_reducible refine gate_dst (N := 1) rfl ?_); refine box_event ?hg (N := 1) ?hd (cs := #[.string a0_0, .int .i64 a0_1, .int .i64 a0_2, .int .i64 a0_3, .int .i64 a0_4, .int .i64 a0_5]) (t := 23) ?hr ?_; (case hd => rfl); (case hg => rfl); (case hr => first | (go_simp; done) | (go_simp; rfl)); intro gb123 hg w3 hbox hb; have n0_ := Aside0.mk (below_step (by repeat (first | (with_reducible first | exact HB.out | apply below_alloc | apply pw_below_drewN | apply below_drew1) | exact HB.out)) hb); have n1_ := Aside0.mk (hbox); have n2_ := Aside0.mk ((by rw [hg]; exact (below_size (by repeat (first | (with_reducible first | exact HB.out | apply below_alloc | apply pw_below_drewN | apply below_drew1) | exact HB.out))) : w.heap.size ≤ gb123)); have n3_ := Aside0.mk ((by rw [hg]; exact (below_size (by repeat (first | (with_reducible first | exact HB.out | apply below_alloc | apply pw_below_drewN | apply below_drew1) | exact HB.out))) : w.heap.size ≤ gb123)); clear HB; have HB := n0_; have BK123 := n1_; have GW123 := n2_; have GE123 := n3_; clear n0_ n1_ n2_ n3_; clear hb hbox hg; have hcz4_0 : w3.cell? ⟨gb123, 0, none⟩ = some (.string a0_0) := (blk_cell BK123.out 0).trans rfl; have hcz4_1 : w3.cell? ⟨gb123, 1, none⟩ = some (.int .i64 a0_1) := (blk_cell BK123.out 1).trans rfl; have hcz4_2 : w3.cell? ⟨gb123, 2, none⟩ = some (.int .i64 a0_2) := (blk_cell BK123.out 2).trans rfl; have hcz4_3 : w3.cell? ⟨gb123, 3, none⟩ = some (.int .i64 a0_3) := (blk_cell BK123.out 3).trans rfl; have hcz4_4 : w3.cell? ⟨gb123, 4, none⟩ = some (.int .i64 a0_4) := (blk_cell BK123.out 4).trans rfl; have hcz4_5 : w3.cell? ⟨gb123, 5, none⟩ = some (.int .i64 a0_5) := (blk_cell BK123.out 5).trans rfl; have hfz4_0 := blk_frozen BK123.out 0; have hfz4_1 := blk_frozen BK123.out 1; have hfz4_2 := blk_frozen BK123.out 2; have hfz4_3 := blk_frozen BK123.out 3; have hfz4_4 := blk_frozen BK123.out 4; have hfz4_5 := blk_frozen BK123.out 5) | ((with_reducible refine gate_callee (f := 60) rfl ?_); refine goesL_ (some 6) rfl rfl Try.func60 (by kernel_rfl) rfl #[.string a0_0] rfl (by (try simp only [List.map_toArray, List.map_cons, List.map_nil]); first | done | rfl | (simp only [List.length_drop, List.length_take]; rfl)) ?_; (with_reducible refine (contangoref03_Name.calls k a0_0 t124 _ A2.out).mono ?_); rintro e w' ⟨rfl, ⟨nd, rfl⟩⟩; refine ⟨_, rfl, ?_⟩))
  (try simp only [Act.put, List.setIfInBounds_toArray, List.set_cons_zero, List.set_cons_succ])
  by_cases c5 : t124 = true
  · subst c5
    have H1 : ((contangoref31_within.f a0_1 1 3).bind fun t125 => (if t125 = true then ((contangoref31_within.f a0_2 0 7).bind fun t126 => (if t126 = true then ((contangoref31_within.f a0_3 1 68719476736).bind fun t127 => (if t127 = true then (if a0_1 = 1 then (if a0_3 = 1 then ((contangoref31_within.f a0_4 0 1000).bind fun t128 => (if t128 = true then ((contangoref31_within.f a0_5 0 1000).bind fun t129 => (if t129 = true then (some 0) else (some 2))) else (some 2))) else (some 2)) else ((contangoref31_within.f a0_4 0 1000).bind fun t130 => (if t130 = true then ((contangoref31_within.f a0_5 0 1000).bind fun t131 => (if t131 = true then (some 0) else (some 2))) else (some 2)))) else (some 2))) else (some 25))) else (some 2))) = some r := by rw [if_pos rfl] at H; exact H
    clear H
    have H := H1
    clear H1
    replace H := Option.bind_eq_some_iff.mp H
    obtain ⟨t125, A60, H⟩ := H
    replace H : (if t125 = true then ((contangoref31_within.f a0_2 0 7).bind fun t126 => (if t126 = true then ((contangoref31_within.f a0_3 1 68719476736).bind fun t127 => (if t127 = true then (if a0_1 = 1 then (if a0_3 = 1 then ((contangoref31_within.f a0_4 0 1000).bind fun t128 => (if t128 = true then ((contangoref31_within.f a0_5 0 1000).bind fun t129 => (if t129 = true then (some 0) else (some 2))) else (some 2))) else (some 2)) else ((contangoref31_within.f a0_4 0 1000).bind fun t130 => (if t130 = true then ((contangoref31_within.f a0_5 0 1000).bind fun t131 => (if t131 = true then (some 0) else (some 2))) else (some 2)))) else (some 2))) else (some 25))) else (some 2)) = some r := H
    have A6 := Aside0.mk A60
    clear A60
    have hcz7_0 : w3.cell? ⟨gb123, 0, none⟩ = some (.string a0_0) := (blk_cell BK123.out 0).trans rfl
    have hcz7_1 : w3.cell? ⟨gb123, 1, none⟩ = some (.int .i64 a0_1) := (blk_cell BK123.out 1).trans rfl
    have hcz7_2 : w3.cell? ⟨gb123, 2, none⟩ = some (.int .i64 a0_2) := (blk_cell BK123.out 2).trans rfl
    have hcz7_3 : w3.cell? ⟨gb123, 3, none⟩ = some (.int .i64 a0_3) := (blk_cell BK123.out 3).trans rfl
    have hcz7_4 : w3.cell? ⟨gb123, 4, none⟩ = some (.int .i64 a0_4) := (blk_cell BK123.out 4).trans rfl
    have hcz7_5 : w3.cell? ⟨gb123, 5, none⟩ = some (.int .i64 a0_5) := (blk_cell BK123.out 5).trans rfl
    have hfz7_0 := blk_frozen BK123.out 0
    have hfz7_1 := blk_frozen BK123.out 1
    have hfz7_2 := blk_frozen BK123.out 2
    have hfz7_3 := blk_frozen BK123.out 3
    have hfz7_4 := blk_frozen BK123.out 4
    have hfz7_5 := blk_frozen BK123.out 5
    go_upto_if 8 with (first | ((with_reducible refine gate_callee (f := 52) rfl ?_); refine goesL_ (some 11) rfl rfl Try.func52 (by kernel_rfl) rfl #[.int .i64 a0_1, .int .i64 1, .int .i64 3] rfl (by (try simp only [List.map_toArray, List.map_cons, List.map_nil]); first | done | rfl | (simp only [List.length_drop, List.length_take]; rfl)) ?_; (with_reducible refine (contangoref31_within.calls a0_1 1 3 t125 _ A6.out).mono ?_); rintro e w' ⟨rfl, ⟨nd, rfl⟩⟩; refine ⟨_, rfl, ?_⟩))
    (try simp only [Act.put, List.setIfInBounds_toArray, List.set_cons_zero, List.set_cons_succ])
    by_cases c8 : t125 = true
    · subst c8
      have H1 : ((contangoref31_within.f a0_2 0 7).bind fun t126 => (if t126 = true then ((contangoref31_within.f a0_3 1 68719476736).bind fun t127 => (if t127 = true then (if a0_1 = 1 then (if a0_3 = 1 then ((contangoref31_within.f a0_4 0 1000).bind fun t128 => (if t128 = true then ((contangoref31_within.f a0_5 0 1000).bind fun t129 => (if t129 = true then (some 0) else (some 2))) else (some 2))) else (some 2)) else ((contangoref31_within.f a0_4 0 1000).bind fun t130 => (if t130 = true then ((contangoref31_within.f a0_5 0 1000).bind fun t131 => (if t131 = true then (some 0) else (some 2))) else (some 2)))) else (some 2))) else (some 25))) = some r := by rw [if_pos rfl] at H; exact H
      clear H
      have H := H1
      clear H1
      replace H := Option.bind_eq_some_iff.mp H
      obtain ⟨t126, A90, H⟩ := H
      replace H : (if t126 = true then ((contangoref31_within.f a0_3 1 68719476736).bind fun t127 => (if t127 = true then (if a0_1 = 1 then (if a0_3 = 1 then ((contangoref31_within.f a0_4 0 1000).bind fun t128 => (if t128 = true then ((contangoref31_within.f a0_5 0 1000).bind fun t129 => (if t129 = true then (some 0) else (some 2))) else (some 2))) else (some 2)) else ((contangoref31_within.f a0_4 0 1000).bind fun t130 => (if t130 = true then ((contangoref31_within.f a0_5 0 1000).bind fun t131 => (if t131 = true then (some 0) else (some 2))) else (some 2)))) else (some 2))) else (some 25)) = some r := H
      have A9 := Aside0.mk A90
      clear A90
      have hcz10_0 : w3.cell? ⟨gb123, 0, none⟩ = some (.string a0_0) := (blk_cell BK123.out 0).trans rfl
      have hcz10_1 : w3.cell? ⟨gb123, 1, none⟩ = some (.int .i64 a0_1) := (blk_cell BK123.out 1).trans rfl
      have hcz10_2 : w3.cell? ⟨gb123, 2, none⟩ = some (.int .i64 a0_2) := (blk_cell BK123.out 2).trans rfl
      have hcz10_3 : w3.cell? ⟨gb123, 3, none⟩ = some (.int .i64 a0_3) := (blk_cell BK123.out 3).trans rfl
      have hcz10_4 : w3.cell? ⟨gb123, 4, none⟩ = some (.int .i64 a0_4) := (blk_cell BK123.out 4).trans rfl
      have hcz10_5 : w3.cell? ⟨gb123, 5, none⟩ = some (.int .i64 a0_5) := (blk_cell BK123.out 5).trans rfl
      have hfz10_0 := blk_frozen BK123.out 0
      have hfz10_1 := blk_frozen BK123.out 1
      have hfz10_2 := blk_frozen BK123.out 2
      have hfz10_3 := blk_frozen BK123.out 3
      have hfz10_4 := blk_frozen BK123.out 4
      have hfz10_5 := blk_frozen BK123.out 5
      go_upto_if 13 with (first | ((with_reducible refine gate_callee (f := 52) rfl ?_); refine goesL_ (some 16) rfl rfl Try.func52 (by kernel_rfl) rfl #[.int .i64 a0_2, .int .i64 0, .int .i64 7] rfl (by (try simp only [List.map_toArray, List.map_cons, List.map_nil]); first | done | rfl | (simp only [List.length_drop, List.length_take]; rfl)) ?_; (with_reducible refine (contangoref31_within.calls a0_2 0 7 t126 _ A9.out).mono ?_); rintro e w' ⟨rfl, ⟨nd, rfl⟩⟩; refine ⟨_, rfl, ?_⟩))
      (try simp only [Act.put, List.setIfInBounds_toArray, List.set_cons_zero, List.set_cons_succ])
      by_cases c11 : t126 = true
      · subst c11
        have H1 : ((contangoref31_within.f a0_3 1 68719476736).bind fun t127 => (if t127 = true then (if a0_1 = 1 then (if a0_3 = 1 then ((contangoref31_within.f a0_4 0 1000).bind fun t128 => (if t128 = true then ((contangoref31_within.f a0_5 0 1000).bind fun t129 => (if t129 = true then (some 0) else (some 2))) else (some 2))) else (some 2)) else ((contangoref31_within.f a0_4 0 1000).bind fun t130 => (if t130 = true then ((contangoref31_within.f a0_5 0 1000).bind fun t131 => (if t131 = true then (some 0) else (some 2))) else (some 2)))) else (some 2))) = some r := by rw [if_pos rfl] at H; exact H
        clear H
        have H := H1
        clear H1
        replace H := Option.bind_eq_some_iff.mp H
        obtain ⟨t127, A120, H⟩ := H
        replace H : (if t127 = true then (if a0_1 = 1 then (if a0_3 = 1 then ((contangoref31_within.f a0_4 0 1000).bind fun t128 => (if t128 = true then ((contangoref31_within.f a0_5 0 1000).bind fun t129 => (if t129 = true then (some 0) else (some 2))) else (some 2))) else (some 2)) else ((contangoref31_within.f a0_4 0 1000).bind fun t130 => (if t130 = true then ((contangoref31_within.f a0_5 0 1000).bind fun t131 => (if t131 = true then (some 0) else (some 2))) else (some 2)))) else (some 2)) = some r := H
        have A12 := Aside0.mk A120
        clear A120
        by_cases c13 : t127 = true
        · subst c13
          have H1 : (if a0_1 = 1 then (if a0_3 = 1 then ((contangoref31_within.f a0_4 0 1000).bind fun t128 => (if t128 = true then ((contangoref31_within.f a0_5 0 1000).bind fun t129 => (if t129 = true then (some 0) else (some 2))) else (some 2))) else (some 2)) else ((contangoref31_within.f a0_4 0 1000).bind fun t130 => (if t130 = true then ((contangoref31_within.f a0_5 0 1000).bind fun t131 => (if t131 = true then (some 0) else (some 2))) else (some 2)))) = some r := by rw [if_pos rfl] at H; exact H
          clear H
          have H := H1
          clear H1
          by_cases c14 : a0_1 = 1
          · rw [if_pos c14] at H
            have c14b0 : (a0_1 == 1) = true := beq_iff_eq.mpr c14
            have c14b1 : (a0_1 != 1) = false := bne_eq_false_iff_eq.mpr c14
            clear c14
            by_cases c15 : a0_3 = 1
            · rw [if_pos c15] at H
              have c15b0 : (a0_3 == 1) = true := beq_iff_eq.mpr c15
              have c15b1 : (a0_3 != 1) = false := bne_eq_false_iff_eq.mpr c15
              clear c15
              replace H := Option.bind_eq_some_iff.mp H
              obtain ⟨t128, A160, H⟩ := H
              replace H : (if t128 = true then ((contangoref31_within.f a0_5 0 1000).bind fun t129 => (if t129 = true then (some 0) else (some 2))) else (some 2)) = some r := H
              have A16 := Aside0.mk A160
              clear A160
              by_cases c17 : t128 = true
              · subst c17
                have H1 : ((contangoref31_within.f a0_5 0 1000).bind fun t129 => (if t129 = true then (some 0) else (some 2))) = some r := by rw [if_pos rfl] at H; exact H
                clear H
                have H := H1
                clear H1
                replace H := Option.bind_eq_some_iff.mp H
                obtain ⟨t129, A180, H⟩ := H
                replace H : (if t129 = true then (some 0) else (some 2)) = some r := H
                have A18 := Aside0.mk A180
                clear A180
                have hcz19_0 : w3.cell? ⟨gb123, 0, none⟩ = some (.string a0_0) := (blk_cell BK123.out 0).trans rfl
                have hcz19_1 : w3.cell? ⟨gb123, 1, none⟩ = some (.int .i64 a0_1) := (blk_cell BK123.out 1).trans rfl
                have hcz19_2 : w3.cell? ⟨gb123, 2, none⟩ = some (.int .i64 a0_2) := (blk_cell BK123.out 2).trans rfl
                have hcz19_3 : w3.cell? ⟨gb123, 3, none⟩ = some (.int .i64 a0_3) := (blk_cell BK123.out 3).trans rfl
                have hcz19_4 : w3.cell? ⟨gb123, 4, none⟩ = some (.int .i64 a0_4) := (blk_cell BK123.out 4).trans rfl
                have hcz19_5 : w3.cell? ⟨gb123, 5, none⟩ = some (.int .i64 a0_5) := (blk_cell BK123.out 5).trans rfl
                have hfz19_0 := blk_frozen BK123.out 0
                have hfz19_1 := blk_frozen BK123.out 1
                have hfz19_2 := blk_frozen BK123.out 2
                have hfz19_3 := blk_frozen BK123.out 3
                have hfz19_4 := blk_frozen BK123.out 4
                have hfz19_5 := blk_frozen BK123.out 5
                go_upto_if 18 with (first | ((with_reducible refine gate_callee (f := 52) rfl ?_); refine goesL_ (some 21) rfl rfl Try.func52 (by kernel_rfl) rfl #[.int .i64 a0_3, .int .i64 1, .int .i64 68719476736] rfl (by (try simp only [List.map_toArray, List.map_cons, List.map_nil]); first | done | rfl | (simp only [List.length_drop, List.length_take]; rfl)) ?_; (with_reducible refine (contangoref31_within.calls a0_3 1 68719476736 true _ A12.out).mono ?_); rintro e w' ⟨rfl, ⟨nd, rfl⟩⟩; refine ⟨_, rfl, ?_⟩) | (go_at_call 52; (with_reducible refine (contangoref31_within.calls a0_4 0 1000 true _ A16.out).mono ?_); rintro e w' ⟨rfl, ⟨nd, rfl⟩⟩) | (go_at_call 52; (with_reducible refine (contangoref31_within.calls a0_5 0 1000 t129 _ A18.out).mono ?_); rintro e w' ⟨rfl, ⟨nd, rfl⟩⟩))
                (try simp only [Act.put, List.setIfInBounds_toArray, List.set_cons_zero, List.set_cons_succ])
                by_cases c20 : t129 = true
                · subst c20
                  have H1 : (some 0) = some r := by rw [if_pos rfl] at H; exact H
                  clear H
                  have H := H1
                  clear H1
                  obtain rfl := Option.some.inj H
                  go_wp2
                  go_ret
                  exact ⟨by first | rfl | (simp [errW_none, errW_some] <;> rfl) | (simp [*, errW_none, errW_some] <;> rfl), by repeat (first | (with_reducible first | exact HB.out | apply below_alloc | apply pw_below_drewN | apply below_drew1 | refine below_set ?_ GE123.out) | exact HB.out)⟩
                · replace c20 := Bool.eq_false_iff.mpr c20
                  subst c20
                  have H1 : (some 2) = some r := by rw [if_neg (show ¬ (false = true) by decide)] at H; exact H
                  clear H
                  have H := H1
                  clear H1
                  obtain rfl := Option.some.inj H
                  go_wp2
                  go_ret
                  exact ⟨by first | rfl | (simp [errW_none, errW_some] <;> rfl) | (simp [*, errW_none, errW_some] <;> rfl), by repeat (first | (with_reducible first | exact HB.out | apply below_alloc | apply pw_below_drewN | apply below_drew1 | refine below_set ?_ GE123.out) | exact HB.out)⟩
              · replace c17 := Bool.eq_false_iff.mpr c17
                subst c17
                have H1 : (some 2) = some r := by rw [if_neg (show ¬ (false = true) by decide)] at H; exact H
                clear H
                have H := H1
                clear H1
                obtain rfl := Option.some.inj H
                have hcz21_0 : w3.cell? ⟨gb123, 0, none⟩ = some (.string a0_0) := (blk_cell BK123.out 0).trans rfl
                have hcz21_1 : w3.cell? ⟨gb123, 1, none⟩ = some (.int .i64 a0_1) := (blk_cell BK123.out 1).trans rfl
                have hcz21_2 : w3.cell? ⟨gb123, 2, none⟩ = some (.int .i64 a0_2) := (blk_cell BK123.out 2).trans rfl
                have hcz21_3 : w3.cell? ⟨gb123, 3, none⟩ = some (.int .i64 a0_3) := (blk_cell BK123.out 3).trans rfl
                have hcz21_4 : w3.cell? ⟨gb123, 4, none⟩ = some (.int .i64 a0_4) := (blk_cell BK123.out 4).trans rfl
                have hcz21_5 : w3.cell? ⟨gb123, 5, none⟩ = some (.int .i64 a0_5) := (blk_cell BK123.out 5).trans rfl
                have hfz21_0 := blk_frozen BK123.out 0
                have hfz21_1 := blk_frozen BK123.out 1
                have hfz21_2 := blk_frozen BK123.out 2
                have hfz21_3 := blk_frozen BK123.out 3
                have hfz21_4 := blk_frozen BK123.out 4
                have hfz21_5 := blk_frozen BK123.out 5
                go_wp2_with (first | ((with_reducible refine gate_callee (f := 52) rfl ?_); refine goesL_ (some 21) rfl rfl Try.func52 (by kernel_rfl) rfl #[.int .i64 a0_3, .int .i64 1, .int .i64 68719476736] rfl (by (try simp only [List.map_toArray, List.map_cons, List.map_nil]); first | done | rfl | (simp only [List.length_drop, List.length_take]; rfl)) ?_; (with_reducible refine (contangoref31_within.calls a0_3 1 68719476736 true _ A12.out).mono ?_); rintro e w' ⟨rfl, ⟨nd, rfl⟩⟩; refine ⟨_, rfl, ?_⟩) | (go_at_call 52; (with_reducible refine (contangoref31_within.calls a0_4 0 1000 false _ A16.out).mono ?_); rintro e w' ⟨rfl, ⟨nd, rfl⟩⟩))
                go_ret
                exact ⟨by first | rfl | (simp [errW_none, errW_some] <;> rfl) | (simp [*, errW_none, errW_some] <;> rfl), by repeat (first | (with_reducible first | exact HB.out | apply below_alloc | apply pw_below_drewN | apply below_drew1 | refine below_set ?_ GE123.out) | exact HB.out)⟩
            · rw [if_neg c15] at H
              have c15b0 : (a0_3 == 1) = false := beq_eq_false_iff_ne.mpr c15
              have c15b1 : (a0_3 != 1) = true := bne_iff_ne.mpr c15
              obtain rfl := Option.some.inj H
              have hcz22_0 : w3.cell? ⟨gb123, 0, none⟩ = some (.string a0_0) := (blk_cell BK123.out 0).trans rfl
              have hcz22_1 : w3.cell? ⟨gb123, 1, none⟩ = some (.int .i64 a0_1) := (blk_cell BK123.out 1).trans rfl
              have hcz22_2 : w3.cell? ⟨gb123, 2, none⟩ = some (.int .i64 a0_2) := (blk_cell BK123.out 2).trans rfl
              have hcz22_3 : w3.cell? ⟨gb123, 3, none⟩ = some (.int .i64 a0_3) := (blk_cell BK123.out 3).trans rfl
              have hcz22_4 : w3.cell? ⟨gb123, 4, none⟩ = some (.int .i64 a0_4) := (blk_cell BK123.out 4).trans rfl
              have hcz22_5 : w3.cell? ⟨gb123, 5, none⟩ = some (.int .i64 a0_5) := (blk_cell BK123.out 5).trans rfl
              have hfz22_0 := blk_frozen BK123.out 0
              have hfz22_1 := blk_frozen BK123.out 1
              have hfz22_2 := blk_frozen BK123.out 2
              have hfz22_3 := blk_frozen BK123.out 3
              have hfz22_4 := blk_frozen BK123.out 4
              have hfz22_5 := blk_frozen BK123.out 5
              go_wp2_with (first | ((with_reducible refine gate_callee (f := 52) rfl ?_); refine goesL_ (some 21) rfl rfl Try.func52 (by kernel_rfl) rfl #[.int .i64 a0_3, .int .i64 1, .int .i64 68719476736] rfl (by (try simp only [List.map_toArray, List.map_cons, List.map_nil]); first | done | rfl | (simp only [List.length_drop, List.length_take]; rfl)) ?_; (with_reducible refine (contangoref31_within.calls a0_3 1 68719476736 true _ A12.out).mono ?_); rintro e w' ⟨rfl, ⟨nd, rfl⟩⟩; refine ⟨_, rfl, ?_⟩))
              go_ret
              exact ⟨by first | rfl | (simp [errW_none, errW_some] <;> rfl) | (simp [*, errW_none, errW_some] <;> rfl), by repeat (first | (with_reducible first | exact HB.out | apply below_alloc | apply pw_below_drewN | apply below_drew1 | refine below_set ?_ GE123.out) | exact HB.out)⟩
          · rw [if_neg c14] at H
            have c14b0 : (a0_1 == 1) = false := beq_eq_false_iff_ne.mpr c14
            have c14b1 : (a0_1 != 1) = true := bne_iff_ne.mpr c14
            replace H := Option.bind_eq_some_iff.mp H
            obtain ⟨t130, A230, H⟩ := H
            replace H : (if t130 = true then ((contangoref31_within.f a0_5 0 1000).bind fun t131 => (if t131 = true then (some 0) else (some 2))) else (some 2)) = some r := H
            have A23 := Aside0.mk A230
            clear A230
            by_cases c24 : t130 = true
            · subst c24
              have H1 : ((contangoref31_within.f a0_5 0 1000).bind fun t131 => (if t131 = true then (some 0) else (some 2))) = some r := by rw [if_pos rfl] at H; exact H
              clear H
              have H := H1
              clear H1
              replace H := Option.bind_eq_some_iff.mp H
              obtain ⟨t131, A250, H⟩ := H
              replace H : (if t131 = true then (some 0) else (some 2)) = some r := H
              have A25 := Aside0.mk A250
              clear A250
              have hcz26_0 : w3.cell? ⟨gb123, 0, none⟩ = some (.string a0_0) := (blk_cell BK123.out 0).trans rfl
              have hcz26_1 : w3.cell? ⟨gb123, 1, none⟩ = some (.int .i64 a0_1) := (blk_cell BK123.out 1).trans rfl
              have hcz26_2 : w3.cell? ⟨gb123, 2, none⟩ = some (.int .i64 a0_2) := (blk_cell BK123.out 2).trans rfl
              have hcz26_3 : w3.cell? ⟨gb123, 3, none⟩ = some (.int .i64 a0_3) := (blk_cell BK123.out 3).trans rfl
              have hcz26_4 : w3.cell? ⟨gb123, 4, none⟩ = some (.int .i64 a0_4) := (blk_cell BK123.out 4).trans rfl
              have hcz26_5 : w3.cell? ⟨gb123, 5, none⟩ = some (.int .i64 a0_5) := (blk_cell BK123.out 5).trans rfl
              have hfz26_0 := blk_frozen BK123.out 0
              have hfz26_1 := blk_frozen BK123.out 1
              have hfz26_2 := blk_frozen BK123.out 2
              have hfz26_3 := blk_frozen BK123.out 3
              have hfz26_4 := blk_frozen BK123.out 4
              have hfz26_5 := blk_frozen BK123.out 5
              go_upto_if 18 with (first | ((with_reducible refine gate_callee (f := 52) rfl ?_); refine goesL_ (some 21) rfl rfl Try.func52 (by kernel_rfl) rfl #[.int .i64 a0_3, .int .i64 1, .int .i64 68719476736] rfl (by (try simp only [List.map_toArray, List.map_cons, List.map_nil]); first | done | rfl | (simp only [List.length_drop, List.length_take]; rfl)) ?_; (with_reducible refine (contangoref31_within.calls a0_3 1 68719476736 true _ A12.out).mono ?_); rintro e w' ⟨rfl, ⟨nd, rfl⟩⟩; refine ⟨_, rfl, ?_⟩) | (go_at_call 52; (with_reducible refine (contangoref31_within.calls a0_4 0 1000 true _ A23.out).mono ?_); rintro e w' ⟨rfl, ⟨nd, rfl⟩⟩) | (go_at_call 52; (with_reducible refine (contangoref31_within.calls a0_5 0 1000 t131 _ A25.out).mono ?_); rintro e w' ⟨rfl, ⟨nd, rfl⟩⟩))
              (try simp only [Act.put, List.setIfInBounds_toArray, List.set_cons_zero, List.set_cons_succ])
              by_cases c27 : t131 = true
              · subst c27
                have H1 : (some 0) = some r := by rw [if_pos rfl] at H; exact H
                clear H
                have H := H1
                clear H1
                obtain rfl := Option.some.inj H
                go_wp2
                go_ret
                exact ⟨by first | rfl | (simp [errW_none, errW_some] <;> rfl) | (simp [*, errW_none, errW_some] <;> rfl), by repeat (first | (with_reducible first | exact HB.out | apply below_alloc | apply pw_below_drewN | apply below_drew1 | refine below_set ?_ GE123.out) | exact HB.out)⟩
              · replace c27 := Bool.eq_false_iff.mpr c27
                subst c27
                have H1 : (some 2) = some r := by rw [if_neg (show ¬ (false = true) by decide)] at H; exact H
                clear H
                have H := H1
                clear H1
                obtain rfl := Option.some.inj H
                go_wp2
                go_ret
                exact ⟨by first | rfl | (simp [errW_none, errW_some] <;> rfl) | (simp [*, errW_none, errW_some] <;> rfl), by repeat (first | (with_reducible first | exact HB.out | apply below_alloc | apply pw_below_drewN | apply below_drew1 | refine below_set ?_ GE123.out) | exact HB.out)⟩
            · replace c24 := Bool.eq_false_iff.mpr c24
              subst c24
              have H1 : (some 2) = some r := by rw [if_neg (show ¬ (false = true) by decide)] at H; exact H
              clear H
              have H := H1
              clear H1
              obtain rfl := Option.some.inj H
              have hcz28_0 : w3.cell? ⟨gb123, 0, none⟩ = some (.string a0_0) := (blk_cell BK123.out 0).trans rfl
              have hcz28_1 : w3.cell? ⟨gb123, 1, none⟩ = some (.int .i64 a0_1) := (blk_cell BK123.out 1).trans rfl
              have hcz28_2 : w3.cell? ⟨gb123, 2, none⟩ = some (.int .i64 a0_2) := (blk_cell BK123.out 2).trans rfl
              have hcz28_3 : w3.cell? ⟨gb123, 3, none⟩ = some (.int .i64 a0_3) := (blk_cell BK123.out 3).trans rfl
              have hcz28_4 : w3.cell? ⟨gb123, 4, none⟩ = some (.int .i64 a0_4) := (blk_cell BK123.out 4).trans rfl
              have hcz28_5 : w3.cell? ⟨gb123, 5, none⟩ = some (.int .i64 a0_5) := (blk_cell BK123.out 5).trans rfl
              have hfz28_0 := blk_frozen BK123.out 0
              have hfz28_1 := blk_frozen BK123.out 1
              have hfz28_2 := blk_frozen BK123.out 2
              have hfz28_3 := blk_frozen BK123.out 3
              have hfz28_4 := blk_frozen BK123.out 4
              have hfz28_5 := blk_frozen BK123.out 5
              go_wp2_with (first | ((with_reducible refine gate_callee (f := 52) rfl ?_); refine goesL_ (some 21) rfl rfl Try.func52 (by kernel_rfl) rfl #[.int .i64 a0_3, .int .i64 1, .int .i64 68719476736] rfl (by (try simp only [List.map_toArray, List.map_cons, List.map_nil]); first | done | rfl | (simp only [List.length_drop, List.length_take]; rfl)) ?_; (with_reducible refine (contangoref31_within.calls a0_3 1 68719476736 true _ A12.out).mono ?_); rintro e w' ⟨rfl, ⟨nd, rfl⟩⟩; refine ⟨_, rfl, ?_⟩) | (go_at_call 52; (with_reducible refine (contangoref31_within.calls a0_4 0 1000 false _ A23.out).mono ?_); rintro e w' ⟨rfl, ⟨nd, rfl⟩⟩))
              go_ret
              exact ⟨by first | rfl | (simp [errW_none, errW_some] <;> rfl) | (simp [*, errW_none, errW_some] <;> rfl), by repeat (first | (with_reducible first | exact HB.out | apply below_alloc | apply pw_below_drewN | apply below_drew1 | refine below_set ?_ GE123.out) | exact HB.out)⟩
        · replace c13 := Bool.eq_false_iff.mpr c13
          subst c13
          have H1 : (some 2) = some r := by rw [if_neg (show ¬ (false = true) by decide)] at H; exact H
          clear H
          have H := H1
          clear H1
          obtain rfl := Option.some.inj H
          have hcz29_0 : w3.cell? ⟨gb123, 0, none⟩ = some (.string a0_0) := (blk_cell BK123.out 0).trans rfl
          have hcz29_1 : w3.cell? ⟨gb123, 1, none⟩ = some (.int .i64 a0_1) := (blk_cell BK123.out 1).trans rfl
          have hcz29_2 : w3.cell? ⟨gb123, 2, none⟩ = some (.int .i64 a0_2) := (blk_cell BK123.out 2).trans rfl
          have hcz29_3 : w3.cell? ⟨gb123, 3, none⟩ = some (.int .i64 a0_3) := (blk_cell BK123.out 3).trans rfl
          have hcz29_4 : w3.cell? ⟨gb123, 4, none⟩ = some (.int .i64 a0_4) := (blk_cell BK123.out 4).trans rfl
          have hcz29_5 : w3.cell? ⟨gb123, 5, none⟩ = some (.int .i64 a0_5) := (blk_cell BK123.out 5).trans rfl
          have hfz29_0 := blk_frozen BK123.out 0
          have hfz29_1 := blk_frozen BK123.out 1
          have hfz29_2 := blk_frozen BK123.out 2
          have hfz29_3 := blk_frozen BK123.out 3
          have hfz29_4 := blk_frozen BK123.out 4
          have hfz29_5 := blk_frozen BK123.out 5
          go_wp2_with (first | ((with_reducible refine gate_callee (f := 52) rfl ?_); refine goesL_ (some 21) rfl rfl Try.func52 (by kernel_rfl) rfl #[.int .i64 a0_3, .int .i64 1, .int .i64 68719476736] rfl (by (try simp only [List.map_toArray, List.map_cons, List.map_nil]); first | done | rfl | (simp only [List.length_drop, List.length_take]; rfl)) ?_; (with_reducible refine (contangoref31_within.calls a0_3 1 68719476736 false _ A12.out).mono ?_); rintro e w' ⟨rfl, ⟨nd, rfl⟩⟩; refine ⟨_, rfl, ?_⟩))
          go_ret
          exact ⟨by first | rfl | (simp [errW_none, errW_some] <;> rfl) | (simp [*, errW_none, errW_some] <;> rfl), by repeat (first | (with_reducible first | exact HB.out | apply below_alloc | apply pw_below_drewN | apply below_drew1 | refine below_set ?_ GE123.out) | exact HB.out)⟩
      · replace c11 := Bool.eq_false_iff.mpr c11
        subst c11
        have H1 : (some 25) = some r := by rw [if_neg (show ¬ (false = true) by decide)] at H; exact H
        clear H
        have H := H1
        clear H1
        obtain rfl := Option.some.inj H
        go_wp2
        go_ret
        exact ⟨by first | rfl | (simp [errW_none, errW_some] <;> rfl) | (simp [*, errW_none, errW_some] <;> rfl), by repeat (first | (with_reducible first | exact HB.out | apply below_alloc | apply pw_below_drewN | apply below_drew1 | refine below_set ?_ GE123.out) | exact HB.out)⟩
    · replace c8 := Bool.eq_false_iff.mpr c8
      subst c8
      have H1 : (some 2) = some r := by rw [if_neg (show ¬ (false = true) by decide)] at H; exact H
      clear H
      have H := H1
      clear H1
      obtain rfl := Option.some.inj H
      go_wp2
      go_ret
      exact ⟨by first | rfl | (simp [errW_none, errW_some] <;> rfl) | (simp [*, errW_none, errW_some] <;> rfl), by repeat (first | (with_reducible first | exact HB.out | apply below_alloc | apply pw_below_drewN | apply below_drew1 | refine below_set ?_ GE123.out) | exact HB.out)⟩
  · replace c5 := Bool.eq_false_iff.mpr c5
    subst c5
    have H1 : (some 10) = some r := by rw [if_neg (show ¬ (false = true) by decide)] at H; exact H
    clear H
    have H := H1
    clear H1
    obtain rfl := Option.some.inj H
    go_wp2
    go_ret
    exact ⟨by first | rfl | (simp [errW_none, errW_some] <;> rfl) | (simp [*, errW_none, errW_some] <;> rfl), by repeat (first | (with_reducible first | exact HB.out | apply below_alloc | apply pw_below_drewN | apply below_drew1 | refine below_set ?_ GE123.out) | exact HB.out)⟩
def contangoref31_Value.f (k : Nat) (a0_0 : ByteArray) (a0_1 : Int) (a0_2 : Int) (a0_3 : Int) (a0_4 : Int) (a0_5 : Int) (a1 : Int) : Option (Int × Int) := (contangoref31_Check.f k a0_0 a0_1 a0_2 a0_3 a0_4 a0_5).bind fun t137 => (if t137 = 0 then ((contangoref31_within.f a1 0 1152921504606846976).bind fun t138 => (if t138 = true then ((contangoref01_Mul.f k a1 a0_3).bind fun bt139 => (some (bt139.1, bt139.2))) else (some (0, 18)))) else (some (0, t137)))
theorem contangoref31_Value.mono : ∀ a0 a1 a2 a3 a4 a5 a6 k, LeO (contangoref31_Value.f k a0 a1 a2 a3 a4 a5 a6) (contangoref31_Value.f (k + 1) a0 a1 a2 a3 a4 a5 a6) := by
  intro a0 a1 a2 a3 a4 a5 a6 k
  unfold contangoref31_Value.f
  repeat' first
      | (with_reducible exact contangoref01_Mul.mono _ _ _)
      | (with_reducible exact contangoref31_Check.mono _ _ _ _ _ _ _)
      | (with_reducible exact LeO.refl _)
      | (with_reducible exact LeO.none _)
      | (with_reducible refine LeO.ite ?_ ?_)
      | (with_reducible refine LeO.bind ?_ (fun _ => ?_))
      | exact contangoref01_Mul.mono _ _ _
      | exact contangoref31_Check.mono _ _ _ _ _ _ _
      | exact LeO.none _
      | refine LeO.ite ?_ ?_
      | refine LeO.bind ?_ (fun _ => ?_)
set_option maxHeartbeats 8000000 in
set_option maxRecDepth 100000 in
theorem contangoref31_Value.calls (k : Nat) (a0_0 : ByteArray) (a0_1 : Int) (a0_2 : Int) (a0_3 : Int) (a0_4 : Int) (a0_5 : Int) (a1 : Int) (r1 : Int) (r2 : Int) (w : World) (h : contangoref31_Value.f k a0_0 a0_1 a0_2 a0_3 a0_4 a0_5 a1 = some (r1, r2)) :
    Calls Try.prog 16 #[.agg #[.string a0_0, .int .i64 a0_1, .int .i64 a0_2, .int .i64 a0_3, .int .i64 a0_4, .int .i64 a0_5], .int .i64 a1] w fun e w' => e = .returned (.tuple #[.int .i64 r1, .int .i64 r2]) ∧ Below w.heap.size w w' := by
  have hu23 := Try.underlying23
  have HB := Aside0.mk (Below.refl w.heap.size w)
  have H : ((contangoref31_Check.f k a0_0 a0_1 a0_2 a0_3 a0_4 a0_5).bind fun t137 => (if t137 = 0 then ((contangoref31_within.f a1 0 1152921504606846976).bind fun t138 => (if t138 = true then ((contangoref01_Mul.f k a1 a0_3).bind fun bt139 => (some (bt139.1, bt139.2))) else (some (0, 18)))) else (some (0, t137)))) = some (r1, r2) := h
  clear h
  replace H := Option.bind_eq_some_iff.mp H
  obtain ⟨t137, A30, H⟩ := H
  replace H : (if t137 = 0 then ((contangoref31_within.f a1 0 1152921504606846976).bind fun t138 => (if t138 = true then ((contangoref01_Mul.f k a1 a0_3).bind fun bt139 => (some (bt139.1, bt139.2))) else (some (0, 18)))) else (some (0, t137))) = some (r1, r2) := H
  have A3 := Aside0.mk A30
  clear A30
  go_enter Try.func16, Try.ntmps16
  go_upto_if 10 with (first | ((with_reducible refine gate_dst (N := 2) rfl ?_); refine box_event ?hg (N := 2) ?hd (cs := #[.string a0_0, .int .i64 a0_1, .int .i64 a0_2, .int .i64 a0_3, .int .i64 a0_4, .int .i64 a0_5]) (t := 23) ?hr ?_; (case hd => rfl); (case hg => rfl); (case hr => first | (go_simp; done) | (go_simp; rfl)); intro gb136 hg w4 hbox hb; have n0_ := Aside0.mk (below_step (by repeat (first | (with_reducible first | exact HB.out | apply below_alloc | apply pw_below_drewN | apply below_drew1) | exact HB.out)) hb); have n1_ := Aside0.mk (hbox); have n2_ := Aside0.mk ((by rw [hg]; exact (below_size (by repeat (first | (with_reducible first | exact HB.out | apply below_alloc | apply pw_below_drewN | apply below_drew1) | exact HB.out))) : w.heap.size ≤ gb136)); have n3_ := Aside0.mk ((by rw [hg]; exact (below_size (by repeat (first | (with_reducible first | exact HB.out | apply below_alloc | apply pw_below_drewN | apply below_drew1) | exact HB.out))) : w.heap.size ≤ gb136)); clear HB; have HB := n0_; have BK136 := n1_; have GW136 := n2_; have GE136 := n3_; clear n0_ n1_ n2_ n3_; clear hb hbox hg; have hcz5_0 : w4.cell? ⟨gb136, 0, none⟩ = some (.string a0_0) := (blk_cell BK136.out 0).trans rfl; have hcz5_1 : w4.cell? ⟨gb136, 1, none⟩ = some (.int .i64 a0_1) := (blk_cell BK136.out 1).trans rfl; have hcz5_2 : w4.cell? ⟨gb136, 2, none⟩ = some (.int .i64 a0_2) := (blk_cell BK136.out 2).trans rfl; have hcz5_3 : w4.cell? ⟨gb136, 3, none⟩ = some (.int .i64 a0_3) := (blk_cell BK136.out 3).trans rfl; have hcz5_4 : w4.cell? ⟨gb136, 4, none⟩ = some (.int .i64 a0_4) := (blk_cell BK136.out 4).trans rfl; have hcz5_5 : w4.cell? ⟨gb136, 5, none⟩ = some (.int .i64 a0_5) := (blk_cell BK136.out 5).trans rfl; have hfz5_0 := blk_frozen BK136.out 0; have hfz5_1 := blk_frozen BK136.out 1; have hfz5_2 := blk_frozen BK136.out 2; have hfz5_3 := blk_frozen BK136.out 3; have hfz5_4 := blk_frozen BK136.out 4; have hfz5_5 := blk_frozen BK136.out 5) | ((with_reducible refine gate_callee (f := 26) rfl ?_); refine goesL_ (some 8) rfl rfl Try.func26 (by kernel_rfl) rfl #[.agg #[.string a0_0, .int .i64 a0_1, .int .i64 a0_2, .int .i64 a0_3, .int .i64 a0_4, .int .i64 a0_5]] rfl (by (try simp only [List.map_toArray, List.map_cons, List.map_nil]); first | done | rfl | (simp only [List.length_drop, List.length_take]; rfl)) ?_; (with_reducible refine (contangoref31_Check.calls k a0_0 a0_1 a0_2 a0_3 a0_4 a0_5 t137 _ A3.out).mono ?_); rintro e w6 ⟨rfl, hb⟩; refine ⟨_, rfl, ?_⟩; have n0_ := Aside0.mk (blk_below (g := gb136) (o := .cells #[.string a0_0, .int .i64 a0_1, .int .i64 a0_2, .int .i64 a0_3, .int .i64 a0_4, .int .i64 a0_5] 23 (0, 0)) (by (with_reducible repeat (first | refine blk_drewN ?_ _ | refine blk_drew ?_ | refine blk_alloc ?_ _)); exact BK136.out) hb); have n1_ := Aside0.mk (below_step (by repeat (first | (with_reducible first | exact HB.out | apply below_alloc | apply pw_below_drewN | apply below_drew1 | refine below_set ?_ GE136.out) | exact HB.out)) hb); clear BK136; clear HB; have BK136 := n0_; have HB := n1_; clear n0_ n1_; (try clear hb); (try clear hb2); (try clear hk); (try clear hi)))
  (try simp only [Act.put, List.setIfInBounds_toArray, List.set_cons_zero, List.set_cons_succ])
  by_cases c7 : t137 = 0
  · rw [if_pos c7] at H
    have c7b0 : (t137 == 0) = true := beq_iff_eq.mpr c7
    have c7b1 : (t137 != 0) = false := bne_eq_false_iff_eq.mpr c7
    clear c7
    (try simp only [c7b0, c7b1])
    replace H := Option.bind_eq_some_iff.mp H
    obtain ⟨t138, A80, H⟩ := H
    replace H : (if t138 = true then ((contangoref01_Mul.f k a1 a0_3).bind fun bt139 => (some (bt139.1, bt139.2))) else (some (0, 18))) = some (r1, r2) := H
    have A8 := Aside0.mk A80
    clear A80
    go_upto_if 14 with (first | ((with_reducible refine gate_callee (f := 52) rfl ?_); refine goesL_ (some 13) rfl rfl Try.func52 (by kernel_rfl) rfl #[.int .i64 a1, .int .i64 0, .int .i64 1152921504606846976] rfl (by (try simp only [List.map_toArray, List.map_cons, List.map_nil]); first | done | rfl | (simp only [List.length_drop, List.length_take]; rfl)) ?_; (with_reducible refine (contangoref31_within.calls a1 0 1152921504606846976 t138 _ A8.out).mono ?_); rintro e w' ⟨rfl, ⟨nd, rfl⟩⟩; refine ⟨_, rfl, ?_⟩))
    (try simp only [Act.put, List.setIfInBounds_toArray, List.set_cons_zero, List.set_cons_succ])
    by_cases c9 : t138 = true
    · subst c9
      have H1 : ((contangoref01_Mul.f k a1 a0_3).bind fun bt139 => (some (bt139.1, bt139.2))) = some (r1, r2) := by rw [if_pos rfl] at H; exact H
      clear H
      have H := H1
      clear H1
      replace H := Option.bind_eq_some_iff.mp H
      obtain ⟨⟨t139, t140⟩, A100, H⟩ := H
      replace H : (some (t139, t140)) = some (r1, r2) := H
      have A10 := Aside0.mk A100
      clear A100
      simp only [Option.some.injEq, Prod.mk.injEq] at H
      obtain ⟨rfl, rfl⟩ := H
      have hcz11_0 : w6.cell? ⟨gb136, 0, none⟩ = some (.string a0_0) := (blk_cell BK136.out 0).trans rfl
      have hcz11_1 : w6.cell? ⟨gb136, 1, none⟩ = some (.int .i64 a0_1) := (blk_cell BK136.out 1).trans rfl
      have hcz11_2 : w6.cell? ⟨gb136, 2, none⟩ = some (.int .i64 a0_2) := (blk_cell BK136.out 2).trans rfl
      have hcz11_3 : w6.cell? ⟨gb136, 3, none⟩ = some (.int .i64 a0_3) := (blk_cell BK136.out 3).trans rfl
      have hcz11_4 : w6.cell? ⟨gb136, 4, none⟩ = some (.int .i64 a0_4) := (blk_cell BK136.out 4).trans rfl
      have hcz11_5 : w6.cell? ⟨gb136, 5, none⟩ = some (.int .i64 a0_5) := (blk_cell BK136.out 5).trans rfl
      have hfz11_0 := blk_frozen BK136.out 0
      have hfz11_1 := blk_frozen BK136.out 1
      have hfz11_2 := blk_frozen BK136.out 2
      have hfz11_3 := blk_frozen BK136.out 3
      have hfz11_4 := blk_frozen BK136.out 4
      have hfz11_5 := blk_frozen BK136.out 5
      go_wp2_with (first | ((with_reducible refine gate_callee (f := 53) rfl ?_); refine goesL_ (some 18) rfl rfl Try.func53 (by kernel_rfl) rfl #[.int .i64 a1, .int .i64 a0_3] rfl (by (try simp only [List.map_toArray, List.map_cons, List.map_nil]); first | done | rfl | (simp only [List.length_drop, List.length_take]; rfl)) ?_; (with_reducible refine (contangoref01_Mul.calls k a1 a0_3 t139 t140 _ A10.out).mono ?_); rintro e w' ⟨rfl, ⟨nd, rfl⟩⟩; refine ⟨_, rfl, ?_⟩))
      go_ret2
      exact ⟨by first | rfl | (simp [errW_none, errW_some] <;> rfl) | (simp [*, errW_none, errW_some] <;> rfl), by repeat (first | (with_reducible first | exact HB.out | apply below_alloc | apply pw_below_drewN | apply below_drew1 | refine below_set ?_ GE136.out) | exact HB.out)⟩
    · replace c9 := Bool.eq_false_iff.mpr c9
      subst c9
      have H1 : (some (0, 18)) = some (r1, r2) := by rw [if_neg (show ¬ (false = true) by decide)] at H; exact H
      clear H
      have H := H1
      clear H1
      simp only [Option.some.injEq, Prod.mk.injEq] at H
      obtain ⟨rfl, rfl⟩ := H
      go_wp2
      go_ret2
      exact ⟨by first | rfl | (simp [errW_none, errW_some] <;> rfl) | (simp [*, errW_none, errW_some] <;> rfl), by repeat (first | (with_reducible first | exact HB.out | apply below_alloc | apply pw_below_drewN | apply below_drew1 | refine below_set ?_ GE136.out) | exact HB.out)⟩
  · rw [if_neg c7] at H
    have c7b0 : (t137 == 0) = false := beq_eq_false_iff_ne.mpr c7
    have c7b1 : (t137 != 0) = true := bne_iff_ne.mpr c7
    (try simp only [c7b0, c7b1])
    simp only [Option.some.injEq, Prod.mk.injEq] at H
    obtain ⟨rfl, rfl⟩ := H
    go_wp2
    go_ret2
    exact ⟨by first | rfl | (simp [errW_none, errW_some] <;> rfl) | (simp [*, errW_none, errW_some] <;> rfl), by repeat (first | (with_reducible first | exact HB.out | apply below_alloc | apply pw_below_drewN | apply below_drew1 | refine below_set ?_ GE136.out) | exact HB.out)⟩
def contangoref01_quotient.l0 : Nat → Int → Int → Int → Int → Int → Int → Option (Int × Int)
  | 0, _, _, _, _, _, _ => none
  | k + 1, x0, x1, x2, x8, x9, x10 => if x10 ≥ 0 then (if 0 ≤ (IntKind.u64.wrap (x10)) then (if (Int.tmod (shr .i64 x0 (IntKind.u64.wrap (x10))) 2) = 1 then (if x2 = 0 then (none) else (if (wrap64 ((wrap64 (2 * x8)) + (wrap64 (Int.tdiv (wrap64 ((wrap64 (2 * x9)) + x1)) x2)))) > 2305843009213693952 then (contangoref01_quotient.l0 k x0 x1 x2 2305843009213693952 (Int.tmod (wrap64 ((wrap64 (2 * x9)) + x1)) x2) (wrap64 (x10 - 1))) else (contangoref01_quotient.l0 k x0 x1 x2 (wrap64 ((wrap64 (2 * x8)) + (wrap64 (Int.tdiv (wrap64 ((wrap64 (2 * x9)) + x1)) x2)))) (Int.tmod (wrap64 ((wrap64 (2 * x9)) + x1)) x2) (wrap64 (x10 - 1))))) else (if x2 = 0 then (none) else (if (wrap64 ((wrap64 (2 * x8)) + (wrap64 (Int.tdiv (wrap64 (2 * x9)) x2)))) > 2305843009213693952 then (contangoref01_quotient.l0 k x0 x1 x2 2305843009213693952 (Int.tmod (wrap64 (2 * x9)) x2) (wrap64 (x10 - 1))) else (contangoref01_quotient.l0 k x0 x1 x2 (wrap64 ((wrap64 (2 * x8)) + (wrap64 (Int.tdiv (wrap64 (2 * x9)) x2)))) (Int.tmod (wrap64 (2 * x9)) x2) (wrap64 (x10 - 1)))))) else (none)) else (some (x8, x9))
def contangoref01_quotient.f (k : Nat) (a0 : Int) (a1 : Int) (a2 : Int) : Option (Int × Int) := contangoref01_quotient.l0 k a0 a1 a2 0 0 60
theorem contangoref01_quotient.mono_l : ∀ k, (∀ y0 y1 y2 y3 y4 y5, LeO (contangoref01_quotient.l0 k y0 y1 y2 y3 y4 y5) (contangoref01_quotient.l0 (k + 1) y0 y1 y2 y3 y4 y5))
  | 0 => fun _ _ _ _ _ _ r h => by simp [contangoref01_quotient.l0] at h
  | k + 1 => by
    have ih0 := contangoref01_quotient.mono_l k
    · intro y0 y1 y2 y3 y4 y5
      unfold contangoref01_quotient.l0
      repeat' first
      | (with_reducible exact ih0 _ _ _ _ _ _)
      | (with_reducible exact LeO.refl _)
      | (with_reducible exact LeO.none _)
      | (with_reducible refine LeO.ite ?_ ?_)
      | (with_reducible refine LeO.bind ?_ (fun _ => ?_))
      | exact ih0 _ _ _ _ _ _
      | exact LeO.none _
      | refine LeO.ite ?_ ?_
      | refine LeO.bind ?_ (fun _ => ?_)
theorem contangoref01_quotient.mono : ∀ a0 a1 a2 k, LeO (contangoref01_quotient.f k a0 a1 a2) (contangoref01_quotient.f (k + 1) a0 a1 a2) := by
  intro a0 a1 a2 k
  have ih0 := contangoref01_quotient.mono_l k
  unfold contangoref01_quotient.f
  repeat' first
      | (with_reducible exact ih0 _ _ _ _ _ _)
      | (with_reducible exact LeO.refl _)
      | (with_reducible exact LeO.none _)
      | (with_reducible refine LeO.ite ?_ ?_)
      | (with_reducible refine LeO.bind ?_ (fun _ => ?_))
      | exact ih0 _ _ _ _ _ _
      | exact LeO.none _
      | refine LeO.ite ?_ ?_
      | refine LeO.bind ?_ (fun _ => ?_)
set_option maxHeartbeats 8000000 in
set_option maxRecDepth 100000 in
theorem contangoref01_quotient.calls (k : Nat) (a0 : Int) (a1 : Int) (a2 : Int) (r1 : Int) (r2 : Int) (w : World) (h : contangoref01_quotient.f k a0 a1 a2 = some (r1, r2)) :
    Calls Try.prog 96 #[.int .i64 a0, .int .i64 a1, .int .i64 a2] w fun e w' => e = .returned (.tuple #[.int .i64 r1, .int .i64 r2]) ∧ Drawn0 w w' := by
  have H : (contangoref01_quotient.l0 k a0 a1 a2 0 0 60) = some (r1, r2) := h
  clear h
  have H' := Aside0.mk H
  clear H
  go_enter Try.func96, Try.ntmps96
  go_wp2
  go_loopg [8, 9, 10] k (fun kq v8 v9 v10 w' => ∃ (x8_1 : Int) (x9_1 : Int) (x10_1 : Int), v8 = .int .i64 x8_1 ∧ v9 = .int .i64 x9_1 ∧ v10 = .int .i64 x10_1 ∧ Aside0 (contangoref01_quotient.l0 kq a0 a1 a2 x8_1 x9_1 x10_1 = some (r1, r2)) ∧ Aside0 (kq ≤ k) ∧ Drawn0 w w')
  case atStart => exact ⟨(0), (0), (60), (by first | rfl | (simp; done) | (simp [*]; done)), (by first | rfl | (simp; done) | (simp [*]; done)), (by first | rfl | (simp; done) | (simp [*]; done)), H', ⟨Nat.le_refl _⟩, by repeat (first | exact Drawn0.refl _ | apply Drawn0.step)⟩
  case round =>
    clear H'
    try clear p2
    obtain ⟨x8_1, x9_1, x10_1, rfl, rfl, rfl, HA, HK1, ⟨m1, rfl⟩⟩ := hrel
    cases gk with
    | zero => exact absurd HA.out (by simp [contangoref01_quotient.l0])
    | succ k1 =>
      have H := HA.out
      clear HA
      simp only [contangoref01_quotient.l0] at H
      by_cases c4 : x10_1 ≥ 0
      · rw [if_pos c4] at H
        have c4b0 : decide (0 ≤ x10_1) = true := decide_eq_true c4
        clear c4
        (try simp only [c4b0])
        obtain ⟨ji5, hji5⟩ : ∃ j_ : Int, (IntKind.u64.wrap (x10_1)) = j_ := ⟨_, rfl⟩
        replace H : (if 0 ≤ (ji5) then (if (Int.tmod (shr .i64 a0 (ji5)) 2) = 1 then (if a2 = 0 then (none) else (if (wrap64 ((wrap64 (2 * x8_1)) + (wrap64 (Int.tdiv (wrap64 ((wrap64 (2 * x9_1)) + a1)) a2)))) > 2305843009213693952 then (contangoref01_quotient.l0 k1 a0 a1 a2 2305843009213693952 (Int.tmod (wrap64 ((wrap64 (2 * x9_1)) + a1)) a2) (wrap64 (x10_1 - 1))) else (contangoref01_quotient.l0 k1 a0 a1 a2 (wrap64 ((wrap64 (2 * x8_1)) + (wrap64 (Int.tdiv (wrap64 ((wrap64 (2 * x9_1)) + a1)) a2)))) (Int.tmod (wrap64 ((wrap64 (2 * x9_1)) + a1)) a2) (wrap64 (x10_1 - 1))))) else (if a2 = 0 then (none) else (if (wrap64 ((wrap64 (2 * x8_1)) + (wrap64 (Int.tdiv (wrap64 (2 * x9_1)) a2)))) > 2305843009213693952 then (contangoref01_quotient.l0 k1 a0 a1 a2 2305843009213693952 (Int.tmod (wrap64 (2 * x9_1)) a2) (wrap64 (x10_1 - 1))) else (contangoref01_quotient.l0 k1 a0 a1 a2 (wrap64 ((wrap64 (2 * x8_1)) + (wrap64 (Int.tdiv (wrap64 (2 * x9_1)) a2)))) (Int.tmod (wrap64 (2 * x9_1)) a2) (wrap64 (x10_1 - 1)))))) else (none)) = some (r1, r2) := by first | (rw [hji5] at H; exact H) | (simp only [hji5] at H ⊢; exact H)
        by_cases c6 : 0 ≤ (ji5)
        · rw [if_pos c6] at H
          have c6b0 := eq_true c6
          have c6b1 : decide (0 ≤ (ji5)) = true := decide_eq_true c6
          clear c6
          obtain ⟨ji7, hji7⟩ : ∃ j_ : Int, (shr .i64 a0 (ji5)) = j_ := ⟨_, rfl⟩
          replace H : (if (Int.tmod (ji7) 2) = 1 then (if a2 = 0 then (none) else (if (wrap64 ((wrap64 (2 * x8_1)) + (wrap64 (Int.tdiv (wrap64 ((wrap64 (2 * x9_1)) + a1)) a2)))) > 2305843009213693952 then (contangoref01_quotient.l0 k1 a0 a1 a2 2305843009213693952 (Int.tmod (wrap64 ((wrap64 (2 * x9_1)) + a1)) a2) (wrap64 (x10_1 - 1))) else (contangoref01_quotient.l0 k1 a0 a1 a2 (wrap64 ((wrap64 (2 * x8_1)) + (wrap64 (Int.tdiv (wrap64 ((wrap64 (2 * x9_1)) + a1)) a2)))) (Int.tmod (wrap64 ((wrap64 (2 * x9_1)) + a1)) a2) (wrap64 (x10_1 - 1))))) else (if a2 = 0 then (none) else (if (wrap64 ((wrap64 (2 * x8_1)) + (wrap64 (Int.tdiv (wrap64 (2 * x9_1)) a2)))) > 2305843009213693952 then (contangoref01_quotient.l0 k1 a0 a1 a2 2305843009213693952 (Int.tmod (wrap64 (2 * x9_1)) a2) (wrap64 (x10_1 - 1))) else (contangoref01_quotient.l0 k1 a0 a1 a2 (wrap64 ((wrap64 (2 * x8_1)) + (wrap64 (Int.tdiv (wrap64 (2 * x9_1)) a2)))) (Int.tmod (wrap64 (2 * x9_1)) a2) (wrap64 (x10_1 - 1)))))) = some (r1, r2) := by first | (rw [hji7] at H; exact H) | (simp only [hji7] at H ⊢; exact H)
          have hji7_ : (a0 / 2 ^ min (ji5).toNat 64) = ji7 := hji7
          have hji7z : (ji5) ≤ 64 → (a0 / 2 ^ (ji5).toNat) = ji7 := shr_small hji7
          by_cases c8 : (Int.tmod (ji7) 2) = 1
          · rw [if_pos c8] at H
            have c8b0 : ((Int.tmod (ji7) 2) == 1) = true := beq_iff_eq.mpr c8
            have c8b1 : ((Int.tmod (ji7) 2) != 1) = false := bne_eq_false_iff_eq.mpr c8
            clear c8
            (try simp only [c8b0, c8b1])
            by_cases c9 : a2 = 0
            · rw [if_pos c9] at H
              exact absurd H (by simp)
            · rw [if_neg c9] at H
              have c9b0 : (a2 == 0) = false := beq_eq_false_iff_ne.mpr c9
              have c9b1 : (a2 != 0) = true := bne_iff_ne.mpr c9
              by_cases c10 : (wrap64 ((wrap64 (2 * x8_1)) + (wrap64 (Int.tdiv (wrap64 ((wrap64 (2 * x9_1)) + a1)) a2)))) > 2305843009213693952
              · rw [if_pos c10] at H
                have c10b0 : decide (2305843009213693952 < (wrap64 ((wrap64 (2 * x8_1)) + (wrap64 (Int.tdiv (wrap64 ((wrap64 (2 * x9_1)) + a1)) a2))))) = true := decide_eq_true c10
                clear c10
                (try simp only [c10b0])
                have H' := Aside0.mk H
                clear H
                go_wp2
                go_roundg k1
                case measure => have := HK1.out; omega
                case rel => exact ⟨(2305843009213693952), (Int.tmod (wrap64 ((wrap64 (2 * x9_1)) + a1)) a2), (wrap64 (x10_1 - 1)), (by first | rfl | (simp; done) | (simp [*]; done)), (by first | rfl | (simp; done) | (simp [*]; done)), (by first | rfl | (simp; done) | (simp [*]; done)), H', ⟨by have := HK1.out; omega⟩, by repeat (first | exact Drawn0.refl _ | apply Drawn0.step)⟩
              · rw [if_neg c10] at H
                have c10b0 : decide (2305843009213693952 < (wrap64 ((wrap64 (2 * x8_1)) + (wrap64 (Int.tdiv (wrap64 ((wrap64 (2 * x9_1)) + a1)) a2))))) = false := decide_eq_false c10
                clear c10
                (try simp only [c10b0])
                have H' := Aside0.mk H
                clear H
                go_wp2
                go_roundg k1
                case measure => have := HK1.out; omega
                case rel => exact ⟨(wrap64 ((wrap64 (2 * x8_1)) + (wrap64 (Int.tdiv (wrap64 ((wrap64 (2 * x9_1)) + a1)) a2)))), (Int.tmod (wrap64 ((wrap64 (2 * x9_1)) + a1)) a2), (wrap64 (x10_1 - 1)), (by first | rfl | (simp; done) | (simp [*]; done)), (by first | rfl | (simp; done) | (simp [*]; done)), (by first | rfl | (simp; done) | (simp [*]; done)), H', ⟨by have := HK1.out; omega⟩, by repeat (first | exact Drawn0.refl _ | apply Drawn0.step)⟩
          · rw [if_neg c8] at H
            have c8b0 : ((Int.tmod (ji7) 2) == 1) = false := beq_eq_false_iff_ne.mpr c8
            have c8b1 : ((Int.tmod (ji7) 2) != 1) = true := bne_iff_ne.mpr c8
            (try simp only [c8b0, c8b1])
            by_cases c11 : a2 = 0
            · rw [if_pos c11] at H
              exact absurd H (by simp)
            · rw [if_neg c11] at H
              have c11b0 : (a2 == 0) = false := beq_eq_false_iff_ne.mpr c11
              have c11b1 : (a2 != 0) = true := bne_iff_ne.mpr c11
              by_cases c12 : (wrap64 ((wrap64 (2 * x8_1)) + (wrap64 (Int.tdiv (wrap64 (2 * x9_1)) a2)))) > 2305843009213693952
              · rw [if_pos c12] at H
                have c12b0 : decide (2305843009213693952 < (wrap64 ((wrap64 (2 * x8_1)) + (wrap64 (Int.tdiv (wrap64 (2 * x9_1)) a2))))) = true := decide_eq_true c12
                clear c12
                (try simp only [c12b0])
                have H' := Aside0.mk H
                clear H
                go_wp2
                go_roundg k1
                case measure => have := HK1.out; omega
                case rel => exact ⟨(2305843009213693952), (Int.tmod (wrap64 (2 * x9_1)) a2), (wrap64 (x10_1 - 1)), (by first | rfl | (simp; done) | (simp [*]; done)), (by first | rfl | (simp; done) | (simp [*]; done)), (by first | rfl | (simp; done) | (simp [*]; done)), H', ⟨by have := HK1.out; omega⟩, by repeat (first | exact Drawn0.refl _ | apply Drawn0.step)⟩
              · rw [if_neg c12] at H
                have c12b0 : decide (2305843009213693952 < (wrap64 ((wrap64 (2 * x8_1)) + (wrap64 (Int.tdiv (wrap64 (2 * x9_1)) a2))))) = false := decide_eq_false c12
                clear c12
                (try simp only [c12b0])
                have H' := Aside0.mk H
                clear H
                go_wp2
                go_roundg k1
                case measure => have := HK1.out; omega
                case rel => exact ⟨(wrap64 ((wrap64 (2 * x8_1)) + (wrap64 (Int.tdiv (wrap64 (2 * x9_1)) a2)))), (Int.tmod (wrap64 (2 * x9_1)) a2), (wrap64 (x10_1 - 1)), (by first | rfl | (simp; done) | (simp [*]; done)), (by first | rfl | (simp; done) | (simp [*]; done)), (by first | rfl | (simp; done) | (simp [*]; done)), H', ⟨by have := HK1.out; omega⟩, by repeat (first | exact Drawn0.refl _ | apply Drawn0.step)⟩
        · rw [if_neg c6] at H
          exact absurd H (by simp)
      · rw [if_neg c4] at H
        have c4b0 : decide (0 ≤ x10_1) = false := decide_eq_false c4
        clear c4
        (try simp only [c4b0])
        simp only [Option.some.injEq, Prod.mk.injEq] at H
        obtain ⟨rfl, rfl⟩ := H
        go_wp2
        go_ret2
        exact ⟨by first | rfl | (simp; done) | (simp [*]; done), by repeat (first | exact Drawn0.refl _ | apply Drawn0.step)⟩
theorem quo_dbl (N c x : Int) (hc : 0 < c) : (2 * N + x) / c = 2 * (N / c) + (2 * (N % c) + x) / c ∧ (2 * N + x) % c = (2 * (N % c) + x) % c := by
  have h := Int.mul_ediv_add_emod N c
  have e : 2 * N + x = (2 * (N % c) + x) + c * (2 * (N / c)) := by grind
  rw [e]
  exact ⟨by rw [Int.add_mul_ediv_left _ _ (by omega)]; omega, by rw [Int.add_mul_emod_self_left]⟩
theorem quo_cap (Q s q : Int) (hQ : 0 ≤ Q) (hs : 0 ≤ s) (hs' : s ≤ 2305843009213693952) (hq : q = if Q ≤ 2305843009213693952 then Q else 2305843009213693952) :
    (if wrap64 (wrap64 (2 * q) + wrap64 s) > 2305843009213693952 then 2305843009213693952 else wrap64 (wrap64 (2 * q) + wrap64 s)) = if 2 * Q + s ≤ 2305843009213693952 then 2 * Q + s else 2305843009213693952 := by
  unfold wrap64
  subst hq
  split <;> split <;> split <;> omega
theorem quo_loop (a b c : Int) (ha : 0 ≤ a) (ha' : a ≤ 1152921504606846976) (hb : 0 ≤ b) (hb' : b ≤ 1152921504606846976) (hc : 0 < c) (hc' : c ≤ 1152921504606846976) :
    ∀ (n : Nat) (k : Nat) (q r : Int), n ≤ 61 → n < k → q = (if a / 2 ^ n * b / c ≤ 2305843009213693952 then a / 2 ^ n * b / c else 2305843009213693952) → r = a / 2 ^ n * b % c →
      contangoref01_quotient.l0 k a b c q r ((n : Int) - 1) = some (if a * b / c ≤ 2305843009213693952 then a * b / c else 2305843009213693952, a * b % c) := by
  intro n
  induction n with
  | zero =>
    intro k q r _ hk hq hr
    obtain ⟨k, rfl⟩ : ∃ m, k = m + 1 := ⟨k - 1, by omega⟩
    simp only [contangoref01_quotient.l0]
    rw [if_neg (by omega), hq, hr]
    simp
  | succ n ih =>
    intro k q r hn hk hq hr
    obtain ⟨k, rfl⟩ : ∃ m, k = m + 1 := ⟨k - 1, by omega⟩
    have e0 : ((n + 1 : Nat) : Int) - 1 = (n : Int) := by omega
    have w0 : IntKind.u64.wrap (n : Int) = (n : Int) := by rw [IntKind.wrap_u64]; omega
    have hp : (0 : Int) < 2 ^ n := Int.pow_pos (by omega)
    have hA : 0 ≤ a / 2 ^ n := Int.ediv_nonneg ha (by omega)
    have hA2 : a / 2 ^ (n + 1) = a / 2 ^ n / 2 := by
      rw [Int.pow_succ, Int.ediv_ediv_of_nonneg (by omega)]
    have hAle : a / 2 ^ n ≤ a := Int.ediv_le_self _ ha
    have esh : shr .i64 a (n : Int) = a / 2 ^ n := by
      unfold shr
      rw [Int.toNat_natCast, Nat.min_eq_left (show n ≤ IntKind.i64.bits by show n ≤ 64; omega)]
    have hr0 := Int.emod_nonneg (a / 2 ^ (n + 1) * b) (b := c) (by omega)
    have hr1 := Int.emod_lt_of_pos (a / 2 ^ (n + 1) * b) hc
    have hQ0 : 0 ≤ a / 2 ^ (n + 1) * b / c := Int.ediv_nonneg (Int.mul_nonneg (by rw [hA2]; omega) hb) (by omega)
    generalize hA' : a / 2 ^ n = A at *
    generalize hN : a / 2 ^ (n + 1) * b = N at *
    have wr : wrap64 (2 * r) = 2 * r := by unfold wrap64; omega
    have wrb : wrap64 (wrap64 (2 * r) + b) = 2 * r + b := by unfold wrap64; omega
    have wn : wrap64 ((n : Int) - 1) = (n : Int) - 1 := by unfold wrap64; omega
    have step : ∀ x : Int, 0 ≤ x → x ≤ 1152921504606846976 → A * b = 2 * N + x → 
        (if wrap64 (wrap64 (2 * q) + wrap64 ((2 * r + x) / c)) > 2305843009213693952 then contangoref01_quotient.l0 k a b c 2305843009213693952 ((2 * r + x) % c) ((n : Int) - 1)
         else contangoref01_quotient.l0 k a b c (wrap64 (wrap64 (2 * q) + wrap64 ((2 * r + x) / c))) ((2 * r + x) % c) ((n : Int) - 1)) = some (if a * b / c ≤ 2305843009213693952 then a * b / c else 2305843009213693952, a * b % c) := by
      intro x hx0 hx1 hx
      obtain ⟨d1, d2⟩ := quo_dbl N c x hc
      rw [← hr] at d1 d2
      have s0 : 0 ≤ (2 * r + x) / c := Int.ediv_nonneg (by omega) (by omega)
      have s1 : (2 * r + x) / c ≤ 2305843009213693952 := by
        have : (2 * r + x) / c < 2305843009213693953 := (Int.ediv_lt_iff_lt_mul hc).2 (by omega)
        omega
      have cap := quo_cap (N / c) ((2 * r + x) / c) q hQ0 s0 s1 hq
      rw [← d1, ← hx] at cap
      rw [← hx] at d2
      have := ih k (if wrap64 (wrap64 (2 * q) + wrap64 ((2 * r + x) / c)) > 2305843009213693952 then 2305843009213693952 else wrap64 (wrap64 (2 * q) + wrap64 ((2 * r + x) / c))) ((2 * r + x) % c) (by omega) (by omega) cap d2.symm
      split at this
      · rw [if_pos (by assumption)]; exact this
      · rw [if_neg (by assumption)]; exact this
    simp only [contangoref01_quotient.l0]
    rw [e0, if_pos (by omega), w0, if_pos (by omega), esh, Int.tmod_eq_emod_of_nonneg hA, if_neg (show ¬ c = 0 by omega), if_neg (show ¬ c = 0 by omega), wrb, wr, wn]
    rw [Int.tdiv_eq_ediv_of_nonneg (show 0 ≤ 2 * r + b by omega), Int.tmod_eq_emod_of_nonneg (show 0 ≤ 2 * r + b by omega), Int.tdiv_eq_ediv_of_nonneg (show 0 ≤ 2 * r by omega), Int.tmod_eq_emod_of_nonneg (show 0 ≤ 2 * r by omega)]
    by_cases hbit : A % 2 = 1
    · rw [if_pos hbit]
      refine step b hb hb' ?_
      rw [← hN, hA2]
      have : A = 2 * (A / 2) + 1 := by omega
      grind
    · rw [if_neg hbit]
      have := step 0 (by omega) (by omega) (by
        rw [← hN, hA2]
        have : A = 2 * (A / 2) := by omega
        grind)
      rw [Int.add_zero] at this
      exact this
theorem contangoref01_quotient.eq (a b c : Int) (ha : 0 ≤ a) (ha' : a ≤ 1152921504606846976) (hb : 0 ≤ b) (hb' : b ≤ 1152921504606846976) (hc : 0 < c) (hc' : c ≤ 1152921504606846976) (k : Nat) (hk : 70 ≤ k) :
    contangoref01_quotient.f k a b c = some (if a * b / c ≤ 2305843009213693952 then a * b / c else 2305843009213693952, a * b % c) := by
  unfold contangoref01_quotient.f
  have h0 : a / 2 ^ 61 = 0 := Int.ediv_eq_zero_of_lt ha (by omega)
  exact quo_loop a b c ha ha' hb hb' hc hc' 61 k 0 0 (by omega) (by omega) (by rw [h0]; simp) (by rw [h0]; simp)
set_option maxHeartbeats 4000000 in
set_option maxRecDepth 100000 in
theorem contangoref01_MulDiv.bad (a0 a1 a2 a3 : Int) (w : World) (h : ¬ (mdFits a0 ∧ mdFits a1 ∧ mdFits a2 ∧ 1 ≤ a3 ∧ a3 ≤ 5)) :
    Calls Try.prog 57 #[.int .i64 a0, .int .i64 a1, .int .i64 a2, .int .i64 a3] w fun e w' => e = .returned (.tuple #[.int .i64 0, .int .i64 2]) ∧ w' = w := by
  rcases md_bad_cases a0 a1 a2 a3 h with h1 | h1 | ⟨⟨h1, h2⟩, h3⟩ | ⟨⟨h1, h2⟩, h3⟩ | ⟨⟨h1, h2⟩, ⟨h3, h4⟩, h5⟩ | ⟨⟨h1, h2⟩, ⟨h3, h4⟩, h5⟩ | ⟨⟨h1, h2⟩, ⟨h3, h4⟩, ⟨h5, h6⟩, h7⟩ | ⟨⟨h1, h2⟩, ⟨h3, h4⟩, ⟨h5, h6⟩, h7⟩
  all_goals
    clear h
    go_enter Try.func57, Try.ntmps57
    go_wp2
    go_ret2
    exact ⟨rfl, rfl⟩
set_option maxHeartbeats 4000000 in
set_option maxRecDepth 100000 in
theorem contangoref01_MulDiv.z (a0 a1 a2 a3 : Int) (w : World) (h1 : -1152921504606846976 ≤ a0) (h2 : a0 ≤ 1152921504606846976) (h3 : -1152921504606846976 ≤ a1) (h4 : a1 ≤ 1152921504606846976)
    (h5 : -1152921504606846976 ≤ a2) (h6 : a2 ≤ 1152921504606846976) (hc : (a2 == 0) = true) (m1 : 1 ≤ a3) (m2 : a3 ≤ 5) :
    Calls Try.prog 57 #[.int .i64 a0, .int .i64 a1, .int .i64 a2, .int .i64 a3] w fun e w' => e = .returned (.tuple #[.int .i64 0, .int .i64 4]) ∧ Below w.heap.size w w' := by
  go_enter Try.func57, Try.ntmps57
  go_wp2_with (go_at_call 90; go_in)
  go_ret2
  exact ⟨rfl, Below.refl _ _⟩
theorem rsize_eq (a : Int) (h1 : -1152921504606846976 ≤ a) : contangoref01_size.f a = some (a.natAbs : Int) := by
  unfold contangoref01_size.f wrap64
  split <;> (congr 1; omega)
/-- What the reference makes of quotient and rest. -/
def rmQ (Q R : Int) (av : Bool) : Int := if 0 < R ∧ av = true then Q + 1 else Q
def rmRes (q : Int) (bl : Bool) : Int × Int := if 1152921504606846976 < q then (0, 3) else (if bl = true then -q else q, 0)
theorem rm_end {q n er : Int} {bl : Bool} (h : rmRes q bl = (n, er)) : Ending.returned (.tuple #[.int .i64 n, .int .i64 er]) = .returned (.tuple #[.int .i64 (rmRes q bl).1, .int .i64 (rmRes q bl).2]) := by rw [h]
set_option maxHeartbeats 4000000 in
set_option maxRecDepth 100000 in
theorem contangoref01_MulDiv.main (a0 a1 a2 a3 : Int) (w : World) (h1 : -1152921504606846976 ≤ a0) (h2 : a0 ≤ 1152921504606846976) (h3 : -1152921504606846976 ≤ a1) (h4 : a1 ≤ 1152921504606846976)
    (h5 : -1152921504606846976 ≤ a2) (h6 : a2 ≤ 1152921504606846976) (hc : (a2 == 0) = false) (m1 : 1 ≤ a3) (m2 : a3 ≤ 5) (Q R : Int) (bl av : Bool)
    (fb : (!((!(decide (a0 < 0) == decide (a1 < 0))) == decide (a2 < 0))) = bl) (hQ : Aside0 (contangoref01_quotient.f 70 a0.natAbs a1.natAbs a2.natAbs = some (Q, R)))
    (hav : Aside0 (contangoref01_away.f Q R a2.natAbs a3 bl = some av)) (hQ0 : 0 ≤ Q) (hQ1 : Q ≤ 2305843009213693952) :
    Calls Try.prog 57 #[.int .i64 a0, .int .i64 a1, .int .i64 a2, .int .i64 a3] w fun e w' => e = .returned (.tuple #[.int .i64 (rmRes (rmQ Q R av) bl).1, .int .i64 (rmRes (rmQ Q R av) bl).2]) ∧ Below w.heap.size w w' := by
  by_cases hR : 0 < R
  · cases av
    · have eq : rmQ Q R false = Q := by unfold rmQ; rw [if_neg (by simp)]
      rw [eq]; clear eq
      go_enter Try.func57, Try.ntmps57
      go_wp2_with (first | (go_at_call 90; go_in) | (go_at_call 91; refine (contangoref01_size.calls _ _ _ (rsize_eq _ (by omega))).mono ?_; rintro e w1 ⟨rfl, ⟨nd, rfl⟩⟩) | (go_at_call 96; refine (contangoref01_quotient.calls 70 _ _ _ _ _ _ hQ.out).mono ?_; rintro e w1 ⟨rfl, ⟨nd, rfl⟩⟩) | (go_at_call 97; refine (contangoref01_away.calls _ _ _ _ _ _ _ hav.out).mono ?_; rintro e w1 ⟨rfl, ⟨nd, rfl⟩⟩))
      all_goals go_ret2
      all_goals refine ⟨rm_end ?_, by repeat (first | exact Below.refl _ _ | apply pw_below_drewN | apply below_drew)⟩
      all_goals go_light
      · exact if_pos (by omega)
      · exact (if_neg (by omega)).trans (by rw [if_pos (by first | rfl | assumption)])
      · exact (if_neg (by omega)).trans (by rw [if_neg (by first | (simp; done) | (simp; assumption))])
    · have eq : rmQ Q R true = Q + 1 := by unfold rmQ; rw [if_pos ⟨hR, rfl⟩]
      rw [eq]; clear eq
      go_enter Try.func57, Try.ntmps57
      go_wp2_with (first | (go_at_call 90; go_in) | (go_at_call 91; refine (contangoref01_size.calls _ _ _ (rsize_eq _ (by omega))).mono ?_; rintro e w1 ⟨rfl, ⟨nd, rfl⟩⟩) | (go_at_call 96; refine (contangoref01_quotient.calls 70 _ _ _ _ _ _ hQ.out).mono ?_; rintro e w1 ⟨rfl, ⟨nd, rfl⟩⟩) | (go_at_call 97; refine (contangoref01_away.calls _ _ _ _ _ _ _ hav.out).mono ?_; rintro e w1 ⟨rfl, ⟨nd, rfl⟩⟩))
      all_goals go_ret2
      all_goals refine ⟨rm_end ?_, by repeat (first | exact Below.refl _ _ | apply pw_below_drewN | apply below_drew)⟩
      all_goals go_light
      · exact if_pos (by omega)
      · exact (if_neg (by omega)).trans (by rw [if_pos (by first | rfl | assumption)])
      · exact (if_neg (by omega)).trans (by rw [if_neg (by first | (simp; done) | (simp; assumption))])
  · have eq : rmQ Q R av = Q := by unfold rmQ; rw [if_neg (fun h => hR h.1)]
    rw [eq]; clear eq
    have hR' : R ≤ 0 := by omega
    clear hR
    go_enter Try.func57, Try.ntmps57
    go_wp2_with (first | (go_at_call 90; go_in) | (go_at_call 91; refine (contangoref01_size.calls _ _ _ (rsize_eq _ (by omega))).mono ?_; rintro e w1 ⟨rfl, ⟨nd, rfl⟩⟩) | (go_at_call 96; refine (contangoref01_quotient.calls 70 _ _ _ _ _ _ hQ.out).mono ?_; rintro e w1 ⟨rfl, ⟨nd, rfl⟩⟩) | (go_at_call 97; refine (contangoref01_away.calls _ _ _ _ _ _ _ hav.out).mono ?_; rintro e w1 ⟨rfl, ⟨nd, rfl⟩⟩))
    all_goals go_ret2
    all_goals refine ⟨rm_end ?_, by repeat (first | exact Below.refl _ _ | apply pw_below_drewN | apply below_drew)⟩
    all_goals go_light
    · exact if_pos (by omega)
    · exact (if_neg (by omega)).trans (by rw [if_pos (by first | rfl | assumption)])
    · exact (if_neg (by omega)).trans (by rw [if_neg (by first | (simp; done) | (simp; assumption))])
theorem raway_eq (Q R c mode : Int) (bl : Bool) (h0 : 0 ≤ Q) (hR : 0 ≤ R) (hc : R < c) (hc' : c ≤ 1152921504606846976) (m1 : 1 ≤ mode) (m2 : mode ≤ 5) : contangoref01_away.f Q R c mode bl = some (mdAway mode bl Q R c) := by
  have hw : wrap64 (c - R) = c - R := by unfold wrap64; omega
  have ht : Int.tmod Q 2 = Q % 2 := Int.tmod_eq_emod_of_nonneg h0
  unfold contangoref01_away.f mdAway
  rw [hw, ht]
  obtain rfl | rfl | rfl | rfl | rfl : mode = 1 ∨ mode = 2 ∨ mode = 3 ∨ mode = 4 ∨ mode = 5 := by omega
  · rfl
  · rfl
  · cases bl <;> rfl
  · cases bl <;> rfl
  · by_cases g1 : R > c - R
    · rw [if_neg (by omega), if_neg (by omega), if_neg (by omega), if_pos rfl, if_pos g1, decide_eq_true (show c - R < R from g1)]; rfl
    · rw [if_neg (by omega), if_neg (by omega), if_neg (by omega), if_pos rfl, if_neg g1, decide_eq_false (show ¬ c - R < R from g1)]
      by_cases g2 : R = c - R
      · rw [if_pos g2, decide_eq_true g2]
        by_cases g3 : Q % 2 = 1
        · rw [g3]; rfl
        · rw [decide_eq_false g3, beq_eq_false_iff_ne.mpr g3]; rfl
      · rw [if_neg g2, decide_eq_false g2]; rfl
def contangoref01_MulDiv.f (a0 a1 a2 a3 : Int) : Option (Int × Int) := cents_MulDiv.f a0 a1 a2 a3
theorem contangoref01_MulDiv.calls (a0 a1 a2 a3 r1 r2 : Int) (w : World) (h : contangoref01_MulDiv.f a0 a1 a2 a3 = some (r1, r2)) :
    Calls Try.prog 57 #[.int .i64 a0, .int .i64 a1, .int .i64 a2, .int .i64 a3] w fun e w' => e = .returned (.tuple #[.int .i64 r1, .int .i64 r2]) ∧ Below w.heap.size w w' := by
  unfold contangoref01_MulDiv.f cents_MulDiv.f at h
  by_cases c : mdFits a0 ∧ mdFits a1 ∧ mdFits a2 ∧ 1 ≤ a3 ∧ a3 ≤ 5
  · rw [if_pos c] at h
    obtain ⟨⟨c1, c2⟩, ⟨c3, c4⟩, ⟨c5, c6⟩, c7, c8⟩ := c
    by_cases d : a2 = 0
    · rw [if_pos d] at h
      have h' := Option.some.inj h
      simp only [Prod.mk.injEq] at h'
      obtain ⟨rfl, rfl⟩ := h'
      exact contangoref01_MulDiv.z a0 a1 a2 a3 w c1 c2 c3 c4 c5 c6 (by simpa using d) c7 c8
    · rw [if_neg d] at h
      have h' := Option.some.inj h
      have e1 : (mdRes a0 a1 a2 a3).1 = r1 := by rw [h']
      have e2 : (mdRes a0 a1 a2 a3).2 = r2 := by rw [h']
      rw [← e1, ← e2]
      have hq0 : 0 ≤ (a0.natAbs : Int) * a1.natAbs / a2.natAbs := Int.ediv_nonneg (Int.mul_nonneg (by omega) (by omega)) (by omega)
      have hr0 := Int.emod_nonneg ((a0.natAbs : Int) * a1.natAbs) (b := (a2.natAbs : Int)) (by omega)
      have hr1 := Int.emod_lt_of_pos ((a0.natAbs : Int) * a1.natAbs) (b := (a2.natAbs : Int)) (by omega)
      have eq := contangoref01_quotient.eq a0.natAbs a1.natAbs a2.natAbs (by omega) (by omega) (by omega) (by omega) (by omega) (by omega) 70 (by omega)
      have em : rmRes (rmQ (if (a0.natAbs : Int) * a1.natAbs / a2.natAbs ≤ 2305843009213693952 then (a0.natAbs : Int) * a1.natAbs / a2.natAbs else 2305843009213693952) ((a0.natAbs : Int) * a1.natAbs % a2.natAbs)
          (mdAway a3 (mdBelow a0 a1 a2) (if (a0.natAbs : Int) * a1.natAbs / a2.natAbs ≤ 2305843009213693952 then (a0.natAbs : Int) * a1.natAbs / a2.natAbs else 2305843009213693952) ((a0.natAbs : Int) * a1.natAbs % a2.natAbs) a2.natAbs)) (mdBelow a0 a1 a2) = mdRes a0 a1 a2 a3 := by
        by_cases g : (a0.natAbs : Int) * a1.natAbs / a2.natAbs ≤ 2305843009213693952
        · rw [if_pos g]; rfl
        · rw [if_neg g]
          unfold rmRes mdRes
          rw [if_pos (by unfold rmQ; split <;> omega), if_pos (by unfold mdQ; split <;> omega)]
      rw [← em]
      refine contangoref01_MulDiv.main a0 a1 a2 a3 w c1 c2 c3 c4 c5 c6 (by simpa using d) c7 c8 _ _ _ _ rfl (Aside0.mk eq) (Aside0.mk (raway_eq _ _ _ _ _ ?_ hr0 hr1 (by omega) c7 c8)) ?_ ?_
      · split <;> omega
      · split <;> omega
      · split <;> omega
  · rw [if_neg c] at h
    have h' := Option.some.inj h
    simp only [Prod.mk.injEq] at h'
    obtain ⟨rfl, rfl⟩ := h'
    refine (contangoref01_MulDiv.bad a0 a1 a2 a3 w c).mono ?_
    rintro e w' ⟨rfl, rfl⟩
    exact ⟨rfl, Below.refl _ _⟩
def contangoref08_Find.l0 : Nat → List (S94) → ByteArray → Int → Option (Int × Bool)
  | 0, _, _, _ => none
  | k + 1, x0, x1, x6 => if x6 < (x0.length : Int) then (if 0 ≤ x6 then (if ((rd_T94 x0 x6).f0).toList = x1.toList then (some (x6, true)) else (contangoref08_Find.l0 k x0 x1 (wrap64 (x6 + 1)))) else (none)) else (some (0, false))
def contangoref08_Find.f (k : Nat) (l0 : List (S94)) (a1 : ByteArray) : Option (Int × Bool) := contangoref08_Find.l0 k l0 a1 0
theorem contangoref08_Find.mono_l : ∀ k, (∀ y0 y1 y2, LeO (contangoref08_Find.l0 k y0 y1 y2) (contangoref08_Find.l0 (k + 1) y0 y1 y2))
  | 0 => fun _ _ _ r h => by simp [contangoref08_Find.l0] at h
  | k + 1 => by
    have ih0 := contangoref08_Find.mono_l k
    · intro y0 y1 y2
      unfold contangoref08_Find.l0
      repeat' first
      | (with_reducible exact ih0 _ _ _)
      | (with_reducible exact LeO.refl _)
      | (with_reducible exact LeO.none _)
      | (with_reducible refine LeO.ite ?_ ?_)
      | (with_reducible refine LeO.bind ?_ (fun _ => ?_))
      | exact ih0 _ _ _
      | exact LeO.none _
      | refine LeO.ite ?_ ?_
      | refine LeO.bind ?_ (fun _ => ?_)
theorem contangoref08_Find.mono : ∀ a0 a1 k, LeO (contangoref08_Find.f k a0 a1) (contangoref08_Find.f (k + 1) a0 a1) := by
  intro a0 a1 k
  have ih0 := contangoref08_Find.mono_l k
  unfold contangoref08_Find.f
  repeat' first
      | (with_reducible exact ih0 _ _ _)
      | (with_reducible exact LeO.refl _)
      | (with_reducible exact LeO.none _)
      | (with_reducible refine LeO.ite ?_ ?_)
      | (with_reducible refine LeO.bind ?_ (fun _ => ?_))
      | exact ih0 _ _ _
      | exact LeO.none _
      | refine LeO.ite ?_ ?_
      | refine LeO.bind ?_ (fun _ => ?_)
set_option maxHeartbeats 8000000 in
set_option maxRecDepth 100000 in
theorem contangoref08_Find.calls (k : Nat) (A0 : Option Addr) (c0 : Nat) (l0 : List (S94)) (a1 : ByteArray) (r1 : Int) (r2 : Bool) (w : World) (hr0 : Kd.C k94 w A0 l0.length l0) (hc0 : l0.length ≤ c0) (h : contangoref08_Find.f k l0 a1 = some (r1, r2)) :
    Calls Try.prog 61 #[.slice A0 l0.length c0, .string a1] w fun e w' => e = .returned (.tuple #[.int .i64 r1, .bool r2]) ∧ Drawn0 w w' := by
  have HR0 := Aside0.mk hr0
  have HC0 := Aside0.mk hc0
  clear hr0 hc0
  have H : (contangoref08_Find.l0 k l0 a1 0) = some (r1, r2) := h
  clear h
  have H' := Aside0.mk H
  clear H
  go_enter Try.func61, Try.ntmps61
  go_wp2
  go_loopg [6] k (fun kq v6 w' => ∃ (x6_1 : Int), v6 = .int .i64 x6_1 ∧ Aside0 (contangoref08_Find.l0 kq l0 a1 x6_1 = some (r1, r2)) ∧ Aside0 (kq ≤ k) ∧ Drawn0 w w')
  case atStart => exact ⟨(0), (by first | rfl | (simp; done) | (simp [*]; done)), H', ⟨Nat.le_refl _⟩, by repeat (first | exact Drawn0.refl _ | apply Drawn0.step)⟩
  case round =>
    clear H'
    try clear p2
    obtain ⟨x6_1, rfl, HA, HK1, ⟨m1, rfl⟩⟩ := hrel
    cases gk with
    | zero => exact absurd HA.out (by simp [contangoref08_Find.l0])
    | succ k1 =>
      have H := HA.out
      clear HA
      simp only [contangoref08_Find.l0] at H
      by_cases c3 : x6_1 < (l0.length : Int)
      · rw [if_pos c3] at H
        have c3b0 : decide (x6_1 < (l0.length : Int)) = true := decide_eq_true c3
        clear c3
        (try simp only [c3b0])
        by_cases c4 : 0 ≤ x6_1
        · rw [if_pos c4] at H
          have c4b0 : decide (0 ≤ x6_1) = true := decide_eq_true c4
          clear c4
          have p174 : 0 ≤ (x6_1 : Int) := of_decide_eq_true (by first | (with_reducible assumption) | assumption)
          have q174 : x6_1 < (l0.length : Int) := of_decide_eq_true (by first | (with_reducible assumption) | assumption)
          obtain ⟨ad174, e174, hx174_0, hx174_1⟩ := at_T94 HR0.out x6_1 p174 q174
          cases e174
          replace p174 := eq_true p174
          replace q174 := eq_true q174
          go_upto_if 19 with (fail)
          by_cases c5 : ((rd_T94 l0 x6_1).f0).toList = a1.toList
          · rw [if_pos c5] at H
            have c5b0 : (((rd_T94 l0 x6_1).f0).toList == a1.toList) = true := beq_iff_eq.mpr c5
            have c5b1 : (((rd_T94 l0 x6_1).f0).toList != a1.toList) = false := bne_eq_false_iff_eq.mpr c5
            clear c5
            (try simp only [c5b0, c5b1])
            simp only [Option.some.injEq, Prod.mk.injEq] at H
            obtain ⟨rfl, rfl⟩ := H
            go_wp2
            go_ret2
            exact ⟨by first | rfl | (simp; done) | (simp [*]; done), by repeat (first | exact Drawn0.refl _ | apply Drawn0.step)⟩
          · rw [if_neg c5] at H
            have c5b0 : (((rd_T94 l0 x6_1).f0).toList == a1.toList) = false := beq_eq_false_iff_ne.mpr c5
            have c5b1 : (((rd_T94 l0 x6_1).f0).toList != a1.toList) = true := bne_iff_ne.mpr c5
            (try simp only [c5b0, c5b1])
            have H' := Aside0.mk H
            clear H
            go_wp2
            go_roundg k1
            case measure => have := HK1.out; omega
            case rel => exact ⟨(wrap64 (x6_1 + 1)), (by first | rfl | (simp; done) | (simp [*]; done)), H', ⟨by have := HK1.out; omega⟩, by repeat (first | exact Drawn0.refl _ | apply Drawn0.step)⟩
        · rw [if_neg c4] at H
          exact absurd H (by simp)
      · rw [if_neg c3] at H
        have c3b0 : decide (x6_1 < (l0.length : Int)) = false := decide_eq_false c3
        clear c3
        (try simp only [c3b0])
        simp only [Option.some.injEq, Prod.mk.injEq] at H
        obtain ⟨rfl, rfl⟩ := H
        go_wp2
        go_ret2
        exact ⟨by first | rfl | (simp; done) | (simp [*]; done), by repeat (first | exact Drawn0.refl _ | apply Drawn0.step)⟩
mutual
def contangoref08_Check.j0 : Nat → List (S94) → Bool → Option (Int)
  | 0, _, _ => none
  | k + 1, x0, x15 => if x15 = true then (some 8) else (contangoref08_Check.l0 k x0 0)
def contangoref08_Check.l0 : Nat → List (S94) → Int → Option (Int)
  | 0, _, _ => none
  | k + 1, x0, x3 => if x3 < (x0.length : Int) then (if 0 ≤ x3 then ((contangoref03_Name.f k ((rd_T94 x0 x3).f0)).bind fun t176 => (if t176 = true then (contangoref08_Check.l0 k x0 (wrap64 (x3 + 1))) else (some 10))) else (none)) else (contangoref08_Check.l1 k x0 0)
def contangoref08_Check.l1 : Nat → List (S94) → Int → Option (Int)
  | 0, _, _ => none
  | k + 1, x0, x4 => if x4 < (x0.length : Int) then (if 0 ≤ x4 then ((contangoref08_Find.f k x0 ((rd_T94 x0 x4).f0)).bind fun bt178 => (if bt178.1 = x4 then (contangoref08_Check.l1 k x0 (wrap64 (x4 + 1))) else (some 12))) else (none)) else (contangoref08_Check.l2 k x0 0)
def contangoref08_Check.l2 : Nat → List (S94) → Int → Option (Int)
  | 0, _, _ => none
  | k + 1, x0, x7 => if x7 < (x0.length : Int) then (if 0 ≤ x7 then (if ((rd_T94 x0 x7).f1) < 1 then (some 25) else (if ((rd_T94 x0 x7).f1) > 1000000000000 then (some 25) else (if x7 = 0 then (if ((rd_T94 x0 x7).f1) = 1000000 then (contangoref08_Check.l2 k x0 (wrap64 (x7 + 1))) else (some 25)) else (contangoref08_Check.l2 k x0 (wrap64 (x7 + 1)))))) else (none)) else (some 0)
end
def contangoref08_Check.f (k : Nat) (l0 : List (S94)) : Option (Int) := if (l0.length : Int) = 0 then (contangoref08_Check.j0 k l0 true) else (contangoref08_Check.j0 k l0 (decide ((l0.length : Int) > 8)))
theorem contangoref08_Check.mono_l : ∀ k, (∀ y0 y1, LeO (contangoref08_Check.j0 k y0 y1) (contangoref08_Check.j0 (k + 1) y0 y1)) ∧ (∀ y0 y1, LeO (contangoref08_Check.l0 k y0 y1) (contangoref08_Check.l0 (k + 1) y0 y1)) ∧ (∀ y0 y1, LeO (contangoref08_Check.l1 k y0 y1) (contangoref08_Check.l1 (k + 1) y0 y1)) ∧ (∀ y0 y1, LeO (contangoref08_Check.l2 k y0 y1) (contangoref08_Check.l2 (k + 1) y0 y1))
  | 0 => ⟨fun _ _ r h => by simp [contangoref08_Check.j0] at h, fun _ _ r h => by simp [contangoref08_Check.l0] at h, fun _ _ r h => by simp [contangoref08_Check.l1] at h, fun _ _ r h => by simp [contangoref08_Check.l2] at h⟩
  | k + 1 => by
    obtain ⟨ih0, ih1, ih2, ih3⟩ := contangoref08_Check.mono_l k
    refine ⟨?_, ?_, ?_, ?_⟩
    · intro y0 y1
      unfold contangoref08_Check.j0
      repeat' first
      | (with_reducible exact ih0 _ _)
      | (with_reducible exact ih1 _ _)
      | (with_reducible exact ih2 _ _)
      | (with_reducible exact ih3 _ _)
      | (with_reducible exact contangoref03_Name.mono _ _)
      | (with_reducible exact contangoref08_Find.mono _ _ _)
      | (with_reducible exact LeO.refl _)
      | (with_reducible exact LeO.none _)
      | (with_reducible refine LeO.ite ?_ ?_)
      | (with_reducible refine LeO.bind ?_ (fun _ => ?_))
      | exact ih0 _ _
      | exact ih1 _ _
      | exact ih2 _ _
      | exact ih3 _ _
      | exact contangoref03_Name.mono _ _
      | exact contangoref08_Find.mono _ _ _
      | exact LeO.none _
      | refine LeO.ite ?_ ?_
      | refine LeO.bind ?_ (fun _ => ?_)
    · intro y0 y1
      unfold contangoref08_Check.l0
      repeat' first
      | (with_reducible exact ih0 _ _)
      | (with_reducible exact ih1 _ _)
      | (with_reducible exact ih2 _ _)
      | (with_reducible exact ih3 _ _)
      | (with_reducible exact contangoref03_Name.mono _ _)
      | (with_reducible exact contangoref08_Find.mono _ _ _)
      | (with_reducible exact LeO.refl _)
      | (with_reducible exact LeO.none _)
      | (with_reducible refine LeO.ite ?_ ?_)
      | (with_reducible refine LeO.bind ?_ (fun _ => ?_))
      | exact ih0 _ _
      | exact ih1 _ _
      | exact ih2 _ _
      | exact ih3 _ _
      | exact contangoref03_Name.mono _ _
      | exact contangoref08_Find.mono _ _ _
      | exact LeO.none _
      | refine LeO.ite ?_ ?_
      | refine LeO.bind ?_ (fun _ => ?_)
    · intro y0 y1
      unfold contangoref08_Check.l1
      repeat' first
      | (with_reducible exact ih0 _ _)
      | (with_reducible exact ih1 _ _)
      | (with_reducible exact ih2 _ _)
      | (with_reducible exact ih3 _ _)
      | (with_reducible exact contangoref03_Name.mono _ _)
      | (with_reducible exact contangoref08_Find.mono _ _ _)
      | (with_reducible exact LeO.refl _)
      | (with_reducible exact LeO.none _)
      | (with_reducible refine LeO.ite ?_ ?_)
      | (with_reducible refine LeO.bind ?_ (fun _ => ?_))
      | exact ih0 _ _
      | exact ih1 _ _
      | exact ih2 _ _
      | exact ih3 _ _
      | exact contangoref03_Name.mono _ _
      | exact contangoref08_Find.mono _ _ _
      | exact LeO.none _
      | refine LeO.ite ?_ ?_
      | refine LeO.bind ?_ (fun _ => ?_)
    · intro y0 y1
      unfold contangoref08_Check.l2
      repeat' first
      | (with_reducible exact ih0 _ _)
      | (with_reducible exact ih1 _ _)
      | (with_reducible exact ih2 _ _)
      | (with_reducible exact ih3 _ _)
      | (with_reducible exact contangoref03_Name.mono _ _)
      | (with_reducible exact contangoref08_Find.mono _ _ _)
      | (with_reducible exact LeO.refl _)
      | (with_reducible exact LeO.none _)
      | (with_reducible refine LeO.ite ?_ ?_)
      | (with_reducible refine LeO.bind ?_ (fun _ => ?_))
      | exact ih0 _ _
      | exact ih1 _ _
      | exact ih2 _ _
      | exact ih3 _ _
      | exact contangoref03_Name.mono _ _
      | exact contangoref08_Find.mono _ _ _
      | exact LeO.none _
      | refine LeO.ite ?_ ?_
      | refine LeO.bind ?_ (fun _ => ?_)
theorem contangoref08_Check.mono : ∀ a0 k, LeO (contangoref08_Check.f k a0) (contangoref08_Check.f (k + 1) a0) := by
  intro a0 k
  obtain ⟨ih0, ih1, ih2, ih3⟩ := contangoref08_Check.mono_l k
  unfold contangoref08_Check.f
  repeat' first
      | (with_reducible exact ih0 _ _)
      | (with_reducible exact ih1 _ _)
      | (with_reducible exact ih2 _ _)
      | (with_reducible exact ih3 _ _)
      | (with_reducible exact contangoref03_Name.mono _ _)
      | (with_reducible exact contangoref08_Find.mono _ _ _)
      | (with_reducible exact LeO.refl _)
      | (with_reducible exact LeO.none _)
      | (with_reducible refine LeO.ite ?_ ?_)
      | (with_reducible refine LeO.bind ?_ (fun _ => ?_))
      | exact ih0 _ _
      | exact ih1 _ _
      | exact ih2 _ _
      | exact ih3 _ _
      | exact contangoref03_Name.mono _ _
      | exact contangoref08_Find.mono _ _ _
      | exact LeO.none _
      | refine LeO.ite ?_ ?_
      | refine LeO.bind ?_ (fun _ => ?_)
set_option maxHeartbeats 8000000 in
set_option maxRecDepth 100000 in
theorem contangoref08_Check.calls (k : Nat) (A0 : Option Addr) (c0 : Nat) (l0 : List (S94)) (r : Int) (w : World) (hr0 : Kd.C k94 w A0 l0.length l0) (hc0 : l0.length ≤ c0) (h : contangoref08_Check.f k l0 = some r) :
    Calls Try.prog 22 #[.slice A0 l0.length c0] w fun e w' => e = .returned (.int .i64 r) ∧ Drawn0 w w' := by
  have HR0 := Aside0.mk hr0
  have HC0 := Aside0.mk hc0
  clear hr0 hc0
  have H : (if (l0.length : Int) = 0 then (contangoref08_Check.j0 k l0 true) else (contangoref08_Check.j0 k l0 (decide ((l0.length : Int) > 8)))) = some r := h
  clear h
  have HC2 := Aside0.mk H
  clear H
  go_enter Try.func22, Try.ntmps22
  go_upto_region 1 with (fail)
  go_cut [15] (fun v15 wc => ∃ (kq : Nat) (x15_1 : Bool), v15 = .bool x15_1 ∧ Aside0 (contangoref08_Check.j0 kq l0 x15_1 = some r) ∧ Aside0 (kq ≤ k) ∧ Drawn0 w wc)
  case first =>
    have H := HC2.out
    clear HC2
    by_cases c3 : (l0.length : Int) = 0
    · rw [if_pos c3] at H
      have c3b0 : ((l0.length : Int) == 0) = true := beq_iff_eq.mpr c3
      have c3b1 : ((l0.length : Int) != 0) = false := bne_eq_false_iff_eq.mpr c3
      clear c3
      have H' := Aside0.mk H
      clear H
      go_wp2
      go_meet
      case rel => exact ⟨_, (true), (by first | rfl | (simp; done) | (simp [*]; done)), H', ⟨by first | omega | exact Nat.le_refl _⟩, by repeat (first | exact Drawn0.refl _ | apply Drawn0.step)⟩
    · rw [if_neg c3] at H
      have c3b0 : ((l0.length : Int) == 0) = false := beq_eq_false_iff_ne.mpr c3
      have c3b1 : ((l0.length : Int) != 0) = true := bne_iff_ne.mpr c3
      have c3b2 : ¬ (l0 = []) := fun h_ => c3 (by rw [h_]; rfl)
      have H' := Aside0.mk H
      clear H
      go_wp2
      go_meet
      case rel => exact ⟨_, (decide ((l0.length : Int) > 8)), (by first | rfl | (simp; done) | (simp [*]; done)), H', ⟨by first | omega | exact Nat.le_refl _⟩, by repeat (first | exact Drawn0.refl _ | apply Drawn0.step)⟩
  case rest =>
    clear HC2
    try clear c2
    try clear p2
    try clear c3
    try clear c3b0
    try clear c3b1
    try clear c3b2
    obtain ⟨kq, x15_1, rfl, HA, HJ1, ⟨mc1, rfl⟩⟩ := hcut
    cases kq with
    | zero => exact absurd HA.out (by simp [contangoref08_Check.j0])
    | succ kj1 =>
      have H := HA.out
      clear HA
      simp only [contangoref08_Check.j0] at H
      by_cases c4 : x15_1 = true
      · subst c4
        have H1 : (some 8) = some r := by rw [if_pos rfl] at H; exact H
        clear H
        have H := H1
        clear H1
        obtain rfl := Option.some.inj H
        go_wp2
        go_ret
        exact ⟨by first | rfl | (simp; done) | (simp [*]; done), by repeat (first | exact Drawn0.refl _ | apply Drawn0.step)⟩
      · replace c4 := Bool.eq_false_iff.mpr c4
        subst c4
        have H1 : (contangoref08_Check.l0 kj1 l0 0) = some r := by rw [if_neg (show ¬ (false = true) by decide)] at H; exact H
        clear H
        have H := H1
        clear H1
        have H' := Aside0.mk H
        clear H
        go_wp2
        go_loopg [3] kj1 (fun kq v3 w' => ∃ (x3_2 : Int), v3 = .int .i64 x3_2 ∧ Aside0 (contangoref08_Check.l0 kq l0 x3_2 = some r) ∧ Aside0 (kq ≤ kj1) ∧ Drawn0 w w')
        case atStart => exact ⟨(0), (by first | rfl | (simp; done) | (simp [*]; done)), H', ⟨Nat.le_refl _⟩, by repeat (first | exact Drawn0.refl _ | apply Drawn0.step)⟩
        case round =>
          clear H'
          try clear c1
          try clear c2
          try clear p2
          try clear c3
          try clear c3b0
          try clear c3b1
          try clear c3b2
          try clear c4
          try clear p2
          obtain ⟨x3_2, rfl, HA, HK2, ⟨m2, rfl⟩⟩ := hrel
          cases gk with
          | zero => exact absurd HA.out (by simp [contangoref08_Check.l0])
          | succ k2 =>
            have H := HA.out
            clear HA
            simp only [contangoref08_Check.l0] at H
            by_cases c5 : x3_2 < (l0.length : Int)
            · rw [if_pos c5] at H
              have c5b0 : decide (x3_2 < (l0.length : Int)) = true := decide_eq_true c5
              clear c5
              (try simp only [c5b0])
              by_cases c6 : 0 ≤ x3_2
              · rw [if_pos c6] at H
                have c6b0 : decide (0 ≤ x3_2) = true := decide_eq_true c6
                clear c6
                replace H := Option.bind_eq_some_iff.mp H
                obtain ⟨t176, A70, H⟩ := H
                replace H : (if t176 = true then (contangoref08_Check.l0 k2 l0 (wrap64 (x3_2 + 1))) else (some 10)) = some r := H
                have A7 := Aside0.mk A70
                clear A70
                have p175 : 0 ≤ (x3_2 : Int) := of_decide_eq_true (by first | (with_reducible assumption) | assumption)
                have q175 : x3_2 < (l0.length : Int) := of_decide_eq_true (by first | (with_reducible assumption) | assumption)
                obtain ⟨ad175, e175, hx175_0, hx175_1⟩ := at_T94 HR0.out x3_2 p175 q175
                cases e175
                replace p175 := eq_true p175
                replace q175 := eq_true q175
                go_upto_if 28 with (first | ((with_reducible refine gate_callee (f := 60) rfl ?_); refine goesL_ (some 27) rfl rfl Try.func60 (by kernel_rfl) rfl #[.string ((rd_T94 l0 x3_2).f0)] rfl (by (try simp only [List.map_toArray, List.map_cons, List.map_nil]); first | done | rfl | (simp only [List.length_drop, List.length_take]; rfl)) ?_; (with_reducible refine (contangoref03_Name.calls k2 ((rd_T94 l0 x3_2).f0) t176 _ A7.out).mono ?_); rintro e w' ⟨rfl, ⟨nd, rfl⟩⟩; refine ⟨_, rfl, ?_⟩))
                (try simp only [Act.put, List.setIfInBounds_toArray, List.set_cons_zero, List.set_cons_succ])
                by_cases c8 : t176 = true
                · subst c8
                  have H1 : (contangoref08_Check.l0 k2 l0 (wrap64 (x3_2 + 1))) = some r := by rw [if_pos rfl] at H; exact H
                  clear H
                  have H := H1
                  clear H1
                  have H' := Aside0.mk H
                  clear H
                  go_wp2
                  go_roundg k2
                  case measure => have := HJ1.out; have := HK2.out; omega
                  case rel => exact ⟨(wrap64 (x3_2 + 1)), (by first | rfl | (simp; done) | (simp [*]; done)), H', ⟨by have := HJ1.out; have := HK2.out; omega⟩, by repeat (first | exact Drawn0.refl _ | apply Drawn0.step)⟩
                · replace c8 := Bool.eq_false_iff.mpr c8
                  subst c8
                  have H1 : (some 10) = some r := by rw [if_neg (show ¬ (false = true) by decide)] at H; exact H
                  clear H
                  have H := H1
                  clear H1
                  obtain rfl := Option.some.inj H
                  go_wp2
                  go_ret
                  exact ⟨by first | rfl | (simp; done) | (simp [*]; done), by repeat (first | exact Drawn0.refl _ | apply Drawn0.step)⟩
              · rw [if_neg c6] at H
                exact absurd H (by simp)
            · rw [if_neg c5] at H
              have c5b0 : decide (x3_2 < (l0.length : Int)) = false := decide_eq_false c5
              clear c5
              (try simp only [c5b0])
              have H' := Aside0.mk H
              clear H
              go_wp2
              go_loopg [4] k2 (fun kq v4 w' => ∃ (x4_3 : Int), v4 = .int .i64 x4_3 ∧ Aside0 (contangoref08_Check.l1 kq l0 x4_3 = some r) ∧ Aside0 (kq ≤ k2) ∧ Drawn0 w w')
              case atStart => exact ⟨(0), (by first | rfl | (simp; done) | (simp [*]; done)), H', ⟨Nat.le_refl _⟩, by repeat (first | exact Drawn0.refl _ | apply Drawn0.step)⟩
              case round =>
                clear H'
                try clear c1
                try clear p1
                try clear q1
                try clear hx1
                try clear c2
                try clear p2
                try clear c3
                try clear c3b0
                try clear c3b1
                try clear c3b2
                try clear c4
                try clear c5
                try clear c5b0
                try clear c6
                try clear c6b0
                try clear p6
                try clear c8
                try clear hx175_0
                try clear hx175_1
                try clear p175
                try clear p2
                try clear q175
                obtain ⟨x4_3, rfl, HA, HK3, ⟨m3, rfl⟩⟩ := hrel
                cases gk with
                | zero => exact absurd HA.out (by simp [contangoref08_Check.l1])
                | succ k3 =>
                  have H := HA.out
                  clear HA
                  simp only [contangoref08_Check.l1] at H
                  by_cases c9 : x4_3 < (l0.length : Int)
                  · rw [if_pos c9] at H
                    have c9b0 : decide (x4_3 < (l0.length : Int)) = true := decide_eq_true c9
                    clear c9
                    (try simp only [c9b0])
                    by_cases c10 : 0 ≤ x4_3
                    · rw [if_pos c10] at H
                      have c10b0 : decide (0 ≤ x4_3) = true := decide_eq_true c10
                      clear c10
                      replace H := Option.bind_eq_some_iff.mp H
                      obtain ⟨⟨t178, t179⟩, A110, H⟩ := H
                      replace H : (if t178 = x4_3 then (contangoref08_Check.l1 k3 l0 (wrap64 (x4_3 + 1))) else (some 12)) = some r := H
                      have A11 := Aside0.mk A110
                      clear A110
                      have p177 : 0 ≤ (x4_3 : Int) := of_decide_eq_true (by first | (with_reducible assumption) | assumption)
                      have q177 : x4_3 < (l0.length : Int) := of_decide_eq_true (by first | (with_reducible assumption) | assumption)
                      obtain ⟨ad177, e177, hx177_0, hx177_1⟩ := at_T94 HR0.out x4_3 p177 q177
                      cases e177
                      replace p177 := eq_true p177
                      replace q177 := eq_true q177
                      go_upto_if 47 with (first | ((with_reducible refine gate_callee (f := 61) rfl ?_); refine goesL_ (some 42) rfl rfl Try.func61 (by kernel_rfl) rfl #[.slice (some ad177) l0.length c0, .string ((rd_T94 l0 x4_3).f0)] rfl (by (try simp only [List.map_toArray, List.map_cons, List.map_nil]); first | done | rfl | (simp only [List.length_drop, List.length_take]; rfl)) ?_; (with_reducible refine (contangoref08_Find.calls k3 _ _ l0 ((rd_T94 l0 x4_3).f0) t178 t179 _ ?side1 ?side2 A11.out).mono ?_); (case side1 => repeat (first | exact HR0.out | (with_reducible refine Kd.C_alloc ?_ _) | (with_reducible refine Kd.C_drewN ?_ _) | (with_reducible refine Kd.C_drew ?_))); (case side2 => exact HC0.out); rintro e w' ⟨rfl, ⟨nd, rfl⟩⟩; refine ⟨_, rfl, ?_⟩))
                      (try simp only [Act.put, List.setIfInBounds_toArray, List.set_cons_zero, List.set_cons_succ])
                      by_cases c12 : t178 = x4_3
                      · rw [if_pos c12] at H
                        have c12b0 : (t178 == x4_3) = true := beq_iff_eq.mpr c12
                        have c12b1 : (t178 != x4_3) = false := bne_eq_false_iff_eq.mpr c12
                        clear c12
                        (try simp only [c12b0, c12b1])
                        have H' := Aside0.mk H
                        clear H
                        go_wp2
                        go_roundg k3
                        case measure => have := HJ1.out; have := HK2.out; have := HK3.out; omega
                        case rel => exact ⟨(wrap64 (x4_3 + 1)), (by first | rfl | (simp; done) | (simp [*]; done)), H', ⟨by have := HJ1.out; have := HK2.out; have := HK3.out; omega⟩, by repeat (first | exact Drawn0.refl _ | apply Drawn0.step)⟩
                      · rw [if_neg c12] at H
                        have c12b0 : (t178 == x4_3) = false := beq_eq_false_iff_ne.mpr c12
                        have c12b1 : (t178 != x4_3) = true := bne_iff_ne.mpr c12
                        (try simp only [c12b0, c12b1])
                        obtain rfl := Option.some.inj H
                        go_wp2
                        go_ret
                        exact ⟨by first | rfl | (simp; done) | (simp [*]; done), by repeat (first | exact Drawn0.refl _ | apply Drawn0.step)⟩
                    · rw [if_neg c10] at H
                      exact absurd H (by simp)
                  · rw [if_neg c9] at H
                    have c9b0 : decide (x4_3 < (l0.length : Int)) = false := decide_eq_false c9
                    clear c9
                    (try simp only [c9b0])
                    have H' := Aside0.mk H
                    clear H
                    go_wp2
                    go_loopg [7] k3 (fun kq v7 w' => ∃ (x7_4 : Int), v7 = .int .i64 x7_4 ∧ Aside0 (contangoref08_Check.l2 kq l0 x7_4 = some r) ∧ Aside0 (kq ≤ k3) ∧ Drawn0 w w')
                    case atStart => exact ⟨(0), (by first | rfl | (simp; done) | (simp [*]; done)), H', ⟨Nat.le_refl _⟩, by repeat (first | exact Drawn0.refl _ | apply Drawn0.step)⟩
                    case round =>
                      clear H'
                      try clear c1
                      try clear p1
                      try clear q1
                      try clear hx1
                      try clear c2
                      try clear p2
                      try clear c3
                      try clear c3b0
                      try clear c3b1
                      try clear c3b2
                      try clear c4
                      try clear c5
                      try clear c5b0
                      try clear c6
                      try clear c6b0
                      try clear p6
                      try clear c8
                      try clear c9
                      try clear c9b0
                      try clear c10
                      try clear c10b0
                      try clear c12
                      try clear c12b0
                      try clear c12b1
                      try clear hx175_0
                      try clear hx175_1
                      try clear hx177_0
                      try clear hx177_1
                      try clear p1
                      try clear p175
                      try clear p177
                      try clear p2
                      try clear p6
                      try clear q1
                      try clear q175
                      try clear q177
                      obtain ⟨x7_4, rfl, HA, HK4, ⟨m4, rfl⟩⟩ := hrel
                      cases gk with
                      | zero => exact absurd HA.out (by simp [contangoref08_Check.l2])
                      | succ k4 =>
                        have H := HA.out
                        clear HA
                        simp only [contangoref08_Check.l2] at H
                        by_cases c13 : x7_4 < (l0.length : Int)
                        · rw [if_pos c13] at H
                          have c13b0 : decide (x7_4 < (l0.length : Int)) = true := decide_eq_true c13
                          clear c13
                          (try simp only [c13b0])
                          by_cases c14 : 0 ≤ x7_4
                          · rw [if_pos c14] at H
                            have c14b0 : decide (0 ≤ x7_4) = true := decide_eq_true c14
                            clear c14
                            by_cases c15 : ((rd_T94 l0 x7_4).f1) < 1
                            · rw [if_pos c15] at H
                              have c15b0 : decide (((rd_T94 l0 x7_4).f1) < 1) = true := decide_eq_true c15
                              clear c15
                              obtain rfl := Option.some.inj H
                              have p180 : 0 ≤ (x7_4 : Int) := of_decide_eq_true (by first | (with_reducible assumption) | assumption)
                              have q180 : x7_4 < (l0.length : Int) := of_decide_eq_true (by first | (with_reducible assumption) | assumption)
                              obtain ⟨ad180, e180, hx180_0, hx180_1⟩ := at_T94 HR0.out x7_4 p180 q180
                              cases e180
                              replace p180 := eq_true p180
                              replace q180 := eq_true q180
                              go_wp2
                              go_ret
                              exact ⟨by first | rfl | (simp; done) | (simp [*]; done), by repeat (first | exact Drawn0.refl _ | apply Drawn0.step)⟩
                            · rw [if_neg c15] at H
                              have c15b0 : decide (((rd_T94 l0 x7_4).f1) < 1) = false := decide_eq_false c15
                              clear c15
                              by_cases c16 : ((rd_T94 l0 x7_4).f1) > 1000000000000
                              · rw [if_pos c16] at H
                                have c16b0 : decide (1000000000000 < ((rd_T94 l0 x7_4).f1)) = true := decide_eq_true c16
                                clear c16
                                obtain rfl := Option.some.inj H
                                have p180 : 0 ≤ (x7_4 : Int) := of_decide_eq_true (by first | (with_reducible assumption) | assumption)
                                have q180 : x7_4 < (l0.length : Int) := of_decide_eq_true (by first | (with_reducible assumption) | assumption)
                                obtain ⟨ad180, e180, hx180_0, hx180_1⟩ := at_T94 HR0.out x7_4 p180 q180
                                cases e180
                                replace p180 := eq_true p180
                                replace q180 := eq_true q180
                                have p181 : 0 ≤ (x7_4 : Int) := of_decide_eq_true (by first | (with_reducible assumption) | assumption)
                                have q181 : x7_4 < (l0.length : Int) := of_decide_eq_true (by first | (with_reducible assumption) | assumption)
                                obtain ⟨ad181, e181, hx181_0, hx181_1⟩ := at_T94 HR0.out x7_4 p181 q181
                                obtain rfl : ad180 = ad181 := (by injection e181)
                                replace p181 := eq_true p181
                                replace q181 := eq_true q181
                                go_wp2
                                go_ret
                                exact ⟨by first | rfl | (simp; done) | (simp [*]; done), by repeat (first | exact Drawn0.refl _ | apply Drawn0.step)⟩
                              · rw [if_neg c16] at H
                                have c16b0 : decide (1000000000000 < ((rd_T94 l0 x7_4).f1)) = false := decide_eq_false c16
                                clear c16
                                by_cases c17 : x7_4 = 0
                                · rw [if_pos c17] at H
                                  have c17b0 : (x7_4 == 0) = true := beq_iff_eq.mpr c17
                                  have c17b1 : (x7_4 != 0) = false := bne_eq_false_iff_eq.mpr c17
                                  clear c17
                                  have p180 : 0 ≤ (x7_4 : Int) := of_decide_eq_true (by first | (with_reducible assumption) | assumption)
                                  have q180 : x7_4 < (l0.length : Int) := of_decide_eq_true (by first | (with_reducible assumption) | assumption)
                                  obtain ⟨ad180, e180, hx180_0, hx180_1⟩ := at_T94 HR0.out x7_4 p180 q180
                                  cases e180
                                  replace p180 := eq_true p180
                                  replace q180 := eq_true q180
                                  have p181 : 0 ≤ (x7_4 : Int) := of_decide_eq_true (by first | (with_reducible assumption) | assumption)
                                  have q181 : x7_4 < (l0.length : Int) := of_decide_eq_true (by first | (with_reducible assumption) | assumption)
                                  obtain ⟨ad181, e181, hx181_0, hx181_1⟩ := at_T94 HR0.out x7_4 p181 q181
                                  obtain rfl : ad180 = ad181 := (by injection e181)
                                  replace p181 := eq_true p181
                                  replace q181 := eq_true q181
                                  have p182 : 0 ≤ (x7_4 : Int) := of_decide_eq_true (by first | (with_reducible assumption) | assumption)
                                  have q182 : x7_4 < (l0.length : Int) := of_decide_eq_true (by first | (with_reducible assumption) | assumption)
                                  obtain ⟨ad182, e182, hx182_0, hx182_1⟩ := at_T94 HR0.out x7_4 p182 q182
                                  obtain rfl : ad180 = ad182 := (by injection e182)
                                  replace p182 := eq_true p182
                                  replace q182 := eq_true q182
                                  go_upto_if 79 with (fail)
                                  by_cases c18 : ((rd_T94 l0 x7_4).f1) = 1000000
                                  · rw [if_pos c18] at H
                                    have c18b0 : (((rd_T94 l0 x7_4).f1) == 1000000) = true := beq_iff_eq.mpr c18
                                    have c18b1 : (((rd_T94 l0 x7_4).f1) != 1000000) = false := bne_eq_false_iff_eq.mpr c18
                                    clear c18
                                    (try simp only [c18b0, c18b1])
                                    have H' := Aside0.mk H
                                    clear H
                                    go_wp2
                                    go_roundg k4
                                    case measure => have := HJ1.out; have := HK2.out; have := HK3.out; have := HK4.out; omega
                                    case rel => exact ⟨(wrap64 (x7_4 + 1)), (by first | rfl | (simp; done) | (simp [*]; done)), H', ⟨by have := HJ1.out; have := HK2.out; have := HK3.out; have := HK4.out; omega⟩, by repeat (first | exact Drawn0.refl _ | apply Drawn0.step)⟩
                                  · rw [if_neg c18] at H
                                    have c18b0 : (((rd_T94 l0 x7_4).f1) == 1000000) = false := beq_eq_false_iff_ne.mpr c18
                                    have c18b1 : (((rd_T94 l0 x7_4).f1) != 1000000) = true := bne_iff_ne.mpr c18
                                    (try simp only [c18b0, c18b1])
                                    obtain rfl := Option.some.inj H
                                    go_wp2
                                    go_ret
                                    exact ⟨by first | rfl | (simp; done) | (simp [*]; done), by repeat (first | exact Drawn0.refl _ | apply Drawn0.step)⟩
                                · rw [if_neg c17] at H
                                  have c17b0 : (x7_4 == 0) = false := beq_eq_false_iff_ne.mpr c17
                                  have c17b1 : (x7_4 != 0) = true := bne_iff_ne.mpr c17
                                  have H' := Aside0.mk H
                                  clear H
                                  have p180 : 0 ≤ (x7_4 : Int) := of_decide_eq_true (by first | (with_reducible assumption) | assumption)
                                  have q180 : x7_4 < (l0.length : Int) := of_decide_eq_true (by first | (with_reducible assumption) | assumption)
                                  obtain ⟨ad180, e180, hx180_0, hx180_1⟩ := at_T94 HR0.out x7_4 p180 q180
                                  cases e180
                                  replace p180 := eq_true p180
                                  replace q180 := eq_true q180
                                  have p181 : 0 ≤ (x7_4 : Int) := of_decide_eq_true (by first | (with_reducible assumption) | assumption)
                                  have q181 : x7_4 < (l0.length : Int) := of_decide_eq_true (by first | (with_reducible assumption) | assumption)
                                  obtain ⟨ad181, e181, hx181_0, hx181_1⟩ := at_T94 HR0.out x7_4 p181 q181
                                  obtain rfl : ad180 = ad181 := (by injection e181)
                                  replace p181 := eq_true p181
                                  replace q181 := eq_true q181
                                  go_wp2
                                  go_roundg k4
                                  case measure => have := HJ1.out; have := HK2.out; have := HK3.out; have := HK4.out; omega
                                  case rel => exact ⟨(wrap64 (x7_4 + 1)), (by first | rfl | (simp; done) | (simp [*]; done)), H', ⟨by have := HJ1.out; have := HK2.out; have := HK3.out; have := HK4.out; omega⟩, by repeat (first | exact Drawn0.refl _ | apply Drawn0.step)⟩
                          · rw [if_neg c14] at H
                            exact absurd H (by simp)
                        · rw [if_neg c13] at H
                          have c13b0 : decide (x7_4 < (l0.length : Int)) = false := decide_eq_false c13
                          clear c13
                          (try simp only [c13b0])
                          obtain rfl := Option.some.inj H
                          go_wp2
                          go_ret
                          exact ⟨by first | rfl | (simp; done) | (simp [*]; done), by repeat (first | exact Drawn0.refl _ | apply Drawn0.step)⟩
def contangoref08_Convert.f (k : Nat) (l0 : List (S94)) (a1 : Int) (a2 : Int) (a3 : Int) (a4 : Int) : Option (Int × Int) := (contangoref08_Check.f k l0).bind fun t183 => (if t183 = 0 then (if a2 < 0 then (some (0, 25)) else (if a3 < 0 then (some (0, 25)) else (if a2 ≥ (l0.length : Int) then (some (0, 25)) else (if a3 ≥ (l0.length : Int) then (some (0, 25)) else (if 0 ≤ a2 then (if a2 < (l0.length : Int) then (if 0 ≤ a3 then (if a3 < (l0.length : Int) then ((contangoref01_MulDiv.f a1 ((rd_T94 l0 a2).f1) ((rd_T94 l0 a3).f1) a4).bind fun bt186 => (some (bt186.1, bt186.2))) else (none)) else (none)) else (none)) else (none)))))) else (some (0, t183)))
theorem contangoref08_Convert.mono : ∀ a0 a1 a2 a3 a4 k, LeO (contangoref08_Convert.f k a0 a1 a2 a3 a4) (contangoref08_Convert.f (k + 1) a0 a1 a2 a3 a4) := by
  intro a0 a1 a2 a3 a4 k
  unfold contangoref08_Convert.f
  repeat' first
      | (with_reducible exact contangoref08_Check.mono _ _)
      | (with_reducible exact LeO.refl _)
      | (with_reducible exact LeO.none _)
      | (with_reducible refine LeO.ite ?_ ?_)
      | (with_reducible refine LeO.bind ?_ (fun _ => ?_))
      | exact contangoref08_Check.mono _ _
      | exact LeO.none _
      | refine LeO.ite ?_ ?_
      | refine LeO.bind ?_ (fun _ => ?_)
def contangoref08_Convert.T6 : Bool × List (List Nat × List Nat) := (true, [([], []), ([], []), ([], []), ([1, 2], [1, 2]), ([3], [3]), ([4], [4]), ([], []), ([], []), ([6, 7], [6, 7]), ([8], [8]), ([9], [9]), ([], []), ([0, 5, 10, 11], [0, 5, 10, 11]), ([12], [12]), ([12], [12]), ([13, 12, 0, 1, 2, 3, 4, 5, 6, 7, 8, 9, 10, 11, 12, 13, 14], [13]), ([14, 15, 0, 1, 2, 3, 4, 5, 6, 7, 8, 9, 10, 11, 12, 13, 14, 15], [14])])
def contangoref08_Convert.B6 : List Nat := [0, 0, 0, 6, 14, 30, 0, 0, 192, 448, 960, 0, 4095, 8191, 8191, 32767, 65535]
theorem contangoref08_Convert.tab6 : rtab .any (opsOf Try.f95 6) = contangoref08_Convert.T6 := by kernel_rfl
theorem contangoref08_Convert.bits6 : waitsOk contangoref08_Convert.T6.2 contangoref08_Convert.B6 = true := by kernel_rfl
set_option maxHeartbeats 8000000 in
set_option maxRecDepth 100000 in
theorem contangoref08_Convert.calls (k : Nat) (A0 : Option Addr) (c0 : Nat) (l0 : List (S94)) (a1 : Int) (a2 : Int) (a3 : Int) (a4 : Int) (r1 : Int) (r2 : Int) (w : World) (hr0 : Kd.C k94 w A0 l0.length l0) (hc0 : l0.length ≤ c0) (h : contangoref08_Convert.f k l0 a1 a2 a3 a4 = some (r1, r2)) :
    Calls Try.prog 95 #[.slice A0 l0.length c0, .int .i64 a1, .int .i64 a2, .int .i64 a3, .int .i64 a4] w fun e w' => e = .returned (.tuple #[.int .i64 r1, .int .i64 r2]) ∧ Below w.heap.size w w' := by
  have HR0 := Aside0.mk hr0
  have HC0 := Aside0.mk hc0
  clear hr0 hc0
  have HB := Aside0.mk (Below.refl w.heap.size w)
  have H : ((contangoref08_Check.f k l0).bind fun t183 => (if t183 = 0 then (if a2 < 0 then (some (0, 25)) else (if a3 < 0 then (some (0, 25)) else (if a2 ≥ (l0.length : Int) then (some (0, 25)) else (if a3 ≥ (l0.length : Int) then (some (0, 25)) else (if 0 ≤ a2 then (if a2 < (l0.length : Int) then (if 0 ≤ a3 then (if a3 < (l0.length : Int) then ((contangoref01_MulDiv.f a1 ((rd_T94 l0 a2).f1) ((rd_T94 l0 a3).f1) a4).bind fun bt186 => (some (bt186.1, bt186.2))) else (none)) else (none)) else (none)) else (none)))))) else (some (0, t183)))) = some (r1, r2) := h
  clear h
  replace H := Option.bind_eq_some_iff.mp H
  obtain ⟨t183, A60, H⟩ := H
  replace H : (if t183 = 0 then (if a2 < 0 then (some (0, 25)) else (if a3 < 0 then (some (0, 25)) else (if a2 ≥ (l0.length : Int) then (some (0, 25)) else (if a3 ≥ (l0.length : Int) then (some (0, 25)) else (if 0 ≤ a2 then (if a2 < (l0.length : Int) then (if 0 ≤ a3 then (if a3 < (l0.length : Int) then ((contangoref01_MulDiv.f a1 ((rd_T94 l0 a2).f1) ((rd_T94 l0 a3).f1) a4).bind fun bt186 => (some (bt186.1, bt186.2))) else (none)) else (none)) else (none)) else (none)))))) else (some (0, t183))) = some (r1, r2) := H
  have A6 := Aside0.mk A60
  clear A60
  go_enter Try.func95, Try.ntmps95
  go_upto_if 16 with (first | ((with_reducible refine gate_callee (f := 22) rfl ?_); refine goesL_ (some 14) rfl rfl Try.func22 (by kernel_rfl) rfl #[.slice A0 l0.length c0] rfl (by (try simp only [List.map_toArray, List.map_cons, List.map_nil]); first | done | rfl | (simp only [List.length_drop, List.length_take]; rfl)) ?_; (with_reducible refine (contangoref08_Check.calls k _ _ l0 t183 _ ?side1 ?side2 A6.out).mono ?_); (case side1 => repeat (first | exact HR0.out | (with_reducible refine Kd.C_alloc ?_ _) | (with_reducible refine Kd.C_drewN ?_ _) | (with_reducible refine Kd.C_drew ?_))); (case side2 => exact HC0.out); rintro e w' ⟨rfl, ⟨nd, rfl⟩⟩; refine ⟨_, rfl, ?_⟩))
  (try simp only [Act.put, List.setIfInBounds_toArray, List.set_cons_zero, List.set_cons_succ])
  by_cases c7 : t183 = 0
  · rw [if_pos c7] at H
    have c7b0 : (t183 == 0) = true := beq_iff_eq.mpr c7
    have c7b1 : (t183 != 0) = false := bne_eq_false_iff_eq.mpr c7
    clear c7
    (try simp only [c7b0, c7b1])
    by_cases c8 : a2 < 0
    · rw [if_pos c8] at H
      have c8b0 : decide (a2 < 0) = true := decide_eq_true c8
      clear c8
      simp only [Option.some.injEq, Prod.mk.injEq] at H
      obtain ⟨rfl, rfl⟩ := H
      go_wp2
      go_ret2
      exact ⟨by first | rfl | (simp [errW_none, errW_some] <;> rfl) | (simp [*, errW_none, errW_some] <;> rfl), by repeat (first | (with_reducible first | exact HB.out | apply below_alloc | apply pw_below_drewN | apply below_drew1 | exact Below.refl _ _) | exact HB.out)⟩
    · rw [if_neg c8] at H
      have c8b0 : decide (a2 < 0) = false := decide_eq_false c8
      clear c8
      by_cases c9 : a3 < 0
      · rw [if_pos c9] at H
        have c9b0 : decide (a3 < 0) = true := decide_eq_true c9
        clear c9
        simp only [Option.some.injEq, Prod.mk.injEq] at H
        obtain ⟨rfl, rfl⟩ := H
        go_wp2
        go_ret2
        exact ⟨by first | rfl | (simp [errW_none, errW_some] <;> rfl) | (simp [*, errW_none, errW_some] <;> rfl), by repeat (first | (with_reducible first | exact HB.out | apply below_alloc | apply pw_below_drewN | apply below_drew1 | exact Below.refl _ _) | exact HB.out)⟩
      · rw [if_neg c9] at H
        have c9b0 : decide (a3 < 0) = false := decide_eq_false c9
        clear c9
        by_cases c10 : a2 ≥ (l0.length : Int)
        · rw [if_pos c10] at H
          have c10b0 : decide ((l0.length : Int) ≤ a2) = true := decide_eq_true c10
          clear c10
          simp only [Option.some.injEq, Prod.mk.injEq] at H
          obtain ⟨rfl, rfl⟩ := H
          go_wp2
          go_ret2
          exact ⟨by first | rfl | (simp [errW_none, errW_some] <;> rfl) | (simp [*, errW_none, errW_some] <;> rfl), by repeat (first | (with_reducible first | exact HB.out | apply below_alloc | apply pw_below_drewN | apply below_drew1 | exact Below.refl _ _) | exact HB.out)⟩
        · rw [if_neg c10] at H
          have c10b0 : decide ((l0.length : Int) ≤ a2) = false := decide_eq_false c10
          clear c10
          by_cases c11 : a3 ≥ (l0.length : Int)
          · rw [if_pos c11] at H
            have c11b0 : decide ((l0.length : Int) ≤ a3) = true := decide_eq_true c11
            clear c11
            (try simp only [c11b0])
            simp only [Option.some.injEq, Prod.mk.injEq] at H
            obtain ⟨rfl, rfl⟩ := H
            go_wp2
            go_ret2
            exact ⟨by first | rfl | (simp [errW_none, errW_some] <;> rfl) | (simp [*, errW_none, errW_some] <;> rfl), by repeat (first | (with_reducible first | exact HB.out | apply below_alloc | apply pw_below_drewN | apply below_drew1 | exact Below.refl _ _) | exact HB.out)⟩
          · rw [if_neg c11] at H
            have c11b0 : decide ((l0.length : Int) ≤ a3) = false := decide_eq_false c11
            clear c11
            (try simp only [c11b0])
            by_cases c12 : 0 ≤ a2
            · rw [if_pos c12] at H
              have c12b0 : decide (0 ≤ a2) = true := decide_eq_true c12
              clear c12
              by_cases c13 : a2 < (l0.length : Int)
              · rw [if_pos c13] at H
                have c13b0 : decide (a2 < (l0.length : Int)) = true := decide_eq_true c13
                clear c13
                by_cases c14 : 0 ≤ a3
                · rw [if_pos c14] at H
                  have c14b0 : decide (0 ≤ a3) = true := decide_eq_true c14
                  clear c14
                  by_cases c15 : a3 < (l0.length : Int)
                  · rw [if_pos c15] at H
                    have c15b0 : decide (a3 < (l0.length : Int)) = true := decide_eq_true c15
                    clear c15
                    replace H := Option.bind_eq_some_iff.mp H
                    obtain ⟨⟨t186, t187⟩, A160, H⟩ := H
                    replace H : (some (t186, t187)) = some (r1, r2) := H
                    have A16 := Aside0.mk A160
                    clear A160
                    simp only [Option.some.injEq, Prod.mk.injEq] at H
                    obtain ⟨rfl, rfl⟩ := H
                    try go_wp2
                    have n0_ := Aside0.mk (below_drew1 HB.out)
                    clear HB
                    have HB := n0_
                    clear n0_
                    have p184 : 0 ≤ (a2 : Int) := of_decide_eq_true (by first | (with_reducible assumption) | assumption)
                    have q184 : a2 < (l0.length : Int) := of_decide_eq_true (by first | (with_reducible assumption) | assumption)
                    obtain ⟨ad184, e184, hx184_0, hx184_1⟩ := at_T94 HR0.out a2 p184 q184
                    have hw184_1 := hx184_1
                    have hw184_0 := hx184_0
                    cases e184
                    replace hx184_0 := (HB.out.cell (World.block_lt_of_cell? w _ hx184_0)).trans hx184_0
                    replace hx184_1 := (HB.out.cell (World.block_lt_of_cell? w _ hx184_1)).trans hx184_1
                    replace p184 := eq_true p184
                    replace q184 := eq_true q184
                    have p185 : 0 ≤ (a3 : Int) := of_decide_eq_true (by first | (with_reducible assumption) | assumption)
                    have q185 : a3 < (l0.length : Int) := of_decide_eq_true (by first | (with_reducible assumption) | assumption)
                    obtain ⟨ad185, e185, hx185_0, hx185_1⟩ := at_T94 HR0.out a3 p185 q185
                    have hw185_1 := hx185_1
                    have hw185_0 := hx185_0
                    obtain rfl : ad184 = ad185 := (by injection e185)
                    replace hx185_0 := (HB.out.cell (World.block_lt_of_cell? w _ hx185_0)).trans hx185_0
                    replace hx185_1 := (HB.out.cell (World.block_lt_of_cell? w _ hx185_1)).trans hx185_1
                    replace p185 := eq_true p185
                    replace q185 := eq_true q185
                    refine start_ (n := 17) (S := fun w' => w'.cell? (ad184.add ((a2).toNat * 2)) = some (.string ((rd_T94 l0 a2).f0)) ∧ w'.cell? ⟨(ad184.add ((a2).toNat * 2)).block, (ad184.add ((a2).toNat * 2)).off + 1, none⟩ = some (.int .i64 ((rd_T94 l0 a2).f1)) ∧ w'.cell? (ad184.add ((a3).toNat * 2)) = some (.string ((rd_T94 l0 a3).f0)) ∧ w'.cell? ⟨(ad184.add ((a3).toNat * 2)).block, (ad184.add ((a3).toNat * 2)).off + 1, none⟩ = some (.int .i64 ((rd_T94 l0 a3).f1))) (ds := []) #[false, false, false, false, false, false, false, false, false, false, false, false, false, false, false, false, false] (by kernel_rfl) rfl rfl ⟨((HB.out.cell (World.block_lt_of_cell? w _ hw184_0)).trans hw184_0), ((HB.out.cell (World.block_lt_of_cell? w _ hw184_1)).trans hw184_1), ((HB.out.cell (World.block_lt_of_cell? w _ hw185_0)).trans hw185_0), ((HB.out.cell (World.block_lt_of_cell? w _ hw185_1)).trans hw185_1)⟩ (fun hHeld => ?_); refine with_tabW contangoref08_Convert.tab6 contangoref08_Convert.bits6 (fun HT_ HW_ => ?_)
                    generalize w.drew = w17 at HB hx184_0 hx184_1 hx185_0 hx185_1 hHeld ⊢
                    refine pure_ (i := 0) (N := some 36) (v := ?_) (a' := ?_) #[true, false, false, false, false, false, false, false, false, false, false, false, false, false, false, false, false] rfl rfl (any_of HT_.out (by kernel_rfl)) (fun _ _ _ h => h) (Or.inl ⟨by rfl, ?_⟩) ?_ ?_
                    rotate_left
                    · intro w'
                      go_simp
                      with_reducible rfl
                    rotate_left
                    · simp only [Act.put, List.setIfInBounds_toArray, List.set_cons_zero, List.set_cons_succ, i64_w, i32_w]
                      rfl
                    refine pure_ (i := 1) (N := some 37) (v := ?_) (a' := ?_) #[true, true, false, false, false, false, false, false, false, false, false, false, false, false, false, false, false] rfl rfl (any_of HT_.out (by kernel_rfl)) (fun _ _ _ h => h) (Or.inl ⟨by rfl, ?_⟩) ?_ ?_
                    rotate_left
                    · intro w'
                      go_simp
                      with_reducible rfl
                    rotate_left
                    · simp only [Act.put, List.setIfInBounds_toArray, List.set_cons_zero, List.set_cons_succ, i64_w, i32_w]
                      rfl
                    refine pure_ (i := 2) (N := some 38) (v := ?_) (a' := ?_) #[true, true, true, false, false, false, false, false, false, false, false, false, false, false, false, false, false] rfl rfl (any_of HT_.out (by kernel_rfl)) (fun _ _ _ h => h) (Or.inl ⟨by rfl, ?_⟩) ?_ ?_
                    rotate_left
                    · intro w'
                      go_simp
                      with_reducible rfl
                    rotate_left
                    · simp only [Act.put, List.setIfInBounds_toArray, List.set_cons_zero, List.set_cons_succ, i64_w, i32_w]
                      rfl
                    refine pure_ (i := 3) (N := some 39) (v := ?_) (a' := ?_) #[true, true, true, true, false, false, false, false, false, false, false, false, false, false, false, false, false] rfl rfl (any_of HT_.out (by kernel_rfl)) (fun _ _ _ h => h) (Or.inl ⟨by rfl, ?_⟩) ?_ ?_
                    rotate_left
                    · intro w'
                      go_simp
                      with_reducible rfl
                    rotate_left
                    · simp only [Act.put, List.setIfInBounds_toArray, List.set_cons_zero, List.set_cons_succ, i64_w, i32_w]
                      rfl
                    refine pure_ (i := 4) (N := some 40) (v := ?_) (a' := ?_) #[true, true, true, true, true, false, false, false, false, false, false, false, false, false, false, false, false] rfl rfl (any_of HT_.out (by kernel_rfl)) (fun _ _ _ h => h) (Or.inl ⟨by rfl, ?_⟩) ?_ ?_
                    rotate_left
                    · intro w'
                      go_simp
                      with_reducible rfl
                    rotate_left
                    · simp only [Act.put, List.setIfInBounds_toArray, List.set_cons_zero, List.set_cons_succ, i64_w, i32_w]
                      rfl
                    refine pure_ (i := 6) (N := some 42) (v := ?_) (a' := ?_) #[true, true, true, true, true, false, true, false, false, false, false, false, false, false, false, false, false] rfl rfl (any_of HT_.out (by kernel_rfl)) (fun _ _ _ h => h) (Or.inl ⟨by rfl, ?_⟩) ?_ ?_
                    rotate_left
                    · intro w'
                      go_simp
                      with_reducible rfl
                    rotate_left
                    · simp only [Act.put, List.setIfInBounds_toArray, List.set_cons_zero, List.set_cons_succ, i64_w, i32_w]
                      rfl
                    refine pure_ (i := 7) (N := some 43) (v := ?_) (a' := ?_) #[true, true, true, true, true, false, true, true, false, false, false, false, false, false, false, false, false] rfl rfl (any_of HT_.out (by kernel_rfl)) (fun _ _ _ h => h) (Or.inl ⟨by rfl, ?_⟩) ?_ ?_
                    rotate_left
                    · intro w'
                      go_simp
                      with_reducible rfl
                    rotate_left
                    · simp only [Act.put, List.setIfInBounds_toArray, List.set_cons_zero, List.set_cons_succ, i64_w, i32_w]
                      rfl
                    refine pure_ (i := 8) (N := some 44) (v := ?_) (a' := ?_) #[true, true, true, true, true, false, true, true, true, false, false, false, false, false, false, false, false] rfl rfl (any_of HT_.out (by kernel_rfl)) (fun _ _ _ h => h) (Or.inl ⟨by rfl, ?_⟩) ?_ ?_
                    rotate_left
                    · intro w'
                      go_simp
                      with_reducible rfl
                    rotate_left
                    · simp only [Act.put, List.setIfInBounds_toArray, List.set_cons_zero, List.set_cons_succ, i64_w, i32_w]
                      rfl
                    refine pure_ (i := 9) (N := some 45) (v := ?_) (a' := ?_) #[true, true, true, true, true, false, true, true, true, true, false, false, false, false, false, false, false] rfl rfl (any_of HT_.out (by kernel_rfl)) (fun _ _ _ h => h) (Or.inl ⟨by rfl, ?_⟩) ?_ ?_
                    rotate_left
                    · intro w'
                      go_simp
                      with_reducible rfl
                    rotate_left
                    · simp only [Act.put, List.setIfInBounds_toArray, List.set_cons_zero, List.set_cons_succ, i64_w, i32_w]
                      rfl
                    refine pure_ (i := 11) (N := some 47) (v := ?_) (a' := ?_) #[true, true, true, true, true, false, true, true, true, true, false, true, false, false, false, false, false] rfl rfl (any_of HT_.out (by kernel_rfl)) (fun _ _ _ h => h) (Or.inl ⟨by rfl, ?_⟩) ?_ ?_
                    rotate_left
                    · intro w'
                      go_simp
                      with_reducible rfl
                    rotate_left
                    · simp only [Act.put, List.setIfInBounds_toArray, List.set_cons_zero, List.set_cons_succ, i64_w, i32_w]
                      rfl
                    refine take_ (i := 5) (N := some 41) (v := ?_) (a' := ?_) #[true, true, true, true, true, true, true, true, true, true, false, true, false, false, false, false, false] rfl rfl (take_ofW HT_.out HW_.out (by kernel_rfl)) (fun _ _ _ h => h) (Or.inl ⟨by rfl, ?_⟩) hHeld ?_ ?_
                    rotate_left
                    · rintro w' ⟨s0, s1, s2, s3⟩
                      go_simp
                      with_reducible rfl
                    rotate_left
                    · simp only [Act.put, List.setIfInBounds_toArray, List.set_cons_zero, List.set_cons_succ, i64_w, i32_w]
                      rfl
                    refine take_ (i := 10) (N := some 46) (v := ?_) (a' := ?_) #[true, true, true, true, true, true, true, true, true, true, true, true, false, false, false, false, false] rfl rfl (take_ofW HT_.out HW_.out (by kernel_rfl)) (fun _ _ _ h => h) (Or.inl ⟨by rfl, ?_⟩) hHeld ?_ ?_
                    rotate_left
                    · rintro w' ⟨s0, s1, s2, s3⟩
                      go_simp
                      with_reducible rfl
                    rotate_left
                    · simp only [Act.put, List.setIfInBounds_toArray, List.set_cons_zero, List.set_cons_succ, i64_w, i32_w]
                      rfl
                    refine one_ (i := 12) (N := some 48) #[true, true, true, true, true, true, true, true, true, true, true, true, true, false, false, false, false] rfl rfl (one_of HT_.out (by kernel_rfl)) (by decide) (fun K hK => ?_)
                    refine goes_ Try.func57 (by kernel_rfl) rfl #[.int .i64 a1, .int .i64 ((rd_T94 l0 a2).f1), .int .i64 ((rd_T94 l0 a3).f1), .int .i64 a4] (by rfl) rfl rfl (by (try simp only [List.map_toArray, List.map_cons, List.map_nil]); first | done | rfl | (simp only [List.length_drop, List.length_take]; rfl)) ?_
                    with_reducible refine (contangoref01_MulDiv.calls a1 ((rd_T94 l0 a2).f1) ((rd_T94 l0 a3).f1) a4 t186 t187 _ A16.out).mono ?_
                    rintro e w18 ⟨rfl, hb⟩
                    refine ⟨_, rfl, ?_⟩
                    have n0_ := Aside0.mk (below_step (by repeat (first | (with_reducible first | exact HB.out | apply below_alloc | apply pw_below_drewN | apply below_drew1 | exact Below.refl _ _) | exact HB.out)) hb)
                    clear HB
                    have HB := n0_
                    clear n0_
                    (try clear hb)
                    (try clear hb2)
                    (try clear hk)
                    (try clear hi)
                    refine hK.out _ _ ⟨((HB.out.cell (World.block_lt_of_cell? w _ hw184_0)).trans hw184_0), ((HB.out.cell (World.block_lt_of_cell? w _ hw184_1)).trans hw184_1), ((HB.out.cell (World.block_lt_of_cell? w _ hw185_0)).trans hw185_0), ((HB.out.cell (World.block_lt_of_cell? w _ hw185_1)).trans hw185_1)⟩ (fun hHeld => ?_)
                    clear hK K
                    refine norm_ (a' := ?_) ?_ ?_
                    rotate_left
                    · show Act.put _ (some 48) _ = _
                      simp only [Act.put, List.setIfInBounds_toArray, List.set_cons_zero, List.set_cons_succ, i64_w, i32_w]
                      rfl
                    refine pure_ (i := 13) (N := some 49) (v := ?_) (a' := ?_) #[true, true, true, true, true, true, true, true, true, true, true, true, true, true, false, false, false] rfl rfl (any_of HT_.out (by kernel_rfl)) (fun _ _ _ h => h) (Or.inl ⟨by rfl, ?_⟩) ?_ ?_
                    rotate_left
                    · intro w'
                      go_simp
                      with_reducible rfl
                    rotate_left
                    · simp only [Act.put, List.setIfInBounds_toArray, List.set_cons_zero, List.set_cons_succ, i64_w, i32_w]
                      rfl
                    refine pure_ (i := 14) (N := some 50) (v := ?_) (a' := ?_) #[true, true, true, true, true, true, true, true, true, true, true, true, true, true, true, false, false] rfl rfl (any_of HT_.out (by kernel_rfl)) (fun _ _ _ h => h) (Or.inl ⟨by rfl, ?_⟩) ?_ ?_
                    rotate_left
                    · intro w'
                      go_simp
                      with_reducible rfl
                    rotate_left
                    · simp only [Act.put, List.setIfInBounds_toArray, List.set_cons_zero, List.set_cons_succ, i64_w, i32_w]
                      rfl
                    refine pure_ (i := 15) (N := some 10) (v := ?_) (a' := ?_) #[true, true, true, true, true, true, true, true, true, true, true, true, true, true, true, true, false] rfl rfl (any_of HT_.out (by kernel_rfl)) (fun _ _ _ h => h) (Or.inl ⟨by rfl, ?_⟩) ?_ ?_
                    rotate_left
                    · intro w'
                      go_simp
                      with_reducible rfl
                    rotate_left
                    · simp only [Act.put, List.setIfInBounds_toArray, List.set_cons_zero, List.set_cons_succ, i64_w, i32_w]
                      rfl
                    refine pure_ (i := 16) (N := some 11) (v := ?_) (a' := ?_) #[true, true, true, true, true, true, true, true, true, true, true, true, true, true, true, true, true] rfl rfl (any_of HT_.out (by kernel_rfl)) (fun _ _ _ h => h) (Or.inl ⟨by rfl, ?_⟩) ?_ ?_
                    rotate_left
                    · intro w'
                      go_simp
                      with_reducible rfl
                    rotate_left
                    · simp only [Act.put, List.setIfInBounds_toArray, List.set_cons_zero, List.set_cons_succ, i64_w, i32_w]
                      rfl
                    refine done_ (done_of HT_.out (by kernel_rfl)) ?_
                    try go_wp2
                    go_ret2
                    exact ⟨by first | rfl | (simp [errW_none, errW_some] <;> rfl) | (simp [*, errW_none, errW_some] <;> rfl), by repeat (first | (with_reducible first | exact HB.out | apply below_alloc | apply pw_below_drewN | apply below_drew1 | exact Below.refl _ _) | exact HB.out)⟩
                  · rw [if_neg c15] at H
                    exact absurd H (by simp)
                · rw [if_neg c14] at H
                  exact absurd H (by simp)
              · rw [if_neg c13] at H
                exact absurd H (by simp)
            · rw [if_neg c12] at H
              exact absurd H (by simp)
  · rw [if_neg c7] at H
    have c7b0 : (t183 == 0) = false := beq_eq_false_iff_ne.mpr c7
    have c7b1 : (t183 != 0) = true := bne_iff_ne.mpr c7
    (try simp only [c7b0, c7b1])
    simp only [Option.some.injEq, Prod.mk.injEq] at H
    obtain ⟨rfl, rfl⟩ := H
    go_wp2
    go_ret2
    exact ⟨by first | rfl | (simp [errW_none, errW_some] <;> rfl) | (simp [*, errW_none, errW_some] <;> rfl), by repeat (first | (with_reducible first | exact HB.out | apply below_alloc | apply pw_below_drewN | apply below_drew1 | exact Below.refl _ _) | exact HB.out)⟩
def contangoref08_Base.f (k : Nat) (l0 : List (S94)) (a1 : Int) (a2 : Int) (a3 : Int) : Option (Int × Int) := (contangoref08_Convert.f k l0 a1 a2 0 a3).bind fun bt188 => (some (bt188.1, bt188.2))
theorem contangoref08_Base.mono : ∀ a0 a1 a2 a3 k, LeO (contangoref08_Base.f k a0 a1 a2 a3) (contangoref08_Base.f (k + 1) a0 a1 a2 a3) := by
  intro a0 a1 a2 a3 k
  unfold contangoref08_Base.f
  repeat' first
      | (with_reducible exact contangoref08_Convert.mono _ _ _ _ _ _)
      | (with_reducible exact LeO.refl _)
      | (with_reducible exact LeO.none _)
      | (with_reducible refine LeO.ite ?_ ?_)
      | (with_reducible refine LeO.bind ?_ (fun _ => ?_))
      | exact contangoref08_Convert.mono _ _ _ _ _ _
      | exact LeO.none _
      | refine LeO.ite ?_ ?_
      | refine LeO.bind ?_ (fun _ => ?_)
set_option maxHeartbeats 8000000 in
set_option maxRecDepth 100000 in
theorem contangoref08_Base.calls (k : Nat) (A0 : Option Addr) (c0 : Nat) (l0 : List (S94)) (a1 : Int) (a2 : Int) (a3 : Int) (r1 : Int) (r2 : Int) (w : World) (hr0 : Kd.C k94 w A0 l0.length l0) (hc0 : l0.length ≤ c0) (h : contangoref08_Base.f k l0 a1 a2 a3 = some (r1, r2)) :
    Calls Try.prog 56 #[.slice A0 l0.length c0, .int .i64 a1, .int .i64 a2, .int .i64 a3] w fun e w' => e = .returned (.tuple #[.int .i64 r1, .int .i64 r2]) ∧ Below w.heap.size w w' := by
  have HR0 := Aside0.mk hr0
  have HC0 := Aside0.mk hc0
  clear hr0 hc0
  have HB := Aside0.mk (Below.refl w.heap.size w)
  have H : ((contangoref08_Convert.f k l0 a1 a2 0 a3).bind fun bt188 => (some (bt188.1, bt188.2))) = some (r1, r2) := h
  clear h
  replace H := Option.bind_eq_some_iff.mp H
  obtain ⟨⟨t188, t189⟩, A50, H⟩ := H
  replace H : (some (t188, t189)) = some (r1, r2) := H
  have A5 := Aside0.mk A50
  clear A50
  simp only [Option.some.injEq, Prod.mk.injEq] at H
  obtain ⟨rfl, rfl⟩ := H
  go_enter Try.func56, Try.ntmps56
  go_wp2_with (first | ((with_reducible refine gate_callee (f := 95) rfl ?_); refine goesL_ (some 14) rfl rfl Try.func95 (by kernel_rfl) rfl #[.slice A0 l0.length c0, .int .i64 a1, .int .i64 a2, .int .i64 0, .int .i64 a3] rfl (by (try simp only [List.map_toArray, List.map_cons, List.map_nil]); first | done | rfl | (simp only [List.length_drop, List.length_take]; rfl)) ?_; (with_reducible refine (contangoref08_Convert.calls k _ _ l0 a1 a2 0 a3 t188 t189 _ ?side1 ?side2 A5.out).mono ?_); (case side1 => repeat (first | exact HR0.out | (with_reducible refine Kd.C_alloc ?_ _) | (with_reducible refine Kd.C_drewN ?_ _) | (with_reducible refine Kd.C_drew ?_))); (case side2 => exact HC0.out); rintro e w6 ⟨rfl, hb⟩; refine ⟨_, rfl, ?_⟩; have n0_ := Aside0.mk (below_step (by repeat (first | (with_reducible first | exact HB.out | apply below_alloc | apply pw_below_drewN | apply below_drew1) | exact HB.out)) hb); clear HB; have HB := n0_; clear n0_; (try clear hb); (try clear hb2); (try clear hk); (try clear hi)))
  go_ret2
  exact ⟨by first | rfl | (simp [errW_none, errW_some] <;> rfl) | (simp [*, errW_none, errW_some] <;> rfl), by repeat (first | (with_reducible first | exact HB.out | apply below_alloc | apply pw_below_drewN | apply below_drew1) | exact HB.out)⟩
def contangoref31_Worth.f (k : Nat) (a0_0 : ByteArray) (a0_1 : Int) (a0_2 : Int) (a0_3 : Int) (a0_4 : Int) (a0_5 : Int) (a1 : Int) (l2 : List (S94)) : Option (Int × Int) := (contangoref31_Value.f k a0_0 a0_1 a0_2 a0_3 a0_4 a0_5 a1).bind fun bt191 => (if bt191.2 = 0 then ((contangoref08_Base.f k l2 bt191.1 a0_2 3).bind fun bt193 => (if bt193.2 = 0 then ((contangoref01_MulDiv.f bt193.1 (wrap64 (1000 - a0_4)) 1000 3).bind fun bt195 => (some (bt195.1, bt195.2))) else (some (0, bt193.2)))) else (some (0, bt191.2)))
theorem contangoref31_Worth.mono : ∀ a0 a1 a2 a3 a4 a5 a6 a7 k, LeO (contangoref31_Worth.f k a0 a1 a2 a3 a4 a5 a6 a7) (contangoref31_Worth.f (k + 1) a0 a1 a2 a3 a4 a5 a6 a7) := by
  intro a0 a1 a2 a3 a4 a5 a6 a7 k
  unfold contangoref31_Worth.f
  repeat' first
      | (with_reducible exact contangoref08_Base.mono _ _ _ _ _)
      | (with_reducible exact contangoref31_Value.mono _ _ _ _ _ _ _ _)
      | (with_reducible exact LeO.refl _)
      | (with_reducible exact LeO.none _)
      | (with_reducible refine LeO.ite ?_ ?_)
      | (with_reducible refine LeO.bind ?_ (fun _ => ?_))
      | exact contangoref08_Base.mono _ _ _ _ _
      | exact contangoref31_Value.mono _ _ _ _ _ _ _ _
      | exact LeO.none _
      | refine LeO.ite ?_ ?_
      | refine LeO.bind ?_ (fun _ => ?_)
set_option maxHeartbeats 8000000 in
set_option maxRecDepth 100000 in
theorem contangoref31_Worth.calls (k : Nat) (a0_0 : ByteArray) (a0_1 : Int) (a0_2 : Int) (a0_3 : Int) (a0_4 : Int) (a0_5 : Int) (a1 : Int) (A2 : Option Addr) (c2 : Nat) (l2 : List (S94)) (r1 : Int) (r2 : Int) (w : World) (hr2 : Kd.C k94 w A2 l2.length l2) (hc2 : l2.length ≤ c2) (h : contangoref31_Worth.f k a0_0 a0_1 a0_2 a0_3 a0_4 a0_5 a1 l2 = some (r1, r2)) :
    Calls Try.prog 18 #[.agg #[.string a0_0, .int .i64 a0_1, .int .i64 a0_2, .int .i64 a0_3, .int .i64 a0_4, .int .i64 a0_5], .int .i64 a1, .slice A2 l2.length c2] w fun e w' => e = .returned (.tuple #[.int .i64 r1, .int .i64 r2]) ∧ Below w.heap.size w w' := by
  have hu23 := Try.underlying23
  have HR2 := Aside0.mk hr2
  have HC2 := Aside0.mk hc2
  clear hr2 hc2
  have HB := Aside0.mk (Below.refl w.heap.size w)
  have H : ((contangoref31_Value.f k a0_0 a0_1 a0_2 a0_3 a0_4 a0_5 a1).bind fun bt191 => (if bt191.2 = 0 then ((contangoref08_Base.f k l2 bt191.1 a0_2 3).bind fun bt193 => (if bt193.2 = 0 then ((contangoref01_MulDiv.f bt193.1 (wrap64 (1000 - a0_4)) 1000 3).bind fun bt195 => (some (bt195.1, bt195.2))) else (some (0, bt193.2)))) else (some (0, bt191.2)))) = some (r1, r2) := h
  clear h
  replace H := Option.bind_eq_some_iff.mp H
  obtain ⟨⟨t191, t192⟩, A40, H⟩ := H
  replace H : (if t192 = 0 then ((contangoref08_Base.f k l2 t191 a0_2 3).bind fun bt193 => (if bt193.2 = 0 then ((contangoref01_MulDiv.f bt193.1 (wrap64 (1000 - a0_4)) 1000 3).bind fun bt195 => (some (bt195.1, bt195.2))) else (some (0, bt193.2)))) else (some (0, t192))) = some (r1, r2) := H
  have A4 := Aside0.mk A40
  clear A40
  go_enter Try.func18, Try.ntmps18
  go_upto_if 19 with (first | ((with_reducible refine gate_dst (N := 3) rfl ?_); refine box_event ?hg (N := 3) ?hd (cs := #[.string a0_0, .int .i64 a0_1, .int .i64 a0_2, .int .i64 a0_3, .int .i64 a0_4, .int .i64 a0_5]) (t := 23) ?hr ?_; (case hd => rfl); (case hg => rfl); (case hr => first | (go_simp; done) | (go_simp; rfl)); intro gb190 hg w5 hbox hb; have n0_ := Aside0.mk (below_step (by repeat (first | (with_reducible first | exact HB.out | apply below_alloc | apply pw_below_drewN | apply below_drew1) | exact HB.out)) hb); have n1_ := Aside0.mk (hbox); have n2_ := Aside0.mk ((by rw [hg]; exact (below_size (by repeat (first | (with_reducible first | exact HB.out | apply below_alloc | apply pw_below_drewN | apply below_drew1) | exact HB.out))) : w.heap.size ≤ gb190)); have n3_ := Aside0.mk ((by rw [hg]; exact (below_size (by repeat (first | (with_reducible first | exact HB.out | apply below_alloc | apply pw_below_drewN | apply below_drew1) | exact HB.out))) : w.heap.size ≤ gb190)); clear HB; have HB := n0_; have BK190 := n1_; have GW190 := n2_; have GE190 := n3_; clear n0_ n1_ n2_ n3_; clear hb hbox hg; have hcz6_0 : w5.cell? ⟨gb190, 0, none⟩ = some (.string a0_0) := (blk_cell BK190.out 0).trans rfl; have hcz6_1 : w5.cell? ⟨gb190, 1, none⟩ = some (.int .i64 a0_1) := (blk_cell BK190.out 1).trans rfl; have hcz6_2 : w5.cell? ⟨gb190, 2, none⟩ = some (.int .i64 a0_2) := (blk_cell BK190.out 2).trans rfl; have hcz6_3 : w5.cell? ⟨gb190, 3, none⟩ = some (.int .i64 a0_3) := (blk_cell BK190.out 3).trans rfl; have hcz6_4 : w5.cell? ⟨gb190, 4, none⟩ = some (.int .i64 a0_4) := (blk_cell BK190.out 4).trans rfl; have hcz6_5 : w5.cell? ⟨gb190, 5, none⟩ = some (.int .i64 a0_5) := (blk_cell BK190.out 5).trans rfl; have hfz6_0 := blk_frozen BK190.out 0; have hfz6_1 := blk_frozen BK190.out 1; have hfz6_2 := blk_frozen BK190.out 2; have hfz6_3 := blk_frozen BK190.out 3; have hfz6_4 := blk_frozen BK190.out 4; have hfz6_5 := blk_frozen BK190.out 5) | ((with_reducible refine gate_callee (f := 16) rfl ?_); refine goesL_ (some 15) rfl rfl Try.func16 (by kernel_rfl) rfl #[.agg #[.string a0_0, .int .i64 a0_1, .int .i64 a0_2, .int .i64 a0_3, .int .i64 a0_4, .int .i64 a0_5], .int .i64 a1] rfl (by (try simp only [List.map_toArray, List.map_cons, List.map_nil]); first | done | rfl | (simp only [List.length_drop, List.length_take]; rfl)) ?_; (with_reducible refine (contangoref31_Value.calls k a0_0 a0_1 a0_2 a0_3 a0_4 a0_5 a1 t191 t192 _ A4.out).mono ?_); rintro e w7 ⟨rfl, hb⟩; refine ⟨_, rfl, ?_⟩; have n0_ := Aside0.mk (blk_below (g := gb190) (o := .cells #[.string a0_0, .int .i64 a0_1, .int .i64 a0_2, .int .i64 a0_3, .int .i64 a0_4, .int .i64 a0_5] 23 (0, 0)) (by (with_reducible repeat (first | refine blk_drewN ?_ _ | refine blk_drew ?_ | refine blk_alloc ?_ _)); exact BK190.out) hb); have n1_ := Aside0.mk (below_step (by repeat (first | (with_reducible first | exact HB.out | apply below_alloc | apply pw_below_drewN | apply below_drew1 | refine below_set ?_ GE190.out) | exact HB.out)) hb); clear BK190; clear HB; have BK190 := n0_; have HB := n1_; clear n0_ n1_; (try clear hb); (try clear hb2); (try clear hk); (try clear hi)))
  (try simp only [Act.put, List.setIfInBounds_toArray, List.set_cons_zero, List.set_cons_succ])
  by_cases c8 : t192 = 0
  · rw [if_pos c8] at H
    have c8b0 : (t192 == 0) = true := beq_iff_eq.mpr c8
    have c8b1 : (t192 != 0) = false := bne_eq_false_iff_eq.mpr c8
    clear c8
    (try simp only [c8b0, c8b1])
    replace H := Option.bind_eq_some_iff.mp H
    obtain ⟨⟨t193, t194⟩, A90, H⟩ := H
    replace H : (if t194 = 0 then ((contangoref01_MulDiv.f t193 (wrap64 (1000 - a0_4)) 1000 3).bind fun bt195 => (some (bt195.1, bt195.2))) else (some (0, t194))) = some (r1, r2) := H
    have A9 := Aside0.mk A90
    clear A90
    have hcz10_0 : w7.cell? ⟨gb190, 0, none⟩ = some (.string a0_0) := (blk_cell BK190.out 0).trans rfl
    have hcz10_1 : w7.cell? ⟨gb190, 1, none⟩ = some (.int .i64 a0_1) := (blk_cell BK190.out 1).trans rfl
    have hcz10_2 : w7.cell? ⟨gb190, 2, none⟩ = some (.int .i64 a0_2) := (blk_cell BK190.out 2).trans rfl
    have hcz10_3 : w7.cell? ⟨gb190, 3, none⟩ = some (.int .i64 a0_3) := (blk_cell BK190.out 3).trans rfl
    have hcz10_4 : w7.cell? ⟨gb190, 4, none⟩ = some (.int .i64 a0_4) := (blk_cell BK190.out 4).trans rfl
    have hcz10_5 : w7.cell? ⟨gb190, 5, none⟩ = some (.int .i64 a0_5) := (blk_cell BK190.out 5).trans rfl
    have hfz10_0 := blk_frozen BK190.out 0
    have hfz10_1 := blk_frozen BK190.out 1
    have hfz10_2 := blk_frozen BK190.out 2
    have hfz10_3 := blk_frozen BK190.out 3
    have hfz10_4 := blk_frozen BK190.out 4
    have hfz10_5 := blk_frozen BK190.out 5
    go_upto_if 30 with (first | ((with_reducible refine gate_callee (f := 56) rfl ?_); refine goesL_ (some 26) rfl rfl Try.func56 (by kernel_rfl) rfl #[.slice A2 l2.length c2, .int .i64 t191, .int .i64 a0_2, .int .i64 3] rfl (by (try simp only [List.map_toArray, List.map_cons, List.map_nil]); first | done | rfl | (simp only [List.length_drop, List.length_take]; rfl)) ?_; (with_reducible refine (contangoref08_Base.calls k _ _ l2 t191 a0_2 3 t193 t194 _ ?side1 ?side2 A9.out).mono ?_); (case side1 => repeat (first | exact (Kd.C_below HR2.out HB.out) | (with_reducible refine Kd.C_alloc ?_ _) | (with_reducible refine Kd.C_drewN ?_ _) | (with_reducible refine Kd.C_drew ?_))); (case side2 => exact HC2.out); rintro e w11 ⟨rfl, hb⟩; refine ⟨_, rfl, ?_⟩; have n0_ := Aside0.mk (blk_below (g := gb190) (o := .cells #[.string a0_0, .int .i64 a0_1, .int .i64 a0_2, .int .i64 a0_3, .int .i64 a0_4, .int .i64 a0_5] 23 (0, 0)) (by (with_reducible repeat (first | refine blk_drewN ?_ _ | refine blk_drew ?_ | refine blk_alloc ?_ _)); exact BK190.out) hb); have n1_ := Aside0.mk (below_step (by repeat (first | (with_reducible first | exact HB.out | apply below_alloc | apply pw_below_drewN | apply below_drew1 | refine below_set ?_ GE190.out) | exact HB.out)) hb); clear BK190; clear HB; have BK190 := n0_; have HB := n1_; clear n0_ n1_; (try clear hb); (try clear hb2); (try clear hk); (try clear hi)))
    (try simp only [Act.put, List.setIfInBounds_toArray, List.set_cons_zero, List.set_cons_succ])
    by_cases c12 : t194 = 0
    · rw [if_pos c12] at H
      have c12b0 : (t194 == 0) = true := beq_iff_eq.mpr c12
      have c12b1 : (t194 != 0) = false := bne_eq_false_iff_eq.mpr c12
      clear c12
      (try simp only [c12b0, c12b1])
      replace H := Option.bind_eq_some_iff.mp H
      obtain ⟨⟨t195, t196⟩, A130, H⟩ := H
      replace H : (some (t195, t196)) = some (r1, r2) := H
      have A13 := Aside0.mk A130
      clear A130
      simp only [Option.some.injEq, Prod.mk.injEq] at H
      obtain ⟨rfl, rfl⟩ := H
      have hcz14_0 : w11.cell? ⟨gb190, 0, none⟩ = some (.string a0_0) := (blk_cell BK190.out 0).trans rfl
      have hcz14_1 : w11.cell? ⟨gb190, 1, none⟩ = some (.int .i64 a0_1) := (blk_cell BK190.out 1).trans rfl
      have hcz14_2 : w11.cell? ⟨gb190, 2, none⟩ = some (.int .i64 a0_2) := (blk_cell BK190.out 2).trans rfl
      have hcz14_3 : w11.cell? ⟨gb190, 3, none⟩ = some (.int .i64 a0_3) := (blk_cell BK190.out 3).trans rfl
      have hcz14_4 : w11.cell? ⟨gb190, 4, none⟩ = some (.int .i64 a0_4) := (blk_cell BK190.out 4).trans rfl
      have hcz14_5 : w11.cell? ⟨gb190, 5, none⟩ = some (.int .i64 a0_5) := (blk_cell BK190.out 5).trans rfl
      have hfz14_0 := blk_frozen BK190.out 0
      have hfz14_1 := blk_frozen BK190.out 1
      have hfz14_2 := blk_frozen BK190.out 2
      have hfz14_3 := blk_frozen BK190.out 3
      have hfz14_4 := blk_frozen BK190.out 4
      have hfz14_5 := blk_frozen BK190.out 5
      go_wp2_with (first | ((with_reducible refine gate_callee (f := 57) rfl ?_); refine goesL_ (some 36) rfl rfl Try.func57 (by kernel_rfl) rfl #[.int .i64 t193, .int .i64 (wrap64 (1000 - a0_4)), .int .i64 1000, .int .i64 3] rfl (by (try simp only [List.map_toArray, List.map_cons, List.map_nil]); first | done | rfl | (simp only [List.length_drop, List.length_take]; rfl)) ?_; (with_reducible refine (contangoref01_MulDiv.calls t193 (wrap64 (1000 - a0_4)) 1000 3 t195 t196 _ A13.out).mono ?_); rintro e w15 ⟨rfl, hb⟩; refine ⟨_, rfl, ?_⟩; have n0_ := Aside0.mk (blk_below (g := gb190) (o := .cells #[.string a0_0, .int .i64 a0_1, .int .i64 a0_2, .int .i64 a0_3, .int .i64 a0_4, .int .i64 a0_5] 23 (0, 0)) (by (with_reducible repeat (first | refine blk_drewN ?_ _ | refine blk_drew ?_ | refine blk_alloc ?_ _)); exact BK190.out) hb); have n1_ := Aside0.mk (below_step (by repeat (first | (with_reducible first | exact HB.out | apply below_alloc | apply pw_below_drewN | apply below_drew1 | refine below_set ?_ GE190.out) | exact HB.out)) hb); clear BK190; clear HB; have BK190 := n0_; have HB := n1_; clear n0_ n1_; (try clear hb); (try clear hb2); (try clear hk); (try clear hi)))
      go_ret2
      exact ⟨by first | rfl | (simp [errW_none, errW_some] <;> rfl) | (simp [*, errW_none, errW_some] <;> rfl), by repeat (first | (with_reducible first | exact HB.out | apply below_alloc | apply pw_below_drewN | apply below_drew1 | refine below_set ?_ GE190.out) | exact HB.out)⟩
    · rw [if_neg c12] at H
      have c12b0 : (t194 == 0) = false := beq_eq_false_iff_ne.mpr c12
      have c12b1 : (t194 != 0) = true := bne_iff_ne.mpr c12
      (try simp only [c12b0, c12b1])
      simp only [Option.some.injEq, Prod.mk.injEq] at H
      obtain ⟨rfl, rfl⟩ := H
      go_wp2
      go_ret2
      exact ⟨by first | rfl | (simp [errW_none, errW_some] <;> rfl) | (simp [*, errW_none, errW_some] <;> rfl), by repeat (first | (with_reducible first | exact HB.out | apply below_alloc | apply pw_below_drewN | apply below_drew1 | refine below_set ?_ GE190.out) | exact HB.out)⟩
  · rw [if_neg c8] at H
    have c8b0 : (t192 == 0) = false := beq_eq_false_iff_ne.mpr c8
    have c8b1 : (t192 != 0) = true := bne_iff_ne.mpr c8
    (try simp only [c8b0, c8b1])
    simp only [Option.some.injEq, Prod.mk.injEq] at H
    obtain ⟨rfl, rfl⟩ := H
    go_wp2
    go_ret2
    exact ⟨by first | rfl | (simp [errW_none, errW_some] <;> rfl) | (simp [*, errW_none, errW_some] <;> rfl), by repeat (first | (with_reducible first | exact HB.out | apply below_alloc | apply pw_below_drewN | apply below_drew1 | refine below_set ?_ GE190.out) | exact HB.out)⟩
def contangoref31_Find.l0 : Nat → List (S23) → ByteArray → Int → Option (ByteArray × Int × Int × Int × Int × Int × Bool)
  | 0, _, _, _ => none
  | k + 1, x0, x1, x6 => if x6 < (x0.length : Int) then (if 0 ≤ x6 then (if ((rd_T23 x0 x6).f0).toList = x1.toList then (some ((rd_T23 x0 x6).f0, (rd_T23 x0 x6).f1, (rd_T23 x0 x6).f2, (rd_T23 x0 x6).f3, (rd_T23 x0 x6).f4, (rd_T23 x0 x6).f5, true)) else (contangoref31_Find.l0 k x0 x1 (wrap64 (x6 + 1)))) else (none)) else (some ((⟨#[]⟩ : ByteArray), 0, 0, 0, 0, 0, false))
def contangoref31_Find.f (k : Nat) (l0 : List (S23)) (a1 : ByteArray) : Option (ByteArray × Int × Int × Int × Int × Int × Bool) := contangoref31_Find.l0 k l0 a1 0
theorem contangoref31_Find.mono_l : ∀ k, (∀ y0 y1 y2, LeO (contangoref31_Find.l0 k y0 y1 y2) (contangoref31_Find.l0 (k + 1) y0 y1 y2))
  | 0 => fun _ _ _ r h => by simp [contangoref31_Find.l0] at h
  | k + 1 => by
    have ih0 := contangoref31_Find.mono_l k
    · intro y0 y1 y2
      unfold contangoref31_Find.l0
      repeat' first
      | (with_reducible exact ih0 _ _ _)
      | (with_reducible exact LeO.refl _)
      | (with_reducible exact LeO.none _)
      | (with_reducible refine LeO.ite ?_ ?_)
      | (with_reducible refine LeO.bind ?_ (fun _ => ?_))
      | exact ih0 _ _ _
      | exact LeO.none _
      | refine LeO.ite ?_ ?_
      | refine LeO.bind ?_ (fun _ => ?_)
theorem contangoref31_Find.mono : ∀ a0 a1 k, LeO (contangoref31_Find.f k a0 a1) (contangoref31_Find.f (k + 1) a0 a1) := by
  intro a0 a1 k
  have ih0 := contangoref31_Find.mono_l k
  unfold contangoref31_Find.f
  repeat' first
      | (with_reducible exact ih0 _ _ _)
      | (with_reducible exact LeO.refl _)
      | (with_reducible exact LeO.none _)
      | (with_reducible refine LeO.ite ?_ ?_)
      | (with_reducible refine LeO.bind ?_ (fun _ => ?_))
      | exact ih0 _ _ _
      | exact LeO.none _
      | refine LeO.ite ?_ ?_
      | refine LeO.bind ?_ (fun _ => ?_)
set_option maxHeartbeats 8000000 in
set_option maxRecDepth 100000 in
theorem contangoref31_Find.calls (k : Nat) (A0 : Option Addr) (c0 : Nat) (l0 : List (S23)) (a1 : ByteArray) (r1 : ByteArray) (r2 : Int) (r3 : Int) (r4 : Int) (r5 : Int) (r6 : Int) (r7 : Bool) (w : World) (hr0 : Kd.C k23 w A0 l0.length l0) (hc0 : l0.length ≤ c0) (h : contangoref31_Find.f k l0 a1 = some (r1, r2, r3, r4, r5, r6, r7)) :
    Calls Try.prog 24 #[.slice A0 l0.length c0, .string a1] w fun e w' => e = .returned (.tuple #[.agg #[.string r1, .int .i64 r2, .int .i64 r3, .int .i64 r4, .int .i64 r5, .int .i64 r6], .bool r7]) ∧ Below w.heap.size w w' := by
  have hu23 := Try.underlying23
  have HR0 := Aside0.mk hr0
  have HC0 := Aside0.mk hc0
  clear hr0 hc0
  have HB := Aside0.mk (Below.refl w.heap.size w)
  have H : (contangoref31_Find.l0 k l0 a1 0) = some (r1, r2, r3, r4, r5, r6, r7) := h
  clear h
  have H' := Aside0.mk H
  clear H
  go_enter Try.func24, Try.ntmps24
  go_wp2_with (first | ((with_reducible refine gate_dst (N := 4) rfl ?_); refine box_event ?hg (N := 4) ?hd (cs := #[.string (⟨#[]⟩ : ByteArray), .int .i64 0, .int .i64 0, .int .i64 0, .int .i64 0, .int .i64 0]) (t := 23) ?hr ?_; (case hd => rfl); (case hg => rfl); (case hr => first | (go_simp; done) | (go_simp; rfl)); intro gb271 hg w3 hbox hb; have n0_ := Aside0.mk (below_step (by repeat (first | (with_reducible first | exact HB.out | apply below_alloc | apply pw_below_drewN | apply below_drew1) | exact HB.out)) hb); have n1_ := Aside0.mk (hbox); have n2_ := Aside0.mk ((by rw [hg]; exact (below_size (by repeat (first | (with_reducible first | exact HB.out | apply below_alloc | apply pw_below_drewN | apply below_drew1) | exact HB.out))) : w.heap.size ≤ gb271)); have n3_ := Aside0.mk ((by rw [hg]; exact (below_size (by repeat (first | (with_reducible first | exact HB.out | apply below_alloc | apply pw_below_drewN | apply below_drew1) | exact HB.out))) : w.heap.size ≤ gb271)); clear HB; have HB := n0_; have BK271 := n1_; have GW271 := n2_; have GE271 := n3_; clear n0_ n1_ n2_ n3_; clear hb hbox hg))
  go_loopg [6] k (fun kq v6 w' => ∃ (x6_1 : Int) (x272000_1 : ByteArray) (x272001_1 : Int) (x272002_1 : Int) (x272003_1 : Int) (x272004_1 : Int) (x272005_1 : Int), v6 = .int .i64 x6_1 ∧ Aside0 (contangoref31_Find.l0 kq l0 a1 x6_1 = some (r1, r2, r3, r4, r5, r6, r7)) ∧ Aside0 (kq ≤ k) ∧ Aside0 (w'.heap[gb271]? = some (.cells #[.string x272000_1, .int .i64 x272001_1, .int .i64 x272002_1, .int .i64 x272003_1, .int .i64 x272004_1, .int .i64 x272005_1] 23 (0, 0))) ∧ Aside0 (Below w.heap.size w w'))
  case atStart => exact ⟨(0), ((⟨#[]⟩ : ByteArray)), (0), (0), (0), (0), (0), (by first | rfl | (simp; done) | (simp [*]; done)), H', ⟨Nat.le_refl _⟩, ⟨by (with_reducible repeat (first | refine blk_drewN ?_ _ | refine blk_drew ?_ | refine blk_alloc ?_ _)); exact BK271.out⟩, ⟨by repeat (first | (with_reducible first | exact HB.out | apply below_alloc | apply pw_below_drewN | apply below_drew1 | refine below_set ?_ GE271.out) | exact HB.out)⟩⟩
  case round =>
    clear H'
    try clear c2
    try clear p2
    obtain ⟨x6_1, x272000_1, x272001_1, x272002_1, x272003_1, x272004_1, x272005_1, rfl, HA, HK1, BK271, HB⟩ := hrel
    cases gk with
    | zero => exact absurd HA.out (by simp [contangoref31_Find.l0])
    | succ k1 =>
      have H := HA.out
      clear HA
      simp only [contangoref31_Find.l0] at H
      by_cases c4 : x6_1 < (l0.length : Int)
      · rw [if_pos c4] at H
        have c4b0 : decide (x6_1 < (l0.length : Int)) = true := decide_eq_true c4
        clear c4
        (try simp only [c4b0])
        by_cases c5 : 0 ≤ x6_1
        · rw [if_pos c5] at H
          have c5b0 : decide (0 ≤ x6_1) = true := decide_eq_true c5
          clear c5
          have p272 : 0 ≤ (x6_1 : Int) := of_decide_eq_true (by first | (with_reducible assumption) | assumption)
          have q272 : x6_1 < (l0.length : Int) := of_decide_eq_true (by first | (with_reducible assumption) | assumption)
          obtain ⟨ad272, e272, hx272_0, hx272_1, hx272_2, hx272_3, hx272_4, hx272_5⟩ := at_T23 HR0.out x6_1 p272 q272
          cases e272
          replace hx272_0 := (HB.out.cell (World.block_lt_of_cell? w _ hx272_0)).trans hx272_0
          replace hx272_1 := (HB.out.cell (World.block_lt_of_cell? w _ hx272_1)).trans hx272_1
          replace hx272_2 := (HB.out.cell (World.block_lt_of_cell? w _ hx272_2)).trans hx272_2
          replace hx272_3 := (HB.out.cell (World.block_lt_of_cell? w _ hx272_3)).trans hx272_3
          replace hx272_4 := (HB.out.cell (World.block_lt_of_cell? w _ hx272_4)).trans hx272_4
          replace hx272_5 := (HB.out.cell (World.block_lt_of_cell? w _ hx272_5)).trans hx272_5
          replace p272 := eq_true p272
          replace q272 := eq_true q272
          go_upto_if 19 with (fail)
          by_cases c6 : ((rd_T23 l0 x6_1).f0).toList = a1.toList
          · rw [if_pos c6] at H
            have c6b0 : (((rd_T23 l0 x6_1).f0).toList == a1.toList) = true := beq_iff_eq.mpr c6
            have c6b1 : (((rd_T23 l0 x6_1).f0).toList != a1.toList) = false := bne_eq_false_iff_eq.mpr c6
            clear c6
            (try simp only [c6b0, c6b1])
            simp only [Option.some.injEq, Prod.mk.injEq] at H
            obtain ⟨rfl, rfl, rfl, rfl, rfl, rfl, rfl⟩ := H
            have p273 : 0 ≤ (x6_1 : Int) := of_decide_eq_true (by first | (with_reducible assumption) | assumption)
            have q273 : x6_1 < (l0.length : Int) := of_decide_eq_true (by first | (with_reducible assumption) | assumption)
            obtain ⟨ad273, e273, hx273_0, hx273_1, hx273_2, hx273_3, hx273_4, hx273_5⟩ := at_T23 HR0.out x6_1 p273 q273
            obtain rfl : ad272 = ad273 := (by injection e273)
            replace hx273_0 := (HB.out.cell (World.block_lt_of_cell? w _ hx273_0)).trans hx273_0
            replace hx273_1 := (HB.out.cell (World.block_lt_of_cell? w _ hx273_1)).trans hx273_1
            replace hx273_2 := (HB.out.cell (World.block_lt_of_cell? w _ hx273_2)).trans hx273_2
            replace hx273_3 := (HB.out.cell (World.block_lt_of_cell? w _ hx273_3)).trans hx273_3
            replace hx273_4 := (HB.out.cell (World.block_lt_of_cell? w _ hx273_4)).trans hx273_4
            replace hx273_5 := (HB.out.cell (World.block_lt_of_cell? w _ hx273_5)).trans hx273_5
            replace p273 := eq_true p273
            replace q273 := eq_true q273
            have hcz7_0 : wr.cell? ⟨gb271, 0, none⟩ = some (.string x272000_1) := (blk_cell BK271.out 0).trans rfl
            have hcz7_1 : wr.cell? ⟨gb271, 1, none⟩ = some (.int .i64 x272001_1) := (blk_cell BK271.out 1).trans rfl
            have hcz7_2 : wr.cell? ⟨gb271, 2, none⟩ = some (.int .i64 x272002_1) := (blk_cell BK271.out 2).trans rfl
            have hcz7_3 : wr.cell? ⟨gb271, 3, none⟩ = some (.int .i64 x272003_1) := (blk_cell BK271.out 3).trans rfl
            have hcz7_4 : wr.cell? ⟨gb271, 4, none⟩ = some (.int .i64 x272004_1) := (blk_cell BK271.out 4).trans rfl
            have hcz7_5 : wr.cell? ⟨gb271, 5, none⟩ = some (.int .i64 x272005_1) := (blk_cell BK271.out 5).trans rfl
            have hfz7_0 := blk_frozen BK271.out 0
            have hfz7_1 := blk_frozen BK271.out 1
            have hfz7_2 := blk_frozen BK271.out 2
            have hfz7_3 := blk_frozen BK271.out 3
            have hfz7_4 := blk_frozen BK271.out 4
            have hfz7_5 := blk_frozen BK271.out 5
            go_wp2
            refine bodyPost_ret (results_ct rfl _ _ gb271 23 #[.string ((rd_T23 l0 x6_1).f0), .int .i64 ((rd_T23 l0 x6_1).f1), .int .i64 ((rd_T23 l0 x6_1).f2), .int .i64 ((rd_T23 l0 x6_1).f3), .int .i64 ((rd_T23 l0 x6_1).f4), .int .i64 ((rd_T23 l0 x6_1).f5)] (0, 0) _ rfl (by (with_reducible repeat (first | refine blk_drewN ?_ _ | refine blk_drew ?_ | refine blk_alloc ?_ _)); refine blk_put (cs := #[.string ((rd_T23 l0 x6_1).f0), .int .i64 ((rd_T23 l0 x6_1).f1), .int .i64 ((rd_T23 l0 x6_1).f2), .int .i64 ((rd_T23 l0 x6_1).f3), .int .i64 ((rd_T23 l0 x6_1).f4), .int .i64 x272005_1]) ?_ 5 _ rfl; (with_reducible repeat (first | refine blk_drewN ?_ _ | refine blk_drew ?_ | refine blk_alloc ?_ _)); refine blk_put (cs := #[.string ((rd_T23 l0 x6_1).f0), .int .i64 ((rd_T23 l0 x6_1).f1), .int .i64 ((rd_T23 l0 x6_1).f2), .int .i64 ((rd_T23 l0 x6_1).f3), .int .i64 x272004_1, .int .i64 x272005_1]) ?_ 4 _ rfl; (with_reducible repeat (first | refine blk_drewN ?_ _ | refine blk_drew ?_ | refine blk_alloc ?_ _)); refine blk_put (cs := #[.string ((rd_T23 l0 x6_1).f0), .int .i64 ((rd_T23 l0 x6_1).f1), .int .i64 ((rd_T23 l0 x6_1).f2), .int .i64 x272003_1, .int .i64 x272004_1, .int .i64 x272005_1]) ?_ 3 _ rfl; (with_reducible repeat (first | refine blk_drewN ?_ _ | refine blk_drew ?_ | refine blk_alloc ?_ _)); refine blk_put (cs := #[.string ((rd_T23 l0 x6_1).f0), .int .i64 ((rd_T23 l0 x6_1).f1), .int .i64 x272002_1, .int .i64 x272003_1, .int .i64 x272004_1, .int .i64 x272005_1]) ?_ 2 _ rfl; (with_reducible repeat (first | refine blk_drewN ?_ _ | refine blk_drew ?_ | refine blk_alloc ?_ _)); refine blk_put (cs := #[.string ((rd_T23 l0 x6_1).f0), .int .i64 x272001_1, .int .i64 x272002_1, .int .i64 x272003_1, .int .i64 x272004_1, .int .i64 x272005_1]) ?_ 1 _ rfl; (with_reducible repeat (first | refine blk_drewN ?_ _ | refine blk_drew ?_ | refine blk_alloc ?_ _)); refine blk_put (cs := #[.string x272000_1, .int .i64 x272001_1, .int .i64 x272002_1, .int .i64 x272003_1, .int .i64 x272004_1, .int .i64 x272005_1]) ?_ 0 _ rfl; (with_reducible repeat (first | refine blk_drewN ?_ _ | refine blk_drew ?_ | refine blk_alloc ?_ _)); exact BK271.out) Try.underlying23 rfl (by kernel_rfl)) rfl ?_
            exact ⟨by first | rfl | (simp [errW_none, errW_some] <;> rfl) | (simp [*, errW_none, errW_some] <;> rfl), by repeat (first | (with_reducible first | exact HB.out | apply below_alloc | apply pw_below_drewN | apply below_drew1 | refine below_set ?_ GE271.out) | exact HB.out)⟩
          · rw [if_neg c6] at H
            have c6b0 : (((rd_T23 l0 x6_1).f0).toList == a1.toList) = false := beq_eq_false_iff_ne.mpr c6
            have c6b1 : (((rd_T23 l0 x6_1).f0).toList != a1.toList) = true := bne_iff_ne.mpr c6
            (try simp only [c6b0, c6b1])
            have H' := Aside0.mk H
            clear H
            go_wp2
            go_roundg k1
            case measure => have := HK1.out; omega
            case rel => exact ⟨(wrap64 (x6_1 + 1)), (x272000_1), (x272001_1), (x272002_1), (x272003_1), (x272004_1), (x272005_1), (by first | rfl | (simp; done) | (simp [*]; done)), H', ⟨by have := HK1.out; omega⟩, ⟨by (with_reducible repeat (first | refine blk_drewN ?_ _ | refine blk_drew ?_ | refine blk_alloc ?_ _)); exact BK271.out⟩, ⟨by repeat (first | (with_reducible first | exact HB.out | apply below_alloc | apply pw_below_drewN | apply below_drew1 | refine below_set ?_ GE271.out) | exact HB.out)⟩⟩
        · rw [if_neg c5] at H
          exact absurd H (by simp)
      · rw [if_neg c4] at H
        have c4b0 : decide (x6_1 < (l0.length : Int)) = false := decide_eq_false c4
        clear c4
        (try simp only [c4b0])
        simp only [Option.some.injEq, Prod.mk.injEq] at H
        obtain ⟨rfl, rfl, rfl, rfl, rfl, rfl, rfl⟩ := H
        have hcz8_0 : wr.cell? ⟨gb271, 0, none⟩ = some (.string x272000_1) := (blk_cell BK271.out 0).trans rfl
        have hcz8_1 : wr.cell? ⟨gb271, 1, none⟩ = some (.int .i64 x272001_1) := (blk_cell BK271.out 1).trans rfl
        have hcz8_2 : wr.cell? ⟨gb271, 2, none⟩ = some (.int .i64 x272002_1) := (blk_cell BK271.out 2).trans rfl
        have hcz8_3 : wr.cell? ⟨gb271, 3, none⟩ = some (.int .i64 x272003_1) := (blk_cell BK271.out 3).trans rfl
        have hcz8_4 : wr.cell? ⟨gb271, 4, none⟩ = some (.int .i64 x272004_1) := (blk_cell BK271.out 4).trans rfl
        have hcz8_5 : wr.cell? ⟨gb271, 5, none⟩ = some (.int .i64 x272005_1) := (blk_cell BK271.out 5).trans rfl
        have hfz8_0 := blk_frozen BK271.out 0
        have hfz8_1 := blk_frozen BK271.out 1
        have hfz8_2 := blk_frozen BK271.out 2
        have hfz8_3 := blk_frozen BK271.out 3
        have hfz8_4 := blk_frozen BK271.out 4
        have hfz8_5 := blk_frozen BK271.out 5
        go_wp2
        refine bodyPost_ret (results_ct rfl _ _ gb271 23 #[.string (⟨#[]⟩ : ByteArray), .int .i64 0, .int .i64 0, .int .i64 0, .int .i64 0, .int .i64 0] (0, 0) _ rfl (by (with_reducible repeat (first | refine blk_drewN ?_ _ | refine blk_drew ?_ | refine blk_alloc ?_ _)); refine blk_put (cs := #[.string (⟨#[]⟩ : ByteArray), .int .i64 0, .int .i64 0, .int .i64 0, .int .i64 0, .int .i64 x272005_1]) ?_ 5 _ rfl; (with_reducible repeat (first | refine blk_drewN ?_ _ | refine blk_drew ?_ | refine blk_alloc ?_ _)); refine blk_put (cs := #[.string (⟨#[]⟩ : ByteArray), .int .i64 0, .int .i64 0, .int .i64 0, .int .i64 x272004_1, .int .i64 x272005_1]) ?_ 4 _ rfl; (with_reducible repeat (first | refine blk_drewN ?_ _ | refine blk_drew ?_ | refine blk_alloc ?_ _)); refine blk_put (cs := #[.string (⟨#[]⟩ : ByteArray), .int .i64 0, .int .i64 0, .int .i64 x272003_1, .int .i64 x272004_1, .int .i64 x272005_1]) ?_ 3 _ rfl; (with_reducible repeat (first | refine blk_drewN ?_ _ | refine blk_drew ?_ | refine blk_alloc ?_ _)); refine blk_put (cs := #[.string (⟨#[]⟩ : ByteArray), .int .i64 0, .int .i64 x272002_1, .int .i64 x272003_1, .int .i64 x272004_1, .int .i64 x272005_1]) ?_ 2 _ rfl; (with_reducible repeat (first | refine blk_drewN ?_ _ | refine blk_drew ?_ | refine blk_alloc ?_ _)); refine blk_put (cs := #[.string (⟨#[]⟩ : ByteArray), .int .i64 x272001_1, .int .i64 x272002_1, .int .i64 x272003_1, .int .i64 x272004_1, .int .i64 x272005_1]) ?_ 1 _ rfl; (with_reducible repeat (first | refine blk_drewN ?_ _ | refine blk_drew ?_ | refine blk_alloc ?_ _)); refine blk_put (cs := #[.string x272000_1, .int .i64 x272001_1, .int .i64 x272002_1, .int .i64 x272003_1, .int .i64 x272004_1, .int .i64 x272005_1]) ?_ 0 _ rfl; (with_reducible repeat (first | refine blk_drewN ?_ _ | refine blk_drew ?_ | refine blk_alloc ?_ _)); exact BK271.out) Try.underlying23 rfl (by kernel_rfl)) rfl ?_
        exact ⟨by first | rfl | (simp [errW_none, errW_some] <;> rfl) | (simp [*, errW_none, errW_some] <;> rfl), by repeat (first | (with_reducible first | exact HB.out | apply below_alloc | apply pw_below_drewN | apply below_drew1 | refine below_set ?_ GE271.out) | exact HB.out)⟩
def contangoref31_CheckAll.l0 : Nat → List (S23) → Int → Option (Int)
  | 0, _, _ => none
  | k + 1, x0, x3 => if x3 < (x0.length : Int) then (if 0 ≤ x3 then ((contangoref31_Check.f k ((rd_T23 x0 x3).f0) ((rd_T23 x0 x3).f1) ((rd_T23 x0 x3).f2) ((rd_T23 x0 x3).f3) ((rd_T23 x0 x3).f4) ((rd_T23 x0 x3).f5)).bind fun t279 => (if t279 = 0 then (if x3 > 0 then (if 0 ≤ (wrap64 (x3 - 1)) then (if (wrap64 (x3 - 1)) < (x0.length : Int) then (if (Op.bytesLess (((rd_T23 x0 x3).f0).toList) (((rd_T23 x0 (wrap64 (x3 - 1))).f0).toList)) = true then (some 12) else (if (((rd_T23 x0 x3).f0).toList) = (((rd_T23 x0 (wrap64 (x3 - 1))).f0).toList) then (some 12) else (contangoref31_CheckAll.l0 k x0 (wrap64 (x3 + 1))))) else (none)) else (none)) else (contangoref31_CheckAll.l0 k x0 (wrap64 (x3 + 1)))) else (some t279))) else (none)) else (some 0)
def contangoref31_CheckAll.f (k : Nat) (l0 : List (S23)) : Option (Int) := if (l0.length : Int) > 1024 then (some 8) else (contangoref31_CheckAll.l0 k l0 0)
theorem contangoref31_CheckAll.mono_l : ∀ k, (∀ y0 y1, LeO (contangoref31_CheckAll.l0 k y0 y1) (contangoref31_CheckAll.l0 (k + 1) y0 y1))
  | 0 => fun _ _ r h => by simp [contangoref31_CheckAll.l0] at h
  | k + 1 => by
    have ih0 := contangoref31_CheckAll.mono_l k
    · intro y0 y1
      unfold contangoref31_CheckAll.l0
      repeat' first
      | (with_reducible exact ih0 _ _)
      | (with_reducible exact contangoref31_Check.mono _ _ _ _ _ _ _)
      | (with_reducible exact LeO.refl _)
      | (with_reducible exact LeO.none _)
      | (with_reducible refine LeO.ite ?_ ?_)
      | (with_reducible refine LeO.bind ?_ (fun _ => ?_))
      | exact ih0 _ _
      | exact contangoref31_Check.mono _ _ _ _ _ _ _
      | exact LeO.none _
      | refine LeO.ite ?_ ?_
      | refine LeO.bind ?_ (fun _ => ?_)
theorem contangoref31_CheckAll.mono : ∀ a0 k, LeO (contangoref31_CheckAll.f k a0) (contangoref31_CheckAll.f (k + 1) a0) := by
  intro a0 k
  have ih0 := contangoref31_CheckAll.mono_l k
  unfold contangoref31_CheckAll.f
  repeat' first
      | (with_reducible exact ih0 _ _)
      | (with_reducible exact contangoref31_Check.mono _ _ _ _ _ _ _)
      | (with_reducible exact LeO.refl _)
      | (with_reducible exact LeO.none _)
      | (with_reducible refine LeO.ite ?_ ?_)
      | (with_reducible refine LeO.bind ?_ (fun _ => ?_))
      | exact ih0 _ _
      | exact contangoref31_Check.mono _ _ _ _ _ _ _
      | exact LeO.none _
      | refine LeO.ite ?_ ?_
      | refine LeO.bind ?_ (fun _ => ?_)
set_option maxHeartbeats 8000000 in
set_option maxRecDepth 100000 in
theorem contangoref31_CheckAll.calls (k : Nat) (A0 : Option Addr) (c0 : Nat) (l0 : List (S23)) (r : Int) (w : World) (hr0 : Kd.C k23 w A0 l0.length l0) (hc0 : l0.length ≤ c0) (h : contangoref31_CheckAll.f k l0 = some r) :
    Calls Try.prog 28 #[.slice A0 l0.length c0] w fun e w' => e = .returned (.int .i64 r) ∧ Below w.heap.size w w' := by
  have hu23 := Try.underlying23
  have HR0 := Aside0.mk hr0
  have HC0 := Aside0.mk hc0
  clear hr0 hc0
  have HB := Aside0.mk (Below.refl w.heap.size w)
  have H : (if (l0.length : Int) > 1024 then (some 8) else (contangoref31_CheckAll.l0 k l0 0)) = some r := h
  clear h
  by_cases c2 : (l0.length : Int) > 1024
  · rw [if_pos c2] at H
    have c2b0 : decide (1024 < (l0.length : Int)) = true := decide_eq_true c2
    have c2b1 : decide (1024 < l0.length) = true := decide_eq_true (by omega)
    clear c2
    obtain rfl := Option.some.inj H
    go_enter Try.func28, Try.ntmps28
    go_wp2
    repeat (go_quiet (fail); try go_wp2)
    go_ret
    exact ⟨by first | rfl | (simp [errW_none, errW_some] <;> rfl) | (simp [*, errW_none, errW_some] <;> rfl), by repeat (first | (with_reducible first | exact HB.out | apply below_alloc | apply pw_below_drewN | apply below_drew1) | exact HB.out)⟩
  · rw [if_neg c2] at H
    have c2b0 : decide (1024 < (l0.length : Int)) = false := decide_eq_false c2
    have c2b1 : decide (1024 < l0.length) = false := decide_eq_false (by omega)
    clear c2
    have H' := Aside0.mk H
    clear H
    go_enter Try.func28, Try.ntmps28
    go_wp2
    repeat (go_quiet (fail); try go_wp2)
    go_loopg [3] k (fun kq v3 w' => ∃ (x3_1 : Int), v3 = .int .i64 x3_1 ∧ Aside0 (contangoref31_CheckAll.l0 kq l0 x3_1 = some r) ∧ Aside0 (kq ≤ k) ∧ Aside0 (Below w.heap.size w w'))
    case atStart => exact ⟨(0), (by first | rfl | (simp; done) | (simp [*]; done)), H', ⟨Nat.le_refl _⟩, ⟨by repeat (first | (with_reducible first | exact HB.out | apply below_alloc | apply pw_below_drewN | apply below_drew1) | exact HB.out)⟩⟩
    case round =>
      clear H'
      try clear c2
      try clear c2b0
      try clear c2b1
      try clear p2
      obtain ⟨x3_1, rfl, HA, HK1, HB⟩ := hrel
      cases gk with
      | zero => exact absurd HA.out (by simp [contangoref31_CheckAll.l0])
      | succ k1 =>
        have H := HA.out
        clear HA
        simp only [contangoref31_CheckAll.l0] at H
        by_cases c3 : x3_1 < (l0.length : Int)
        · rw [if_pos c3] at H
          have c3b0 : decide (x3_1 < (l0.length : Int)) = true := decide_eq_true c3
          clear c3
          (try simp only [c3b0])
          by_cases c4 : 0 ≤ x3_1
          · rw [if_pos c4] at H
            have c4b0 : decide (0 ≤ x3_1) = true := decide_eq_true c4
            clear c4
            replace H := Option.bind_eq_some_iff.mp H
            obtain ⟨t279, A50, H⟩ := H
            replace H : (if t279 = 0 then (if x3_1 > 0 then (if 0 ≤ (wrap64 (x3_1 - 1)) then (if (wrap64 (x3_1 - 1)) < (l0.length : Int) then (if (Op.bytesLess (((rd_T23 l0 x3_1).f0).toList) (((rd_T23 l0 (wrap64 (x3_1 - 1))).f0).toList)) = true then (some 12) else (if (((rd_T23 l0 x3_1).f0).toList) = (((rd_T23 l0 (wrap64 (x3_1 - 1))).f0).toList) then (some 12) else (contangoref31_CheckAll.l0 k1 l0 (wrap64 (x3_1 + 1))))) else (none)) else (none)) else (contangoref31_CheckAll.l0 k1 l0 (wrap64 (x3_1 + 1)))) else (some t279)) = some r := H
            have A5 := Aside0.mk A50
            clear A50
            have p278 : 0 ≤ (x3_1 : Int) := of_decide_eq_true (by first | (with_reducible assumption) | assumption)
            have q278 : x3_1 < (l0.length : Int) := of_decide_eq_true (by first | (with_reducible assumption) | assumption)
            obtain ⟨ad278, e278, hx278_0, hx278_1, hx278_2, hx278_3, hx278_4, hx278_5⟩ := at_T23 HR0.out x3_1 p278 q278
            cases e278
            replace hx278_0 := (HB.out.cell (World.block_lt_of_cell? w _ hx278_0)).trans hx278_0
            replace hx278_1 := (HB.out.cell (World.block_lt_of_cell? w _ hx278_1)).trans hx278_1
            replace hx278_2 := (HB.out.cell (World.block_lt_of_cell? w _ hx278_2)).trans hx278_2
            replace hx278_3 := (HB.out.cell (World.block_lt_of_cell? w _ hx278_3)).trans hx278_3
            replace hx278_4 := (HB.out.cell (World.block_lt_of_cell? w _ hx278_4)).trans hx278_4
            replace hx278_5 := (HB.out.cell (World.block_lt_of_cell? w _ hx278_5)).trans hx278_5
            replace p278 := eq_true p278
            replace q278 := eq_true q278
            go_upto_if 20 with (first | (go_at_call 26; (with_reducible refine (contangoref31_Check.calls k1 ((rd_T23 l0 x3_1).f0) ((rd_T23 l0 x3_1).f1) ((rd_T23 l0 x3_1).f2) ((rd_T23 l0 x3_1).f3) ((rd_T23 l0 x3_1).f4) ((rd_T23 l0 x3_1).f5) t279 _ A5.out).mono ?_); rintro e w6 ⟨rfl, hb⟩; have n0_ := Aside0.mk (below_step (by repeat (first | (with_reducible first | exact HB.out | apply below_alloc | apply pw_below_drewN | apply below_drew1) | exact HB.out)) hb); clear HB; have HB := n0_; clear n0_; (try clear hb); (try clear hb2); (try clear hk); (try clear hi)))
            repeat (go_quiet (first | (go_at_call 26; (with_reducible refine (contangoref31_Check.calls k1 ((rd_T23 l0 x3_1).f0) ((rd_T23 l0 x3_1).f1) ((rd_T23 l0 x3_1).f2) ((rd_T23 l0 x3_1).f3) ((rd_T23 l0 x3_1).f4) ((rd_T23 l0 x3_1).f5) t279 _ A5.out).mono ?_); rintro e w6 ⟨rfl, hb⟩; have n0_ := Aside0.mk (below_step (by repeat (first | (with_reducible first | exact HB.out | apply below_alloc | apply pw_below_drewN | apply below_drew1) | exact HB.out)) hb); clear HB; have HB := n0_; clear n0_; (try clear hb); (try clear hb2); (try clear hk); (try clear hi))); go_upto_if 20 with (first | (go_at_call 26; (with_reducible refine (contangoref31_Check.calls k1 ((rd_T23 l0 x3_1).f0) ((rd_T23 l0 x3_1).f1) ((rd_T23 l0 x3_1).f2) ((rd_T23 l0 x3_1).f3) ((rd_T23 l0 x3_1).f4) ((rd_T23 l0 x3_1).f5) t279 _ A5.out).mono ?_); rintro e w6 ⟨rfl, hb⟩; have n0_ := Aside0.mk (below_step (by repeat (first | (with_reducible first | exact HB.out | apply below_alloc | apply pw_below_drewN | apply below_drew1) | exact HB.out)) hb); clear HB; have HB := n0_; clear n0_; (try clear hb); (try clear hb2); (try clear hk); (try clear hi))))
            (try simp only [Act.put, List.setIfInBounds_toArray, List.set_cons_zero, List.set_cons_succ])
            by_cases c7 : t279 = 0
            · rw [if_pos c7] at H
              have c7b0 : (t279 == 0) = true := beq_iff_eq.mpr c7
              have c7b1 : (t279 != 0) = false := bne_eq_false_iff_eq.mpr c7
              clear c7
              (try simp only [c7b0, c7b1])
              by_cases c8 : x3_1 > 0
              · rw [if_pos c8] at H
                have c8b0 : decide (0 < x3_1) = true := decide_eq_true c8
                clear c8
                obtain ⟨ji9, hji9⟩ : ∃ j_ : Int, (wrap64 (x3_1 - 1)) = j_ := ⟨_, rfl⟩
                replace H : (if 0 ≤ (ji9) then (if (ji9) < (l0.length : Int) then (if (Op.bytesLess (((rd_T23 l0 x3_1).f0).toList) (((rd_T23 l0 (ji9)).f0).toList)) = true then (some 12) else (if (((rd_T23 l0 x3_1).f0).toList) = (((rd_T23 l0 (ji9)).f0).toList) then (some 12) else (contangoref31_CheckAll.l0 k1 l0 (wrap64 (x3_1 + 1))))) else (none)) else (none)) = some r := by first | (rw [hji9] at H; exact H) | (simp only [hji9] at H ⊢; exact H)
                have hji9w : (IntKind.i64.wrap (x3_1 - 1)) = ji9 := (i64_w _).trans hji9
                by_cases c10 : 0 ≤ (ji9)
                · rw [if_pos c10] at H
                  have c10b0 : decide (0 ≤ (ji9)) = true := decide_eq_true c10
                  clear c10
                  by_cases c11 : (ji9) < (l0.length : Int)
                  · rw [if_pos c11] at H
                    have c11b0 : decide ((ji9) < (l0.length : Int)) = true := decide_eq_true c11
                    clear c11
                    by_cases c12 : (Op.bytesLess (((rd_T23 l0 x3_1).f0).toList) (((rd_T23 l0 (ji9)).f0).toList)) = true
                    · rw [if_pos c12] at H
                      have c12b0 : (Op.bytesLess (((rd_T23 l0 x3_1).f0).toList) (((rd_T23 l0 (ji9)).f0).toList)) = true := c12
                      clear c12
                      obtain rfl := Option.some.inj H
                      have p280 : 0 ≤ (x3_1 : Int) := of_decide_eq_true (by first | (with_reducible assumption) | assumption)
                      have q280 : x3_1 < (l0.length : Int) := of_decide_eq_true (by first | (with_reducible assumption) | assumption)
                      obtain ⟨ad280, e280, hx280_0, hx280_1, hx280_2, hx280_3, hx280_4, hx280_5⟩ := at_T23 HR0.out x3_1 p280 q280
                      obtain rfl : ad278 = ad280 := (by injection e280)
                      replace hx280_0 := (HB.out.cell (World.block_lt_of_cell? w _ hx280_0)).trans hx280_0
                      replace hx280_1 := (HB.out.cell (World.block_lt_of_cell? w _ hx280_1)).trans hx280_1
                      replace hx280_2 := (HB.out.cell (World.block_lt_of_cell? w _ hx280_2)).trans hx280_2
                      replace hx280_3 := (HB.out.cell (World.block_lt_of_cell? w _ hx280_3)).trans hx280_3
                      replace hx280_4 := (HB.out.cell (World.block_lt_of_cell? w _ hx280_4)).trans hx280_4
                      replace hx280_5 := (HB.out.cell (World.block_lt_of_cell? w _ hx280_5)).trans hx280_5
                      replace p280 := eq_true p280
                      replace q280 := eq_true q280
                      have p281 : 0 ≤ ((ji9) : Int) := of_decide_eq_true (by first | (with_reducible assumption) | assumption)
                      have q281 : (ji9) < (l0.length : Int) := of_decide_eq_true (by first | (with_reducible assumption) | assumption)
                      obtain ⟨ad281, e281, hx281_0, hx281_1, hx281_2, hx281_3, hx281_4, hx281_5⟩ := at_T23 HR0.out (ji9) p281 q281
                      obtain rfl : ad278 = ad281 := (by injection e281)
                      replace hx281_0 := (HB.out.cell (World.block_lt_of_cell? w _ hx281_0)).trans hx281_0
                      replace hx281_1 := (HB.out.cell (World.block_lt_of_cell? w _ hx281_1)).trans hx281_1
                      replace hx281_2 := (HB.out.cell (World.block_lt_of_cell? w _ hx281_2)).trans hx281_2
                      replace hx281_3 := (HB.out.cell (World.block_lt_of_cell? w _ hx281_3)).trans hx281_3
                      replace hx281_4 := (HB.out.cell (World.block_lt_of_cell? w _ hx281_4)).trans hx281_4
                      replace hx281_5 := (HB.out.cell (World.block_lt_of_cell? w _ hx281_5)).trans hx281_5
                      replace p281 := eq_true p281
                      replace q281 := eq_true q281
                      go_wp2
                      repeat (go_quiet (fail); try go_wp2)
                      go_ret
                      exact ⟨by first | rfl | (simp [errW_none, errW_some] <;> rfl) | (simp only [← hji9]; first | rfl | (simp [errW_none, errW_some] <;> rfl)) | (simp [*, errW_none, errW_some] <;> rfl), by repeat (first | (with_reducible first | exact HB.out | apply below_alloc | apply pw_below_drewN | apply below_drew1) | exact HB.out)⟩
                    · rw [if_neg c12] at H
                      have c12b0 : (Op.bytesLess (((rd_T23 l0 x3_1).f0).toList) (((rd_T23 l0 (ji9)).f0).toList)) = false := by simpa using c12
                      clear c12
                      by_cases c13 : (((rd_T23 l0 x3_1).f0).toList) = (((rd_T23 l0 (ji9)).f0).toList)
                      · rw [if_pos c13] at H
                        have c13b0 : ((((rd_T23 l0 x3_1).f0).toList) == (((rd_T23 l0 (ji9)).f0).toList)) = true := beq_iff_eq.mpr c13
                        have c13b1 : ((((rd_T23 l0 x3_1).f0).toList) != (((rd_T23 l0 (ji9)).f0).toList)) = false := bne_eq_false_iff_eq.mpr c13
                        clear c13
                        obtain rfl := Option.some.inj H
                        have p280 : 0 ≤ (x3_1 : Int) := of_decide_eq_true (by first | (with_reducible assumption) | assumption)
                        have q280 : x3_1 < (l0.length : Int) := of_decide_eq_true (by first | (with_reducible assumption) | assumption)
                        obtain ⟨ad280, e280, hx280_0, hx280_1, hx280_2, hx280_3, hx280_4, hx280_5⟩ := at_T23 HR0.out x3_1 p280 q280
                        obtain rfl : ad278 = ad280 := (by injection e280)
                        replace hx280_0 := (HB.out.cell (World.block_lt_of_cell? w _ hx280_0)).trans hx280_0
                        replace hx280_1 := (HB.out.cell (World.block_lt_of_cell? w _ hx280_1)).trans hx280_1
                        replace hx280_2 := (HB.out.cell (World.block_lt_of_cell? w _ hx280_2)).trans hx280_2
                        replace hx280_3 := (HB.out.cell (World.block_lt_of_cell? w _ hx280_3)).trans hx280_3
                        replace hx280_4 := (HB.out.cell (World.block_lt_of_cell? w _ hx280_4)).trans hx280_4
                        replace hx280_5 := (HB.out.cell (World.block_lt_of_cell? w _ hx280_5)).trans hx280_5
                        replace p280 := eq_true p280
                        replace q280 := eq_true q280
                        have p281 : 0 ≤ ((ji9) : Int) := of_decide_eq_true (by first | (with_reducible assumption) | assumption)
                        have q281 : (ji9) < (l0.length : Int) := of_decide_eq_true (by first | (with_reducible assumption) | assumption)
                        obtain ⟨ad281, e281, hx281_0, hx281_1, hx281_2, hx281_3, hx281_4, hx281_5⟩ := at_T23 HR0.out (ji9) p281 q281
                        obtain rfl : ad278 = ad281 := (by injection e281)
                        replace hx281_0 := (HB.out.cell (World.block_lt_of_cell? w _ hx281_0)).trans hx281_0
                        replace hx281_1 := (HB.out.cell (World.block_lt_of_cell? w _ hx281_1)).trans hx281_1
                        replace hx281_2 := (HB.out.cell (World.block_lt_of_cell? w _ hx281_2)).trans hx281_2
                        replace hx281_3 := (HB.out.cell (World.block_lt_of_cell? w _ hx281_3)).trans hx281_3
                        replace hx281_4 := (HB.out.cell (World.block_lt_of_cell? w _ hx281_4)).trans hx281_4
                        replace hx281_5 := (HB.out.cell (World.block_lt_of_cell? w _ hx281_5)).trans hx281_5
                        replace p281 := eq_true p281
                        replace q281 := eq_true q281
                        go_wp2
                        repeat (go_quiet (fail); try go_wp2)
                        go_ret
                        exact ⟨by first | rfl | (simp [errW_none, errW_some] <;> rfl) | (simp only [← hji9]; first | rfl | (simp [errW_none, errW_some] <;> rfl)) | (simp [*, errW_none, errW_some] <;> rfl), by repeat (first | (with_reducible first | exact HB.out | apply below_alloc | apply pw_below_drewN | apply below_drew1) | exact HB.out)⟩
                      · rw [if_neg c13] at H
                        have c13b0 : ((((rd_T23 l0 x3_1).f0).toList) == (((rd_T23 l0 (ji9)).f0).toList)) = false := beq_eq_false_iff_ne.mpr c13
                        have c13b1 : ((((rd_T23 l0 x3_1).f0).toList) != (((rd_T23 l0 (ji9)).f0).toList)) = true := bne_iff_ne.mpr c13
                        have H' := Aside0.mk H
                        clear H
                        have p280 : 0 ≤ (x3_1 : Int) := of_decide_eq_true (by first | (with_reducible assumption) | assumption)
                        have q280 : x3_1 < (l0.length : Int) := of_decide_eq_true (by first | (with_reducible assumption) | assumption)
                        obtain ⟨ad280, e280, hx280_0, hx280_1, hx280_2, hx280_3, hx280_4, hx280_5⟩ := at_T23 HR0.out x3_1 p280 q280
                        obtain rfl : ad278 = ad280 := (by injection e280)
                        replace hx280_0 := (HB.out.cell (World.block_lt_of_cell? w _ hx280_0)).trans hx280_0
                        replace hx280_1 := (HB.out.cell (World.block_lt_of_cell? w _ hx280_1)).trans hx280_1
                        replace hx280_2 := (HB.out.cell (World.block_lt_of_cell? w _ hx280_2)).trans hx280_2
                        replace hx280_3 := (HB.out.cell (World.block_lt_of_cell? w _ hx280_3)).trans hx280_3
                        replace hx280_4 := (HB.out.cell (World.block_lt_of_cell? w _ hx280_4)).trans hx280_4
                        replace hx280_5 := (HB.out.cell (World.block_lt_of_cell? w _ hx280_5)).trans hx280_5
                        replace p280 := eq_true p280
                        replace q280 := eq_true q280
                        have p281 : 0 ≤ ((ji9) : Int) := of_decide_eq_true (by first | (with_reducible assumption) | assumption)
                        have q281 : (ji9) < (l0.length : Int) := of_decide_eq_true (by first | (with_reducible assumption) | assumption)
                        obtain ⟨ad281, e281, hx281_0, hx281_1, hx281_2, hx281_3, hx281_4, hx281_5⟩ := at_T23 HR0.out (ji9) p281 q281
                        obtain rfl : ad278 = ad281 := (by injection e281)
                        replace hx281_0 := (HB.out.cell (World.block_lt_of_cell? w _ hx281_0)).trans hx281_0
                        replace hx281_1 := (HB.out.cell (World.block_lt_of_cell? w _ hx281_1)).trans hx281_1
                        replace hx281_2 := (HB.out.cell (World.block_lt_of_cell? w _ hx281_2)).trans hx281_2
                        replace hx281_3 := (HB.out.cell (World.block_lt_of_cell? w _ hx281_3)).trans hx281_3
                        replace hx281_4 := (HB.out.cell (World.block_lt_of_cell? w _ hx281_4)).trans hx281_4
                        replace hx281_5 := (HB.out.cell (World.block_lt_of_cell? w _ hx281_5)).trans hx281_5
                        replace p281 := eq_true p281
                        replace q281 := eq_true q281
                        go_wp2
                        repeat (go_quiet (fail); try go_wp2)
                        go_roundg k1
                        case measure => have := HK1.out; omega
                        case rel => exact ⟨(wrap64 (x3_1 + 1)), (by first | rfl | (simp; done) | (simp [*]; done)), H', ⟨by have := HK1.out; omega⟩, ⟨by repeat (first | (with_reducible first | exact HB.out | apply below_alloc | apply pw_below_drewN | apply below_drew1) | exact HB.out)⟩⟩
                  · rw [if_neg c11] at H
                    exact absurd H (by simp)
                · rw [if_neg c10] at H
                  exact absurd H (by simp)
              · rw [if_neg c8] at H
                have c8b0 : decide (0 < x3_1) = false := decide_eq_false c8
                clear c8
                have H' := Aside0.mk H
                clear H
                go_wp2
                repeat (go_quiet (fail); try go_wp2)
                go_roundg k1
                case measure => have := HK1.out; omega
                case rel => exact ⟨(wrap64 (x3_1 + 1)), (by first | rfl | (simp; done) | (simp [*]; done)), H', ⟨by have := HK1.out; omega⟩, ⟨by repeat (first | (with_reducible first | exact HB.out | apply below_alloc | apply pw_below_drewN | apply below_drew1) | exact HB.out)⟩⟩
            · rw [if_neg c7] at H
              have c7b0 : (t279 == 0) = false := beq_eq_false_iff_ne.mpr c7
              have c7b1 : (t279 != 0) = true := bne_iff_ne.mpr c7
              (try simp only [c7b0, c7b1])
              obtain rfl := Option.some.inj H
              go_wp2
              repeat (go_quiet (fail); try go_wp2)
              go_ret
              exact ⟨by first | rfl | (simp [errW_none, errW_some] <;> rfl) | (simp [*, errW_none, errW_some] <;> rfl), by repeat (first | (with_reducible first | exact HB.out | apply below_alloc | apply pw_below_drewN | apply below_drew1) | exact HB.out)⟩
          · rw [if_neg c4] at H
            exact absurd H (by simp)
        · rw [if_neg c3] at H
          have c3b0 : decide (x3_1 < (l0.length : Int)) = false := decide_eq_false c3
          clear c3
          (try simp only [c3b0])
          obtain rfl := Option.some.inj H
          go_wp2
          repeat (go_quiet (fail); try go_wp2)
          go_ret
          exact ⟨by first | rfl | (simp [errW_none, errW_some] <;> rfl) | (simp [*, errW_none, errW_some] <;> rfl), by repeat (first | (with_reducible first | exact HB.out | apply below_alloc | apply pw_below_drewN | apply below_drew1) | exact HB.out)⟩
end Go.Proofs.Ytaiekjimdjlgbaa.Pr
