-- printed by xprint.py, a program of this session (wip/tool), which drives the print. Lean checks it.
import Derived.Test.YtffdehnmoimikaaPrx0
import Derived.Test.YtffdehnmoimikaaPrx10
import Derived.Test.YtffdehnmoimikaaPrx14
import Derived.Test.YtffdehnmoimikaaPrx39
import Derived.Test.YtffdehnmoimikaaPrx46
import Derived.Test.YtffdehnmoimikaaPrx47
import Derived.Test.YtffdehnmoimikaaPrx48
import Derived.Test.YtffdehnmoimikaaPrx56
import Derived.Test.YtffdehnmoimikaaPrx58
import Derived.Test.YtffdehnmoimikaaPrx59
import Derived.Test.YtffdehnmoimikaaPrx60
import Derived.Test.YtffdehnmoimikaaPrx61
namespace Go.Proofs.Ytffdehnmoimikaa.Pr
open Go.RowKit Go.Proofs.YtffdehnmoimikaaW.PrintWords Go.Proofs.YtffdehnmoimikaaW.PrintLast Go.Proofs.YtffdehnmoimikaaW.PrintMore
attribute [local go_sem] max2_int min2_int max_two min_two max_three min_three max_four min_four   -- for this text's walks alone
set_option linter.unusedVariables false
set_option linter.unusedSimpArgs false

/-! ### contangolaw01_CentsAdds: function 11 -/
def contangolaw01_CentsAdds.j0 : Nat → Int → Int → Int → Bool → Option (Bool)
  | 0, _, _, _, _ => none
  | k + 1, x0, x1, x2, x82 => if x82 = true then (some false) else ((cents_Fits.f x0).bind fun t260 => ((contangoref01_Fits.f x0).bind fun t261 => (if (t260 == t261) = true then ((cents_Clamp.f k x0 x1 x2).bind fun t262 => ((contangoref01_Clamp.f k x0 x1 x2).bind fun t263 => (if t262 = t263 then ((contangolaw01_goes.f k).bind fun t264 => (some t264)) else (some false)))) else (some false))))
def contangolaw01_CentsAdds.f (k : Nat) (a0 : Int) (a1 : Int) (a2 : Int) : Option (Bool) := (cents_Add.f a0 a1).bind fun bt248 => ((contangoref01_Add.f k a0 a1).bind fun bt250 => ((cents_Sub.f a0 a1).bind fun bt252 => ((contangoref01_Sub.f k a0 a1).bind fun bt254 => ((cents_Mul.f k a0 a1).bind fun bt256 => ((contangoref01_Mul.f k a0 a1).bind fun bt258 => (if bt248.1 = bt250.1 then (if bt252.1 = bt254.1 then (if bt256.1 = bt258.1 then (if bt248.2 = bt250.2 then (if bt252.2 = bt254.2 then (contangolaw01_CentsAdds.j0 k a0 a1 a2 (bt256.2 != bt258.2)) else (contangolaw01_CentsAdds.j0 k a0 a1 a2 true)) else (contangolaw01_CentsAdds.j0 k a0 a1 a2 true)) else (contangolaw01_CentsAdds.j0 k a0 a1 a2 true)) else (contangolaw01_CentsAdds.j0 k a0 a1 a2 true)) else (contangolaw01_CentsAdds.j0 k a0 a1 a2 true)))))))
theorem contangolaw01_CentsAdds.mono_l : ∀ k, (∀ y0 y1 y2 y3, LeO (contangolaw01_CentsAdds.j0 k y0 y1 y2 y3) (contangolaw01_CentsAdds.j0 (k + 1) y0 y1 y2 y3))
  | 0 => fun _ _ _ _ r h => by simp [contangolaw01_CentsAdds.j0] at h
  | k + 1 => by
    have ih0 := contangolaw01_CentsAdds.mono_l k
    · intro y0 y1 y2 y3
      unfold contangolaw01_CentsAdds.j0
      repeat' first
      | (with_reducible exact ih0 _ _ _ _)
      | (with_reducible exact cents_Clamp.mono _ _ _ _)
      | (with_reducible exact cents_Mul.mono _ _ _)
      | (with_reducible exact contangolaw01_goes.mono _)
      | (with_reducible exact contangoref01_Add.mono _ _ _)
      | (with_reducible exact contangoref01_Clamp.mono _ _ _ _)
      | (with_reducible exact contangoref01_Mul.mono _ _ _)
      | (with_reducible exact contangoref01_Sub.mono _ _ _)
      | (with_reducible exact LeO.refl _)
      | (with_reducible exact LeO.none _)
      | (with_reducible refine LeO.ite ?_ ?_)
      | (with_reducible refine LeO.bind ?_ (fun _ => ?_))
      | exact ih0 _ _ _ _
      | exact cents_Clamp.mono _ _ _ _
      | exact cents_Mul.mono _ _ _
      | exact contangolaw01_goes.mono _
      | exact contangoref01_Add.mono _ _ _
      | exact contangoref01_Clamp.mono _ _ _ _
      | exact contangoref01_Mul.mono _ _ _
      | exact contangoref01_Sub.mono _ _ _
      | exact LeO.none _
      | refine LeO.ite ?_ ?_
      | refine LeO.bind ?_ (fun _ => ?_)
theorem contangolaw01_CentsAdds.mono : ∀ a0 a1 a2 k, LeO (contangolaw01_CentsAdds.f k a0 a1 a2) (contangolaw01_CentsAdds.f (k + 1) a0 a1 a2) := by
  intro a0 a1 a2 k
  have ih0 := contangolaw01_CentsAdds.mono_l k
  unfold contangolaw01_CentsAdds.f
  repeat' first
      | (with_reducible exact ih0 _ _ _ _)
      | (with_reducible exact cents_Clamp.mono _ _ _ _)
      | (with_reducible exact cents_Mul.mono _ _ _)
      | (with_reducible exact contangolaw01_goes.mono _)
      | (with_reducible exact contangoref01_Add.mono _ _ _)
      | (with_reducible exact contangoref01_Clamp.mono _ _ _ _)
      | (with_reducible exact contangoref01_Mul.mono _ _ _)
      | (with_reducible exact contangoref01_Sub.mono _ _ _)
      | (with_reducible exact LeO.refl _)
      | (with_reducible exact LeO.none _)
      | (with_reducible refine LeO.ite ?_ ?_)
      | (with_reducible refine LeO.bind ?_ (fun _ => ?_))
      | exact ih0 _ _ _ _
      | exact cents_Clamp.mono _ _ _ _
      | exact cents_Mul.mono _ _ _
      | exact contangolaw01_goes.mono _
      | exact contangoref01_Add.mono _ _ _
      | exact contangoref01_Clamp.mono _ _ _ _
      | exact contangoref01_Mul.mono _ _ _
      | exact contangoref01_Sub.mono _ _ _
      | exact LeO.none _
      | refine LeO.ite ?_ ?_
      | refine LeO.bind ?_ (fun _ => ?_)
set_option maxHeartbeats 8000000 in
set_option maxRecDepth 100000 in
theorem contangolaw01_CentsAdds.calls (k : Nat) (a0 : Int) (a1 : Int) (a2 : Int) (r : Bool) (w : World) (h : contangolaw01_CentsAdds.f k a0 a1 a2 = some r) :
    Calls Try.prog 11 #[.int .i64 a0, .int .i64 a1, .int .i64 a2] w fun e w' => e = .returned (.bool r) ∧ Below w.heap.size w w' := by
  have HB := Aside0.mk (Below.refl w.heap.size w)
  have H : ((cents_Add.f a0 a1).bind fun bt248 => ((contangoref01_Add.f k a0 a1).bind fun bt250 => ((cents_Sub.f a0 a1).bind fun bt252 => ((contangoref01_Sub.f k a0 a1).bind fun bt254 => ((cents_Mul.f k a0 a1).bind fun bt256 => ((contangoref01_Mul.f k a0 a1).bind fun bt258 => (if bt248.1 = bt250.1 then (if bt252.1 = bt254.1 then (if bt256.1 = bt258.1 then (if bt248.2 = bt250.2 then (if bt252.2 = bt254.2 then (contangolaw01_CentsAdds.j0 k a0 a1 a2 (bt256.2 != bt258.2)) else (contangolaw01_CentsAdds.j0 k a0 a1 a2 true)) else (contangolaw01_CentsAdds.j0 k a0 a1 a2 true)) else (contangolaw01_CentsAdds.j0 k a0 a1 a2 true)) else (contangolaw01_CentsAdds.j0 k a0 a1 a2 true)) else (contangolaw01_CentsAdds.j0 k a0 a1 a2 true)))))))) = some r := h
  clear h
  replace H := Option.bind_eq_some_iff.mp H
  obtain ⟨⟨t248, t249⟩, A40, H⟩ := H
  replace H : ((contangoref01_Add.f k a0 a1).bind fun bt250 => ((cents_Sub.f a0 a1).bind fun bt252 => ((contangoref01_Sub.f k a0 a1).bind fun bt254 => ((cents_Mul.f k a0 a1).bind fun bt256 => ((contangoref01_Mul.f k a0 a1).bind fun bt258 => (if t248 = bt250.1 then (if bt252.1 = bt254.1 then (if bt256.1 = bt258.1 then (if t249 = bt250.2 then (if bt252.2 = bt254.2 then (contangolaw01_CentsAdds.j0 k a0 a1 a2 (bt256.2 != bt258.2)) else (contangolaw01_CentsAdds.j0 k a0 a1 a2 true)) else (contangolaw01_CentsAdds.j0 k a0 a1 a2 true)) else (contangolaw01_CentsAdds.j0 k a0 a1 a2 true)) else (contangolaw01_CentsAdds.j0 k a0 a1 a2 true)) else (contangolaw01_CentsAdds.j0 k a0 a1 a2 true))))))) = some r := H
  have A4 := Aside0.mk A40
  clear A40
  replace H := Option.bind_eq_some_iff.mp H
  obtain ⟨⟨t250, t251⟩, A50, H⟩ := H
  replace H : ((cents_Sub.f a0 a1).bind fun bt252 => ((contangoref01_Sub.f k a0 a1).bind fun bt254 => ((cents_Mul.f k a0 a1).bind fun bt256 => ((contangoref01_Mul.f k a0 a1).bind fun bt258 => (if t248 = t250 then (if bt252.1 = bt254.1 then (if bt256.1 = bt258.1 then (if t249 = t251 then (if bt252.2 = bt254.2 then (contangolaw01_CentsAdds.j0 k a0 a1 a2 (bt256.2 != bt258.2)) else (contangolaw01_CentsAdds.j0 k a0 a1 a2 true)) else (contangolaw01_CentsAdds.j0 k a0 a1 a2 true)) else (contangolaw01_CentsAdds.j0 k a0 a1 a2 true)) else (contangolaw01_CentsAdds.j0 k a0 a1 a2 true)) else (contangolaw01_CentsAdds.j0 k a0 a1 a2 true)))))) = some r := H
  have A5 := Aside0.mk A50
  clear A50
  replace H := Option.bind_eq_some_iff.mp H
  obtain ⟨⟨t252, t253⟩, A60, H⟩ := H
  replace H : ((contangoref01_Sub.f k a0 a1).bind fun bt254 => ((cents_Mul.f k a0 a1).bind fun bt256 => ((contangoref01_Mul.f k a0 a1).bind fun bt258 => (if t248 = t250 then (if t252 = bt254.1 then (if bt256.1 = bt258.1 then (if t249 = t251 then (if t253 = bt254.2 then (contangolaw01_CentsAdds.j0 k a0 a1 a2 (bt256.2 != bt258.2)) else (contangolaw01_CentsAdds.j0 k a0 a1 a2 true)) else (contangolaw01_CentsAdds.j0 k a0 a1 a2 true)) else (contangolaw01_CentsAdds.j0 k a0 a1 a2 true)) else (contangolaw01_CentsAdds.j0 k a0 a1 a2 true)) else (contangolaw01_CentsAdds.j0 k a0 a1 a2 true))))) = some r := H
  have A6 := Aside0.mk A60
  clear A60
  replace H := Option.bind_eq_some_iff.mp H
  obtain ⟨⟨t254, t255⟩, A70, H⟩ := H
  replace H : ((cents_Mul.f k a0 a1).bind fun bt256 => ((contangoref01_Mul.f k a0 a1).bind fun bt258 => (if t248 = t250 then (if t252 = t254 then (if bt256.1 = bt258.1 then (if t249 = t251 then (if t253 = t255 then (contangolaw01_CentsAdds.j0 k a0 a1 a2 (bt256.2 != bt258.2)) else (contangolaw01_CentsAdds.j0 k a0 a1 a2 true)) else (contangolaw01_CentsAdds.j0 k a0 a1 a2 true)) else (contangolaw01_CentsAdds.j0 k a0 a1 a2 true)) else (contangolaw01_CentsAdds.j0 k a0 a1 a2 true)) else (contangolaw01_CentsAdds.j0 k a0 a1 a2 true)))) = some r := H
  have A7 := Aside0.mk A70
  clear A70
  replace H := Option.bind_eq_some_iff.mp H
  obtain ⟨⟨t256, t257⟩, A80, H⟩ := H
  replace H : ((contangoref01_Mul.f k a0 a1).bind fun bt258 => (if t248 = t250 then (if t252 = t254 then (if t256 = bt258.1 then (if t249 = t251 then (if t253 = t255 then (contangolaw01_CentsAdds.j0 k a0 a1 a2 (t257 != bt258.2)) else (contangolaw01_CentsAdds.j0 k a0 a1 a2 true)) else (contangolaw01_CentsAdds.j0 k a0 a1 a2 true)) else (contangolaw01_CentsAdds.j0 k a0 a1 a2 true)) else (contangolaw01_CentsAdds.j0 k a0 a1 a2 true)) else (contangolaw01_CentsAdds.j0 k a0 a1 a2 true))) = some r := H
  have A8 := Aside0.mk A80
  clear A80
  replace H := Option.bind_eq_some_iff.mp H
  obtain ⟨⟨t258, t259⟩, A90, H⟩ := H
  replace H : (if t248 = t250 then (if t252 = t254 then (if t256 = t258 then (if t249 = t251 then (if t253 = t255 then (contangolaw01_CentsAdds.j0 k a0 a1 a2 (t257 != t259)) else (contangolaw01_CentsAdds.j0 k a0 a1 a2 true)) else (contangolaw01_CentsAdds.j0 k a0 a1 a2 true)) else (contangolaw01_CentsAdds.j0 k a0 a1 a2 true)) else (contangolaw01_CentsAdds.j0 k a0 a1 a2 true)) else (contangolaw01_CentsAdds.j0 k a0 a1 a2 true)) = some r := H
  have A9 := Aside0.mk A90
  clear A90
  have HC10 := Aside0.mk H
  clear H
  go_enter Try.func11, Try.ntmps11
  go_upto_region 7 with (first | ((with_reducible refine gate_callee (f := 26) rfl ?_); refine goesL_ (some 22) rfl rfl Try.func26 (by kernel_rfl) rfl #[.int .i64 a0, .int .i64 a1] rfl (by (try simp only [List.map_toArray, List.map_cons, List.map_nil]); first | done | rfl | (simp only [List.length_drop, List.length_take]; rfl)) ?_; (with_reducible refine (cents_Add.calls a0 a1 t248 t249 _ A4.out).mono ?_); rintro e w' ⟨rfl, ⟨nd, rfl⟩⟩; refine ⟨_, rfl, ?_⟩) | ((with_reducible refine gate_callee (f := 29) rfl ?_); refine goesL_ (some 28) rfl rfl Try.func29 (by kernel_rfl) rfl #[.int .i64 a0, .int .i64 a1] rfl (by (try simp only [List.map_toArray, List.map_cons, List.map_nil]); first | done | rfl | (simp only [List.length_drop, List.length_take]; rfl)) ?_; (with_reducible refine (contangoref01_Add.calls k a0 a1 t250 t251 _ A5.out).mono ?_); rintro e w' ⟨rfl, ⟨nd, rfl⟩⟩; refine ⟨_, rfl, ?_⟩) | ((with_reducible refine gate_callee (f := 27) rfl ?_); refine goesL_ (some 34) rfl rfl Try.func27 (by kernel_rfl) rfl #[.int .i64 a0, .int .i64 a1] rfl (by (try simp only [List.map_toArray, List.map_cons, List.map_nil]); first | done | rfl | (simp only [List.length_drop, List.length_take]; rfl)) ?_; (with_reducible refine (cents_Sub.calls a0 a1 t252 t253 _ A6.out).mono ?_); rintro e w' ⟨rfl, ⟨nd, rfl⟩⟩; refine ⟨_, rfl, ?_⟩) | ((with_reducible refine gate_callee (f := 30) rfl ?_); refine goesL_ (some 40) rfl rfl Try.func30 (by kernel_rfl) rfl #[.int .i64 a0, .int .i64 a1] rfl (by (try simp only [List.map_toArray, List.map_cons, List.map_nil]); first | done | rfl | (simp only [List.length_drop, List.length_take]; rfl)) ?_; (with_reducible refine (contangoref01_Sub.calls k a0 a1 t254 t255 _ A7.out).mono ?_); rintro e w' ⟨rfl, ⟨nd, rfl⟩⟩; refine ⟨_, rfl, ?_⟩) | ((with_reducible refine gate_callee (f := 31) rfl ?_); refine goesL_ (some 46) rfl rfl Try.func31 (by kernel_rfl) rfl #[.int .i64 a0, .int .i64 a1] rfl (by (try simp only [List.map_toArray, List.map_cons, List.map_nil]); first | done | rfl | (simp only [List.length_drop, List.length_take]; rfl)) ?_; (with_reducible refine (cents_Mul.calls k a0 a1 t256 t257 _ A8.out).mono ?_); rintro e w' ⟨rfl, ⟨nd, rfl⟩⟩; refine ⟨_, rfl, ?_⟩) | ((with_reducible refine gate_callee (f := 32) rfl ?_); refine goesL_ (some 52) rfl rfl Try.func32 (by kernel_rfl) rfl #[.int .i64 a0, .int .i64 a1] rfl (by (try simp only [List.map_toArray, List.map_cons, List.map_nil]); first | done | rfl | (simp only [List.length_drop, List.length_take]; rfl)) ?_; (with_reducible refine (contangoref01_Mul.calls k a0 a1 t258 t259 _ A9.out).mono ?_); rintro e w' ⟨rfl, ⟨nd, rfl⟩⟩; refine ⟨_, rfl, ?_⟩))
  (try simp only [Act.put, List.setIfInBounds_toArray, List.set_cons_zero, List.set_cons_succ])
  go_cut [82] (fun v82 wc => ∃ (kq : Nat) (x82_9 : Bool), v82 = .bool x82_9 ∧ Aside0 (contangolaw01_CentsAdds.j0 kq a0 a1 a2 x82_9 = some r) ∧ Aside0 (kq ≤ k) ∧ Aside0 (Below w.heap.size w wc))
  case first =>
    have H := HC10.out
    clear HC10
    by_cases c11 : t248 = t250
    · rw [if_pos c11] at H
      have c11b0 : (t248 == t250) = true := beq_iff_eq.mpr c11
      have c11b1 : (t248 != t250) = false := bne_eq_false_iff_eq.mpr c11
      clear c11
      (first | rw [c11b0] | (simp only [i64_w, i32_w]; rw [c11b0]) | skip)
      by_cases c12 : t252 = t254
      · rw [if_pos c12] at H
        have c12b0 : (t252 == t254) = true := beq_iff_eq.mpr c12
        have c12b1 : (t252 != t254) = false := bne_eq_false_iff_eq.mpr c12
        clear c12
        by_cases c13 : t256 = t258
        · rw [if_pos c13] at H
          have c13b0 : (t256 == t258) = true := beq_iff_eq.mpr c13
          have c13b1 : (t256 != t258) = false := bne_eq_false_iff_eq.mpr c13
          clear c13
          by_cases c14 : t249 = t251
          · rw [if_pos c14] at H
            have c14b0 : (t249 == t251) = true := beq_iff_eq.mpr c14
            have c14b1 : (t249 != t251) = false := bne_eq_false_iff_eq.mpr c14
            clear c14
            by_cases c15 : t253 = t255
            · rw [if_pos c15] at H
              have c15b0 : (t253 == t255) = true := beq_iff_eq.mpr c15
              have c15b1 : (t253 != t255) = false := bne_eq_false_iff_eq.mpr c15
              clear c15
              have H' := Aside0.mk H
              clear H
              go_wp2
              go_meet
              case rel => exact ⟨_, ((t257 != t259)), (by first | rfl | (simp; done) | (simp [*]; done)), H', ⟨by first | omega | exact Nat.le_refl _⟩, ⟨by repeat (first | (with_reducible first | exact HB.out | apply below_alloc | apply pw_below_drewN | apply below_drew1) | exact HB.out)⟩⟩
            · rw [if_neg c15] at H
              have c15b0 : (t253 == t255) = false := beq_eq_false_iff_ne.mpr c15
              have c15b1 : (t253 != t255) = true := bne_iff_ne.mpr c15
              have H' := Aside0.mk H
              clear H
              go_wp2
              go_meet
              case rel => exact ⟨_, (true), (by first | rfl | (simp; done) | (simp [*]; done)), H', ⟨by first | omega | exact Nat.le_refl _⟩, ⟨by repeat (first | (with_reducible first | exact HB.out | apply below_alloc | apply pw_below_drewN | apply below_drew1) | exact HB.out)⟩⟩
          · rw [if_neg c14] at H
            have c14b0 : (t249 == t251) = false := beq_eq_false_iff_ne.mpr c14
            have c14b1 : (t249 != t251) = true := bne_iff_ne.mpr c14
            have H' := Aside0.mk H
            clear H
            go_wp2
            go_meet
            case rel => exact ⟨_, (true), (by first | rfl | (simp; done) | (simp [*]; done)), H', ⟨by first | omega | exact Nat.le_refl _⟩, ⟨by repeat (first | (with_reducible first | exact HB.out | apply below_alloc | apply pw_below_drewN | apply below_drew1) | exact HB.out)⟩⟩
        · rw [if_neg c13] at H
          have c13b0 : (t256 == t258) = false := beq_eq_false_iff_ne.mpr c13
          have c13b1 : (t256 != t258) = true := bne_iff_ne.mpr c13
          have H' := Aside0.mk H
          clear H
          go_wp2
          go_meet
          case rel => exact ⟨_, (true), (by first | rfl | (simp; done) | (simp [*]; done)), H', ⟨by first | omega | exact Nat.le_refl _⟩, ⟨by repeat (first | (with_reducible first | exact HB.out | apply below_alloc | apply pw_below_drewN | apply below_drew1) | exact HB.out)⟩⟩
      · rw [if_neg c12] at H
        have c12b0 : (t252 == t254) = false := beq_eq_false_iff_ne.mpr c12
        have c12b1 : (t252 != t254) = true := bne_iff_ne.mpr c12
        have H' := Aside0.mk H
        clear H
        go_wp2
        go_meet
        case rel => exact ⟨_, (true), (by first | rfl | (simp; done) | (simp [*]; done)), H', ⟨by first | omega | exact Nat.le_refl _⟩, ⟨by repeat (first | (with_reducible first | exact HB.out | apply below_alloc | apply pw_below_drewN | apply below_drew1) | exact HB.out)⟩⟩
    · rw [if_neg c11] at H
      have c11b0 : (t248 == t250) = false := beq_eq_false_iff_ne.mpr c11
      have c11b1 : (t248 != t250) = true := bne_iff_ne.mpr c11
      (first | rw [c11b0] | (simp only [i64_w, i32_w]; rw [c11b0]) | skip)
      have H' := Aside0.mk H
      clear H
      go_wp2
      go_meet
      case rel => exact ⟨_, (true), (by first | rfl | (simp; done) | (simp [*]; done)), H', ⟨by first | omega | exact Nat.le_refl _⟩, ⟨by repeat (first | (with_reducible first | exact HB.out | apply below_alloc | apply pw_below_drewN | apply below_drew1) | exact HB.out)⟩⟩
  case rest =>
    clear HC10
    try clear c1
    try clear c2
    try clear p2
    try clear c3
    try clear c11
    try clear c11b0
    try clear c11b1
    try clear c12
    try clear c12b0
    try clear c12b1
    try clear c13
    try clear c13b0
    try clear c13b1
    try clear c14
    try clear c14b0
    try clear c14b1
    try clear c15
    try clear c15b0
    try clear c15b1
    obtain ⟨kq, x82_9, rfl, HA, HJ9, HB⟩ := hcut
    cases kq with
    | zero => exact absurd HA.out (by simp [contangolaw01_CentsAdds.j0])
    | succ kj9 =>
      have H := HA.out
      clear HA
      simp only [contangolaw01_CentsAdds.j0] at H
      by_cases c16 : x82_9 = true
      · subst c16
        have H1 : (some false) = some r := by rw [if_pos rfl] at H; exact H
        clear H
        have H := H1
        clear H1
        obtain rfl := Option.some.inj H
        go_wp2
        go_ret
        exact ⟨by first | rfl | (simp [errW_none, errW_some] <;> rfl) | (simp [*, errW_none, errW_some] <;> rfl), by repeat (first | (with_reducible first | exact HB.out | apply below_alloc | apply pw_below_drewN | apply below_drew1) | exact HB.out)⟩
      · replace c16 := Bool.eq_false_iff.mpr c16
        subst c16
        have H1 : ((cents_Fits.f a0).bind fun t260 => ((contangoref01_Fits.f a0).bind fun t261 => (if (t260 == t261) = true then ((cents_Clamp.f kj9 a0 a1 a2).bind fun t262 => ((contangoref01_Clamp.f kj9 a0 a1 a2).bind fun t263 => (if t262 = t263 then ((contangolaw01_goes.f kj9).bind fun t264 => (some t264)) else (some false)))) else (some false)))) = some r := by rw [if_neg (show ¬ (false = true) by decide)] at H; exact H
        clear H
        have H := H1
        clear H1
        replace H := Option.bind_eq_some_iff.mp H
        obtain ⟨t260, A170, H⟩ := H
        replace H : ((contangoref01_Fits.f a0).bind fun t261 => (if (t260 == t261) = true then ((cents_Clamp.f kj9 a0 a1 a2).bind fun t262 => ((contangoref01_Clamp.f kj9 a0 a1 a2).bind fun t263 => (if t262 = t263 then ((contangolaw01_goes.f kj9).bind fun t264 => (some t264)) else (some false)))) else (some false))) = some r := H
        have A17 := Aside0.mk A170
        clear A170
        replace H := Option.bind_eq_some_iff.mp H
        obtain ⟨t261, A180, H⟩ := H
        replace H : (if (t260 == t261) = true then ((cents_Clamp.f kj9 a0 a1 a2).bind fun t262 => ((contangoref01_Clamp.f kj9 a0 a1 a2).bind fun t263 => (if t262 = t263 then ((contangolaw01_goes.f kj9).bind fun t264 => (some t264)) else (some false)))) else (some false)) = some r := H
        have A18 := Aside0.mk A180
        clear A180
        by_cases c19 : (t260 == t261) = true
        · rw [if_pos c19] at H
          have c19b0 : (t260 == t261) = true := c19
          (try (have c19b1 : decide (t260 = t261) = true := by simpa using c19))
          (try (have c19b2 : (t260 == t261) = true := by simpa using c19))
          clear c19
          replace H := Option.bind_eq_some_iff.mp H
          obtain ⟨t262, A200, H⟩ := H
          replace H : ((contangoref01_Clamp.f kj9 a0 a1 a2).bind fun t263 => (if t262 = t263 then ((contangolaw01_goes.f kj9).bind fun t264 => (some t264)) else (some false))) = some r := H
          have A20 := Aside0.mk A200
          clear A200
          replace H := Option.bind_eq_some_iff.mp H
          obtain ⟨t263, A210, H⟩ := H
          replace H : (if t262 = t263 then ((contangolaw01_goes.f kj9).bind fun t264 => (some t264)) else (some false)) = some r := H
          have A21 := Aside0.mk A210
          clear A210
          by_cases c22 : t262 = t263
          · rw [if_pos c22] at H
            have c22b0 : (t262 == t263) = true := beq_iff_eq.mpr c22
            have c22b1 : (t262 != t263) = false := bne_eq_false_iff_eq.mpr c22
            clear c22
            replace H := Option.bind_eq_some_iff.mp H
            obtain ⟨t264, A230, H⟩ := H
            replace H : (some t264) = some r := H
            have A23 := Aside0.mk A230
            clear A230
            obtain rfl := Option.some.inj H
            go_wp2_with (first | ((with_reducible refine gate_callee (f := 28) rfl ?_); refine goesL_ (some 84) rfl rfl Try.func28 (by kernel_rfl) rfl #[.int .i64 a0] rfl (by (try simp only [List.map_toArray, List.map_cons, List.map_nil]); first | done | rfl | (simp only [List.length_drop, List.length_take]; rfl)) ?_; (with_reducible refine (cents_Fits.calls a0 t260 _ A17.out).mono ?_); rintro e w' ⟨rfl, ⟨nd, rfl⟩⟩; refine ⟨_, rfl, ?_⟩) | ((with_reducible refine gate_callee (f := 33) rfl ?_); refine goesL_ (some 86) rfl rfl Try.func33 (by kernel_rfl) rfl #[.int .i64 a0] rfl (by (try simp only [List.map_toArray, List.map_cons, List.map_nil]); first | done | rfl | (simp only [List.length_drop, List.length_take]; rfl)) ?_; (with_reducible refine (contangoref01_Fits.calls a0 t261 _ A18.out).mono ?_); rintro e w' ⟨rfl, ⟨nd, rfl⟩⟩; refine ⟨_, rfl, ?_⟩) | (go_at_call 34; (with_reducible refine (cents_Clamp.calls kj9 a0 a1 a2 t262 _ A20.out).mono ?_); rintro e w' ⟨rfl, ⟨nd, rfl⟩⟩) | (go_at_call 35; (with_reducible refine (contangoref01_Clamp.calls kj9 a0 a1 a2 t263 _ A21.out).mono ?_); rintro e w' ⟨rfl, ⟨nd, rfl⟩⟩) | (go_at_call 23; (with_reducible refine (contangolaw01_goes.calls kj9  t264 _ A23.out).mono ?_); rintro e w24 ⟨rfl, hb⟩; have n0_ := Aside0.mk (below_step (by repeat (first | (with_reducible first | exact HB.out | apply below_alloc | apply pw_below_drewN | apply below_drew1) | exact HB.out)) hb); clear HB; have HB := n0_; clear n0_; (try clear hb); (try clear hb2); (try clear hk); (try clear hi)))
            go_ret
            exact ⟨by first | rfl | (simp [errW_none, errW_some] <;> rfl) | (simp [*, errW_none, errW_some] <;> rfl), by repeat (first | (with_reducible first | exact HB.out | apply below_alloc | apply pw_below_drewN | apply below_drew1) | exact HB.out)⟩
          · rw [if_neg c22] at H
            have c22b0 : (t262 == t263) = false := beq_eq_false_iff_ne.mpr c22
            have c22b1 : (t262 != t263) = true := bne_iff_ne.mpr c22
            obtain rfl := Option.some.inj H
            go_wp2_with (first | ((with_reducible refine gate_callee (f := 28) rfl ?_); refine goesL_ (some 84) rfl rfl Try.func28 (by kernel_rfl) rfl #[.int .i64 a0] rfl (by (try simp only [List.map_toArray, List.map_cons, List.map_nil]); first | done | rfl | (simp only [List.length_drop, List.length_take]; rfl)) ?_; (with_reducible refine (cents_Fits.calls a0 t260 _ A17.out).mono ?_); rintro e w' ⟨rfl, ⟨nd, rfl⟩⟩; refine ⟨_, rfl, ?_⟩) | ((with_reducible refine gate_callee (f := 33) rfl ?_); refine goesL_ (some 86) rfl rfl Try.func33 (by kernel_rfl) rfl #[.int .i64 a0] rfl (by (try simp only [List.map_toArray, List.map_cons, List.map_nil]); first | done | rfl | (simp only [List.length_drop, List.length_take]; rfl)) ?_; (with_reducible refine (contangoref01_Fits.calls a0 t261 _ A18.out).mono ?_); rintro e w' ⟨rfl, ⟨nd, rfl⟩⟩; refine ⟨_, rfl, ?_⟩) | (go_at_call 34; (with_reducible refine (cents_Clamp.calls kj9 a0 a1 a2 t262 _ A20.out).mono ?_); rintro e w' ⟨rfl, ⟨nd, rfl⟩⟩) | (go_at_call 35; (with_reducible refine (contangoref01_Clamp.calls kj9 a0 a1 a2 t263 _ A21.out).mono ?_); rintro e w' ⟨rfl, ⟨nd, rfl⟩⟩))
            go_ret
            exact ⟨by first | rfl | (simp [errW_none, errW_some] <;> rfl) | (simp [*, errW_none, errW_some] <;> rfl), by repeat (first | (with_reducible first | exact HB.out | apply below_alloc | apply pw_below_drewN | apply below_drew1) | exact HB.out)⟩
        · rw [if_neg c19] at H
          have c19b0 : (t260 == t261) = false := by simpa using c19
          (try (have c19b1 : decide (t260 = t261) = false := by simpa using c19))
          (try (have c19b2 : (t260 == t261) = false := by simpa using c19))
          (try (have c19b3 : ¬ (t260 = t261) := by simpa using c19))
          clear c19
          obtain rfl := Option.some.inj H
          go_wp2_with (first | ((with_reducible refine gate_callee (f := 28) rfl ?_); refine goesL_ (some 84) rfl rfl Try.func28 (by kernel_rfl) rfl #[.int .i64 a0] rfl (by (try simp only [List.map_toArray, List.map_cons, List.map_nil]); first | done | rfl | (simp only [List.length_drop, List.length_take]; rfl)) ?_; (with_reducible refine (cents_Fits.calls a0 t260 _ A17.out).mono ?_); rintro e w' ⟨rfl, ⟨nd, rfl⟩⟩; refine ⟨_, rfl, ?_⟩) | ((with_reducible refine gate_callee (f := 33) rfl ?_); refine goesL_ (some 86) rfl rfl Try.func33 (by kernel_rfl) rfl #[.int .i64 a0] rfl (by (try simp only [List.map_toArray, List.map_cons, List.map_nil]); first | done | rfl | (simp only [List.length_drop, List.length_take]; rfl)) ?_; (with_reducible refine (contangoref01_Fits.calls a0 t261 _ A18.out).mono ?_); rintro e w' ⟨rfl, ⟨nd, rfl⟩⟩; refine ⟨_, rfl, ?_⟩))
          go_ret
          exact ⟨by first | rfl | (simp [errW_none, errW_some] <;> rfl) | (simp [*, errW_none, errW_some] <;> rfl), by repeat (first | (with_reducible first | exact HB.out | apply below_alloc | apply pw_below_drewN | apply below_drew1) | exact HB.out)⟩

/-- THE ONE PURE STATEMENT of contangolaw01_CentsAdds: yours. -/
def contangolaw01_CentsAdds.Pure : Prop := ∀ (a0 : Int) (a1 : Int) (a2 : Int), (Lit.int .i64 a0).wf = true → (Lit.int .i64 a1).wf = true → (Lit.int .i64 a2).wf = true → ∃ k, contangolaw01_CentsAdds.f k a0 a1 a2 = some true
theorem contangolaw01_CentsAdds.walk (P : contangolaw01_CentsAdds.Pure) (a0 : Int) (a1 : Int) (a2 : Int) (w : World) (w0 : (Lit.int .i64 a0).wf = true) (w1 : (Lit.int .i64 a1).wf = true) (w2 : (Lit.int .i64 a2).wf = true) :
    Calls Try.prog 11 #[.int .i64 a0, .int .i64 a1, .int .i64 a2] w fun e w' => e = .returned (.bool true) ∧ Below w.heap.size w w' := by
  obtain ⟨k, h⟩ := P a0 a1 a2 w0 w1 w2
  refine (contangolaw01_CentsAdds.calls k a0 a1 a2 true w h).mono ?_
  rintro e w' ⟨rfl, hd⟩
  exact ⟨rfl, hd⟩

end Go.Proofs.Ytffdehnmoimikaa.Pr
