-- printed by xprint.py, a program of this session (wip/tool), which drives the print. Lean checks it.
import Derived.Test.YtffdehnmoimikaaPrx0
import Derived.Test.YtffdehnmoimikaaPrx45
import Derived.Test.YtffdehnmoimikaaPrx48
namespace Go.Proofs.Ytffdehnmoimikaa.Pr
open Go.RowKit Go.Proofs.YtffdehnmoimikaaW.PrintWords Go.Proofs.YtffdehnmoimikaaW.PrintLast Go.Proofs.YtffdehnmoimikaaW.PrintMore
attribute [local go_sem] max2_int min2_int max_two min_two max_three min_three max_four min_four   -- for this text's walks alone
set_option linter.unusedVariables false
set_option linter.unusedSimpArgs false

/-! ### contangolaw01_CentsModes: function 9 -/
mutual
def contangolaw01_CentsModes.j0 : Nat → Int → Int → Int → Int → Int → Int → Int → Int → Int → Int → Bool → Option (Bool)
  | 0, _, _, _, _, _, _, _, _, _, _, _ => none
  | k + 1, x7, x8, x9, x10, x11, x12, x13, x14, x15, x16, x69 => if x69 = true then (if x12 = 0 then ((contangolaw01_goes.f k).bind fun t216 => (some t216)) else (if x8 = 0 then (some false) else (if x10 = 0 then (some false) else (if x14 = 0 then (some false) else (if x16 = 0 then (some false) else ((contangolaw01_goes.f k).bind fun t217 => (some t217))))))) else (if x9 < x7 then (contangolaw01_CentsModes.j1 k x7 x9 x11 x13 true) else (if (wrap64 (x9 - x7)) > 1 then (contangolaw01_CentsModes.j1 k x7 x9 x11 x13 true) else (if x15 = x7 then (contangolaw01_CentsModes.j1 k x7 x9 x11 x13 false) else (contangolaw01_CentsModes.j1 k x7 x9 x11 x13 (x15 != x9)))))
def contangolaw01_CentsModes.j1 : Nat → Int → Int → Int → Int → Bool → Option (Bool)
  | 0, _, _, _, _, _ => none
  | k + 1, x7, x9, x11, x13, x109 => if x109 = true then (some false) else (if x7 ≥ 0 then (if x11 = x7 then (if x13 = x9 then (if x9 ≤ 0 then (if x11 = x9 then (if x13 = x7 then ((contangolaw01_goes.f k).bind fun t218 => (some t218)) else (some false)) else (some false)) else ((contangolaw01_goes.f k).bind fun t219 => (some t219))) else (some false)) else (some false)) else (if x9 ≤ 0 then (if x11 = x9 then (if x13 = x7 then ((contangolaw01_goes.f k).bind fun t220 => (some t220)) else (some false)) else (some false)) else ((contangolaw01_goes.f k).bind fun t221 => (some t221))))
end
def contangolaw01_CentsModes.f (k : Nat) (a0 : Int) (a1 : Int) (a2 : Int) : Option (Bool) := (cents_MulDiv.f a0 a1 a2 3).bind fun bt206 => ((cents_MulDiv.f a0 a1 a2 4).bind fun bt208 => ((cents_MulDiv.f a0 a1 a2 1).bind fun bt210 => ((cents_MulDiv.f a0 a1 a2 2).bind fun bt212 => ((cents_MulDiv.f a0 a1 a2 5).bind fun bt214 => (if bt206.2 = 0 then (if bt208.2 = 0 then (if bt210.2 = 0 then (if bt212.2 = 0 then (contangolaw01_CentsModes.j0 k bt206.1 bt206.2 bt208.1 bt208.2 bt210.1 bt210.2 bt212.1 bt212.2 bt214.1 bt214.2 (bt214.2 != 0)) else (contangolaw01_CentsModes.j0 k bt206.1 bt206.2 bt208.1 bt208.2 bt210.1 bt210.2 bt212.1 bt212.2 bt214.1 bt214.2 true)) else (contangolaw01_CentsModes.j0 k bt206.1 bt206.2 bt208.1 bt208.2 bt210.1 bt210.2 bt212.1 bt212.2 bt214.1 bt214.2 true)) else (contangolaw01_CentsModes.j0 k bt206.1 bt206.2 bt208.1 bt208.2 bt210.1 bt210.2 bt212.1 bt212.2 bt214.1 bt214.2 true)) else (contangolaw01_CentsModes.j0 k bt206.1 bt206.2 bt208.1 bt208.2 bt210.1 bt210.2 bt212.1 bt212.2 bt214.1 bt214.2 true))))))
theorem contangolaw01_CentsModes.mono_l : ∀ k, (∀ y0 y1 y2 y3 y4 y5 y6 y7 y8 y9 y10, LeO (contangolaw01_CentsModes.j0 k y0 y1 y2 y3 y4 y5 y6 y7 y8 y9 y10) (contangolaw01_CentsModes.j0 (k + 1) y0 y1 y2 y3 y4 y5 y6 y7 y8 y9 y10)) ∧ (∀ y0 y1 y2 y3 y4, LeO (contangolaw01_CentsModes.j1 k y0 y1 y2 y3 y4) (contangolaw01_CentsModes.j1 (k + 1) y0 y1 y2 y3 y4))
  | 0 => ⟨fun _ _ _ _ _ _ _ _ _ _ _ r h => by simp [contangolaw01_CentsModes.j0] at h, fun _ _ _ _ _ r h => by simp [contangolaw01_CentsModes.j1] at h⟩
  | k + 1 => by
    obtain ⟨ih0, ih1⟩ := contangolaw01_CentsModes.mono_l k
    refine ⟨?_, ?_⟩
    · intro y0 y1 y2 y3 y4 y5 y6 y7 y8 y9 y10
      unfold contangolaw01_CentsModes.j0
      repeat' first
      | (with_reducible exact ih0 _ _ _ _ _ _ _ _ _ _ _)
      | (with_reducible exact ih1 _ _ _ _ _)
      | (with_reducible exact contangolaw01_goes.mono _)
      | (with_reducible exact LeO.refl _)
      | (with_reducible exact LeO.none _)
      | (with_reducible refine LeO.ite ?_ ?_)
      | (with_reducible refine LeO.bind ?_ (fun _ => ?_))
      | exact ih0 _ _ _ _ _ _ _ _ _ _ _
      | exact ih1 _ _ _ _ _
      | exact contangolaw01_goes.mono _
      | exact LeO.none _
      | refine LeO.ite ?_ ?_
      | refine LeO.bind ?_ (fun _ => ?_)
    · intro y0 y1 y2 y3 y4
      unfold contangolaw01_CentsModes.j1
      repeat' first
      | (with_reducible exact ih0 _ _ _ _ _ _ _ _ _ _ _)
      | (with_reducible exact ih1 _ _ _ _ _)
      | (with_reducible exact contangolaw01_goes.mono _)
      | (with_reducible exact LeO.refl _)
      | (with_reducible exact LeO.none _)
      | (with_reducible refine LeO.ite ?_ ?_)
      | (with_reducible refine LeO.bind ?_ (fun _ => ?_))
      | exact ih0 _ _ _ _ _ _ _ _ _ _ _
      | exact ih1 _ _ _ _ _
      | exact contangolaw01_goes.mono _
      | exact LeO.none _
      | refine LeO.ite ?_ ?_
      | refine LeO.bind ?_ (fun _ => ?_)
theorem contangolaw01_CentsModes.mono : ∀ a0 a1 a2 k, LeO (contangolaw01_CentsModes.f k a0 a1 a2) (contangolaw01_CentsModes.f (k + 1) a0 a1 a2) := by
  intro a0 a1 a2 k
  obtain ⟨ih0, ih1⟩ := contangolaw01_CentsModes.mono_l k
  unfold contangolaw01_CentsModes.f
  repeat' first
      | (with_reducible exact ih0 _ _ _ _ _ _ _ _ _ _ _)
      | (with_reducible exact ih1 _ _ _ _ _)
      | (with_reducible exact contangolaw01_goes.mono _)
      | (with_reducible exact LeO.refl _)
      | (with_reducible exact LeO.none _)
      | (with_reducible refine LeO.ite ?_ ?_)
      | (with_reducible refine LeO.bind ?_ (fun _ => ?_))
      | exact ih0 _ _ _ _ _ _ _ _ _ _ _
      | exact ih1 _ _ _ _ _
      | exact contangolaw01_goes.mono _
      | exact LeO.none _
      | refine LeO.ite ?_ ?_
      | refine LeO.bind ?_ (fun _ => ?_)
set_option maxHeartbeats 8000000 in
set_option maxRecDepth 100000 in
theorem contangolaw01_CentsModes.calls (k : Nat) (a0 : Int) (a1 : Int) (a2 : Int) (r : Bool) (w : World) (h : contangolaw01_CentsModes.f k a0 a1 a2 = some r) :
    Calls Try.prog 9 #[.int .i64 a0, .int .i64 a1, .int .i64 a2] w fun e w' => e = .returned (.bool r) ∧ Below w.heap.size w w' := by
  have HB := Aside0.mk (Below.refl w.heap.size w)
  have H : ((cents_MulDiv.f a0 a1 a2 3).bind fun bt206 => ((cents_MulDiv.f a0 a1 a2 4).bind fun bt208 => ((cents_MulDiv.f a0 a1 a2 1).bind fun bt210 => ((cents_MulDiv.f a0 a1 a2 2).bind fun bt212 => ((cents_MulDiv.f a0 a1 a2 5).bind fun bt214 => (if bt206.2 = 0 then (if bt208.2 = 0 then (if bt210.2 = 0 then (if bt212.2 = 0 then (contangolaw01_CentsModes.j0 k bt206.1 bt206.2 bt208.1 bt208.2 bt210.1 bt210.2 bt212.1 bt212.2 bt214.1 bt214.2 (bt214.2 != 0)) else (contangolaw01_CentsModes.j0 k bt206.1 bt206.2 bt208.1 bt208.2 bt210.1 bt210.2 bt212.1 bt212.2 bt214.1 bt214.2 true)) else (contangolaw01_CentsModes.j0 k bt206.1 bt206.2 bt208.1 bt208.2 bt210.1 bt210.2 bt212.1 bt212.2 bt214.1 bt214.2 true)) else (contangolaw01_CentsModes.j0 k bt206.1 bt206.2 bt208.1 bt208.2 bt210.1 bt210.2 bt212.1 bt212.2 bt214.1 bt214.2 true)) else (contangolaw01_CentsModes.j0 k bt206.1 bt206.2 bt208.1 bt208.2 bt210.1 bt210.2 bt212.1 bt212.2 bt214.1 bt214.2 true))))))) = some r := h
  clear h
  replace H := Option.bind_eq_some_iff.mp H
  obtain ⟨⟨t206, t207⟩, A40, H⟩ := H
  replace H : ((cents_MulDiv.f a0 a1 a2 4).bind fun bt208 => ((cents_MulDiv.f a0 a1 a2 1).bind fun bt210 => ((cents_MulDiv.f a0 a1 a2 2).bind fun bt212 => ((cents_MulDiv.f a0 a1 a2 5).bind fun bt214 => (if t207 = 0 then (if bt208.2 = 0 then (if bt210.2 = 0 then (if bt212.2 = 0 then (contangolaw01_CentsModes.j0 k t206 t207 bt208.1 bt208.2 bt210.1 bt210.2 bt212.1 bt212.2 bt214.1 bt214.2 (bt214.2 != 0)) else (contangolaw01_CentsModes.j0 k t206 t207 bt208.1 bt208.2 bt210.1 bt210.2 bt212.1 bt212.2 bt214.1 bt214.2 true)) else (contangolaw01_CentsModes.j0 k t206 t207 bt208.1 bt208.2 bt210.1 bt210.2 bt212.1 bt212.2 bt214.1 bt214.2 true)) else (contangolaw01_CentsModes.j0 k t206 t207 bt208.1 bt208.2 bt210.1 bt210.2 bt212.1 bt212.2 bt214.1 bt214.2 true)) else (contangolaw01_CentsModes.j0 k t206 t207 bt208.1 bt208.2 bt210.1 bt210.2 bt212.1 bt212.2 bt214.1 bt214.2 true)))))) = some r := H
  have A4 := Aside0.mk A40
  clear A40
  replace H := Option.bind_eq_some_iff.mp H
  obtain ⟨⟨t208, t209⟩, A50, H⟩ := H
  replace H : ((cents_MulDiv.f a0 a1 a2 1).bind fun bt210 => ((cents_MulDiv.f a0 a1 a2 2).bind fun bt212 => ((cents_MulDiv.f a0 a1 a2 5).bind fun bt214 => (if t207 = 0 then (if t209 = 0 then (if bt210.2 = 0 then (if bt212.2 = 0 then (contangolaw01_CentsModes.j0 k t206 t207 t208 t209 bt210.1 bt210.2 bt212.1 bt212.2 bt214.1 bt214.2 (bt214.2 != 0)) else (contangolaw01_CentsModes.j0 k t206 t207 t208 t209 bt210.1 bt210.2 bt212.1 bt212.2 bt214.1 bt214.2 true)) else (contangolaw01_CentsModes.j0 k t206 t207 t208 t209 bt210.1 bt210.2 bt212.1 bt212.2 bt214.1 bt214.2 true)) else (contangolaw01_CentsModes.j0 k t206 t207 t208 t209 bt210.1 bt210.2 bt212.1 bt212.2 bt214.1 bt214.2 true)) else (contangolaw01_CentsModes.j0 k t206 t207 t208 t209 bt210.1 bt210.2 bt212.1 bt212.2 bt214.1 bt214.2 true))))) = some r := H
  have A5 := Aside0.mk A50
  clear A50
  replace H := Option.bind_eq_some_iff.mp H
  obtain ⟨⟨t210, t211⟩, A60, H⟩ := H
  replace H : ((cents_MulDiv.f a0 a1 a2 2).bind fun bt212 => ((cents_MulDiv.f a0 a1 a2 5).bind fun bt214 => (if t207 = 0 then (if t209 = 0 then (if t211 = 0 then (if bt212.2 = 0 then (contangolaw01_CentsModes.j0 k t206 t207 t208 t209 t210 t211 bt212.1 bt212.2 bt214.1 bt214.2 (bt214.2 != 0)) else (contangolaw01_CentsModes.j0 k t206 t207 t208 t209 t210 t211 bt212.1 bt212.2 bt214.1 bt214.2 true)) else (contangolaw01_CentsModes.j0 k t206 t207 t208 t209 t210 t211 bt212.1 bt212.2 bt214.1 bt214.2 true)) else (contangolaw01_CentsModes.j0 k t206 t207 t208 t209 t210 t211 bt212.1 bt212.2 bt214.1 bt214.2 true)) else (contangolaw01_CentsModes.j0 k t206 t207 t208 t209 t210 t211 bt212.1 bt212.2 bt214.1 bt214.2 true)))) = some r := H
  have A6 := Aside0.mk A60
  clear A60
  replace H := Option.bind_eq_some_iff.mp H
  obtain ⟨⟨t212, t213⟩, A70, H⟩ := H
  replace H : ((cents_MulDiv.f a0 a1 a2 5).bind fun bt214 => (if t207 = 0 then (if t209 = 0 then (if t211 = 0 then (if t213 = 0 then (contangolaw01_CentsModes.j0 k t206 t207 t208 t209 t210 t211 t212 t213 bt214.1 bt214.2 (bt214.2 != 0)) else (contangolaw01_CentsModes.j0 k t206 t207 t208 t209 t210 t211 t212 t213 bt214.1 bt214.2 true)) else (contangolaw01_CentsModes.j0 k t206 t207 t208 t209 t210 t211 t212 t213 bt214.1 bt214.2 true)) else (contangolaw01_CentsModes.j0 k t206 t207 t208 t209 t210 t211 t212 t213 bt214.1 bt214.2 true)) else (contangolaw01_CentsModes.j0 k t206 t207 t208 t209 t210 t211 t212 t213 bt214.1 bt214.2 true))) = some r := H
  have A7 := Aside0.mk A70
  clear A70
  replace H := Option.bind_eq_some_iff.mp H
  obtain ⟨⟨t214, t215⟩, A80, H⟩ := H
  replace H : (if t207 = 0 then (if t209 = 0 then (if t211 = 0 then (if t213 = 0 then (contangolaw01_CentsModes.j0 k t206 t207 t208 t209 t210 t211 t212 t213 t214 t215 (t215 != 0)) else (contangolaw01_CentsModes.j0 k t206 t207 t208 t209 t210 t211 t212 t213 t214 t215 true)) else (contangolaw01_CentsModes.j0 k t206 t207 t208 t209 t210 t211 t212 t213 t214 t215 true)) else (contangolaw01_CentsModes.j0 k t206 t207 t208 t209 t210 t211 t212 t213 t214 t215 true)) else (contangolaw01_CentsModes.j0 k t206 t207 t208 t209 t210 t211 t212 t213 t214 t215 true)) = some r := H
  have A8 := Aside0.mk A80
  clear A80
  have HC9 := Aside0.mk H
  clear H
  go_enter Try.func9, Try.ntmps9
  go_upto_region 6 with (first | ((with_reducible refine gate_callee (f := 24) rfl ?_); refine goesL_ (some 21) rfl rfl Try.func24 (by kernel_rfl) rfl #[.int .i64 a0, .int .i64 a1, .int .i64 a2, .int .i64 3] rfl (by (try simp only [List.map_toArray, List.map_cons, List.map_nil]); first | done | rfl | (simp only [List.length_drop, List.length_take]; rfl)) ?_; (with_reducible refine (cents_MulDiv.calls a0 a1 a2 3 t206 t207 _ A4.out).mono ?_); rintro e w10 ⟨rfl, hb⟩; refine ⟨_, rfl, ?_⟩; have n0_ := Aside0.mk (below_step (by repeat (first | (with_reducible first | exact HB.out | apply below_alloc | apply pw_below_drewN | apply below_drew1) | exact HB.out)) hb); clear HB; have HB := n0_; clear n0_; (try clear hb); (try clear hb2); (try clear hk); (try clear hi)) | ((with_reducible refine gate_callee (f := 24) rfl ?_); refine goesL_ (some 28) rfl rfl Try.func24 (by kernel_rfl) rfl #[.int .i64 a0, .int .i64 a1, .int .i64 a2, .int .i64 4] rfl (by (try simp only [List.map_toArray, List.map_cons, List.map_nil]); first | done | rfl | (simp only [List.length_drop, List.length_take]; rfl)) ?_; (with_reducible refine (cents_MulDiv.calls a0 a1 a2 4 t208 t209 _ A5.out).mono ?_); rintro e w11 ⟨rfl, hb⟩; refine ⟨_, rfl, ?_⟩; have n0_ := Aside0.mk (below_step (by repeat (first | (with_reducible first | exact HB.out | apply below_alloc | apply pw_below_drewN | apply below_drew1) | exact HB.out)) hb); clear HB; have HB := n0_; clear n0_; (try clear hb); (try clear hb2); (try clear hk); (try clear hi)) | ((with_reducible refine gate_callee (f := 24) rfl ?_); refine goesL_ (some 35) rfl rfl Try.func24 (by kernel_rfl) rfl #[.int .i64 a0, .int .i64 a1, .int .i64 a2, .int .i64 1] rfl (by (try simp only [List.map_toArray, List.map_cons, List.map_nil]); first | done | rfl | (simp only [List.length_drop, List.length_take]; rfl)) ?_; (with_reducible refine (cents_MulDiv.calls a0 a1 a2 1 t210 t211 _ A6.out).mono ?_); rintro e w12 ⟨rfl, hb⟩; refine ⟨_, rfl, ?_⟩; have n0_ := Aside0.mk (below_step (by repeat (first | (with_reducible first | exact HB.out | apply below_alloc | apply pw_below_drewN | apply below_drew1) | exact HB.out)) hb); clear HB; have HB := n0_; clear n0_; (try clear hb); (try clear hb2); (try clear hk); (try clear hi)) | ((with_reducible refine gate_callee (f := 24) rfl ?_); refine goesL_ (some 42) rfl rfl Try.func24 (by kernel_rfl) rfl #[.int .i64 a0, .int .i64 a1, .int .i64 a2, .int .i64 2] rfl (by (try simp only [List.map_toArray, List.map_cons, List.map_nil]); first | done | rfl | (simp only [List.length_drop, List.length_take]; rfl)) ?_; (with_reducible refine (cents_MulDiv.calls a0 a1 a2 2 t212 t213 _ A7.out).mono ?_); rintro e w13 ⟨rfl, hb⟩; refine ⟨_, rfl, ?_⟩; have n0_ := Aside0.mk (below_step (by repeat (first | (with_reducible first | exact HB.out | apply below_alloc | apply pw_below_drewN | apply below_drew1) | exact HB.out)) hb); clear HB; have HB := n0_; clear n0_; (try clear hb); (try clear hb2); (try clear hk); (try clear hi)) | ((with_reducible refine gate_callee (f := 24) rfl ?_); refine goesL_ (some 49) rfl rfl Try.func24 (by kernel_rfl) rfl #[.int .i64 a0, .int .i64 a1, .int .i64 a2, .int .i64 5] rfl (by (try simp only [List.map_toArray, List.map_cons, List.map_nil]); first | done | rfl | (simp only [List.length_drop, List.length_take]; rfl)) ?_; (with_reducible refine (cents_MulDiv.calls a0 a1 a2 5 t214 t215 _ A8.out).mono ?_); rintro e w14 ⟨rfl, hb⟩; refine ⟨_, rfl, ?_⟩; have n0_ := Aside0.mk (below_step (by repeat (first | (with_reducible first | exact HB.out | apply below_alloc | apply pw_below_drewN | apply below_drew1) | exact HB.out)) hb); clear HB; have HB := n0_; clear n0_; (try clear hb); (try clear hb2); (try clear hk); (try clear hi)))
  (try simp only [Act.put, List.setIfInBounds_toArray, List.set_cons_zero, List.set_cons_succ])
  go_cut [69] (fun v69 wc => ∃ (kq : Nat) (x69_8 : Bool), v69 = .bool x69_8 ∧ Aside0 (contangolaw01_CentsModes.j0 kq t206 t207 t208 t209 t210 t211 t212 t213 t214 t215 x69_8 = some r) ∧ Aside0 (kq ≤ k) ∧ Aside0 (Below w.heap.size w wc))
  case first =>
    have H := HC9.out
    clear HC9
    by_cases c15 : t207 = 0
    · rw [if_pos c15] at H
      have c15b0 : (t207 == 0) = true := beq_iff_eq.mpr c15
      have c15b1 : (t207 != 0) = false := bne_eq_false_iff_eq.mpr c15
      clear c15
      (first | rw [c15b0] | (simp only [i64_w, i32_w]; rw [c15b0]) | skip)
      by_cases c16 : t209 = 0
      · rw [if_pos c16] at H
        have c16b0 : (t209 == 0) = true := beq_iff_eq.mpr c16
        have c16b1 : (t209 != 0) = false := bne_eq_false_iff_eq.mpr c16
        clear c16
        by_cases c17 : t211 = 0
        · rw [if_pos c17] at H
          have c17b0 : (t211 == 0) = true := beq_iff_eq.mpr c17
          have c17b1 : (t211 != 0) = false := bne_eq_false_iff_eq.mpr c17
          clear c17
          by_cases c18 : t213 = 0
          · rw [if_pos c18] at H
            have c18b0 : (t213 == 0) = true := beq_iff_eq.mpr c18
            have c18b1 : (t213 != 0) = false := bne_eq_false_iff_eq.mpr c18
            clear c18
            have H' := Aside0.mk H
            clear H
            go_wp2
            go_meet
            case rel => exact ⟨_, ((t215 != 0)), (by first | rfl | (simp; done) | (simp [*]; done)), H', ⟨by first | omega | exact Nat.le_refl _⟩, ⟨by repeat (first | (with_reducible first | exact HB.out | apply below_alloc | apply pw_below_drewN | apply below_drew1) | exact HB.out)⟩⟩
          · rw [if_neg c18] at H
            have c18b0 : (t213 == 0) = false := beq_eq_false_iff_ne.mpr c18
            have c18b1 : (t213 != 0) = true := bne_iff_ne.mpr c18
            have H' := Aside0.mk H
            clear H
            go_wp2
            go_meet
            case rel => exact ⟨_, (true), (by first | rfl | (simp; done) | (simp [*]; done)), H', ⟨by first | omega | exact Nat.le_refl _⟩, ⟨by repeat (first | (with_reducible first | exact HB.out | apply below_alloc | apply pw_below_drewN | apply below_drew1) | exact HB.out)⟩⟩
        · rw [if_neg c17] at H
          have c17b0 : (t211 == 0) = false := beq_eq_false_iff_ne.mpr c17
          have c17b1 : (t211 != 0) = true := bne_iff_ne.mpr c17
          have H' := Aside0.mk H
          clear H
          go_wp2
          go_meet
          case rel => exact ⟨_, (true), (by first | rfl | (simp; done) | (simp [*]; done)), H', ⟨by first | omega | exact Nat.le_refl _⟩, ⟨by repeat (first | (with_reducible first | exact HB.out | apply below_alloc | apply pw_below_drewN | apply below_drew1) | exact HB.out)⟩⟩
      · rw [if_neg c16] at H
        have c16b0 : (t209 == 0) = false := beq_eq_false_iff_ne.mpr c16
        have c16b1 : (t209 != 0) = true := bne_iff_ne.mpr c16
        have H' := Aside0.mk H
        clear H
        go_wp2
        go_meet
        case rel => exact ⟨_, (true), (by first | rfl | (simp; done) | (simp [*]; done)), H', ⟨by first | omega | exact Nat.le_refl _⟩, ⟨by repeat (first | (with_reducible first | exact HB.out | apply below_alloc | apply pw_below_drewN | apply below_drew1) | exact HB.out)⟩⟩
    · rw [if_neg c15] at H
      have c15b0 : (t207 == 0) = false := beq_eq_false_iff_ne.mpr c15
      have c15b1 : (t207 != 0) = true := bne_iff_ne.mpr c15
      (first | rw [c15b0] | (simp only [i64_w, i32_w]; rw [c15b0]) | skip)
      have H' := Aside0.mk H
      clear H
      go_wp2
      go_meet
      case rel => exact ⟨_, (true), (by first | rfl | (simp; done) | (simp [*]; done)), H', ⟨by first | omega | exact Nat.le_refl _⟩, ⟨by repeat (first | (with_reducible first | exact HB.out | apply below_alloc | apply pw_below_drewN | apply below_drew1) | exact HB.out)⟩⟩
  case rest =>
    clear HC9
    try clear c1
    try clear c2
    try clear p2
    try clear c9
    try clear c15
    try clear c15b0
    try clear c15b1
    try clear c16
    try clear c16b0
    try clear c16b1
    try clear c17
    try clear c17b0
    try clear c17b1
    try clear c18
    try clear c18b0
    try clear c18b1
    obtain ⟨kq, x69_8, rfl, HA, HJ8, HB⟩ := hcut
    cases kq with
    | zero => exact absurd HA.out (by simp [contangolaw01_CentsModes.j0])
    | succ kj8 =>
      have H := HA.out
      clear HA
      simp only [contangolaw01_CentsModes.j0] at H
      by_cases c19 : x69_8 = true
      · subst c19
        have H1 : (if t211 = 0 then ((contangolaw01_goes.f kj8).bind fun t216 => (some t216)) else (if t207 = 0 then (some false) else (if t209 = 0 then (some false) else (if t213 = 0 then (some false) else (if t215 = 0 then (some false) else ((contangolaw01_goes.f kj8).bind fun t217 => (some t217))))))) = some r := by rw [if_pos rfl] at H; exact H
        clear H
        have H := H1
        clear H1
        by_cases c20 : t211 = 0
        · rw [if_pos c20] at H
          have c20b0 : (t211 == 0) = true := beq_iff_eq.mpr c20
          have c20b1 : (t211 != 0) = false := bne_eq_false_iff_eq.mpr c20
          clear c20
          replace H := Option.bind_eq_some_iff.mp H
          obtain ⟨t216, A210, H⟩ := H
          replace H : (some t216) = some r := H
          have A21 := Aside0.mk A210
          clear A210
          obtain rfl := Option.some.inj H
          go_wp2_with (first | (go_at_call 23; (with_reducible refine (contangolaw01_goes.calls kj8  t216 _ A21.out).mono ?_); rintro e w22 ⟨rfl, hb⟩; have n0_ := Aside0.mk (below_step (by repeat (first | (with_reducible first | exact HB.out | apply below_alloc | apply pw_below_drewN | apply below_drew1) | exact HB.out)) hb); clear HB; have HB := n0_; clear n0_; (try clear hb); (try clear hb2); (try clear hk); (try clear hi)))
          go_ret
          exact ⟨by first | rfl | (simp [errW_none, errW_some] <;> rfl) | (simp [*, errW_none, errW_some] <;> rfl), by repeat (first | (with_reducible first | exact HB.out | apply below_alloc | apply pw_below_drewN | apply below_drew1) | exact HB.out)⟩
        · rw [if_neg c20] at H
          have c20b0 : (t211 == 0) = false := beq_eq_false_iff_ne.mpr c20
          have c20b1 : (t211 != 0) = true := bne_iff_ne.mpr c20
          by_cases c23 : t207 = 0
          · rw [if_pos c23] at H
            have c23b0 : (t207 == 0) = true := beq_iff_eq.mpr c23
            have c23b1 : (t207 != 0) = false := bne_eq_false_iff_eq.mpr c23
            clear c23
            obtain rfl := Option.some.inj H
            go_wp2
            go_ret
            exact ⟨by first | rfl | (simp [errW_none, errW_some] <;> rfl) | (simp [*, errW_none, errW_some] <;> rfl), by repeat (first | (with_reducible first | exact HB.out | apply below_alloc | apply pw_below_drewN | apply below_drew1) | exact HB.out)⟩
          · rw [if_neg c23] at H
            have c23b0 : (t207 == 0) = false := beq_eq_false_iff_ne.mpr c23
            have c23b1 : (t207 != 0) = true := bne_iff_ne.mpr c23
            by_cases c24 : t209 = 0
            · rw [if_pos c24] at H
              have c24b0 : (t209 == 0) = true := beq_iff_eq.mpr c24
              have c24b1 : (t209 != 0) = false := bne_eq_false_iff_eq.mpr c24
              clear c24
              obtain rfl := Option.some.inj H
              go_wp2
              go_ret
              exact ⟨by first | rfl | (simp [errW_none, errW_some] <;> rfl) | (simp [*, errW_none, errW_some] <;> rfl), by repeat (first | (with_reducible first | exact HB.out | apply below_alloc | apply pw_below_drewN | apply below_drew1) | exact HB.out)⟩
            · rw [if_neg c24] at H
              have c24b0 : (t209 == 0) = false := beq_eq_false_iff_ne.mpr c24
              have c24b1 : (t209 != 0) = true := bne_iff_ne.mpr c24
              by_cases c25 : t213 = 0
              · rw [if_pos c25] at H
                have c25b0 : (t213 == 0) = true := beq_iff_eq.mpr c25
                have c25b1 : (t213 != 0) = false := bne_eq_false_iff_eq.mpr c25
                clear c25
                obtain rfl := Option.some.inj H
                go_wp2
                go_ret
                exact ⟨by first | rfl | (simp [errW_none, errW_some] <;> rfl) | (simp [*, errW_none, errW_some] <;> rfl), by repeat (first | (with_reducible first | exact HB.out | apply below_alloc | apply pw_below_drewN | apply below_drew1) | exact HB.out)⟩
              · rw [if_neg c25] at H
                have c25b0 : (t213 == 0) = false := beq_eq_false_iff_ne.mpr c25
                have c25b1 : (t213 != 0) = true := bne_iff_ne.mpr c25
                by_cases c26 : t215 = 0
                · rw [if_pos c26] at H
                  have c26b0 : (t215 == 0) = true := beq_iff_eq.mpr c26
                  have c26b1 : (t215 != 0) = false := bne_eq_false_iff_eq.mpr c26
                  clear c26
                  obtain rfl := Option.some.inj H
                  go_wp2
                  go_ret
                  exact ⟨by first | rfl | (simp [errW_none, errW_some] <;> rfl) | (simp [*, errW_none, errW_some] <;> rfl), by repeat (first | (with_reducible first | exact HB.out | apply below_alloc | apply pw_below_drewN | apply below_drew1) | exact HB.out)⟩
                · rw [if_neg c26] at H
                  have c26b0 : (t215 == 0) = false := beq_eq_false_iff_ne.mpr c26
                  have c26b1 : (t215 != 0) = true := bne_iff_ne.mpr c26
                  replace H := Option.bind_eq_some_iff.mp H
                  obtain ⟨t217, A270, H⟩ := H
                  replace H : (some t217) = some r := H
                  have A27 := Aside0.mk A270
                  clear A270
                  obtain rfl := Option.some.inj H
                  go_wp2_with (first | (go_at_call 23; (with_reducible refine (contangolaw01_goes.calls kj8  t217 _ A27.out).mono ?_); rintro e w28 ⟨rfl, hb⟩; have n0_ := Aside0.mk (below_step (by repeat (first | (with_reducible first | exact HB.out | apply below_alloc | apply pw_below_drewN | apply below_drew1) | exact HB.out)) hb); clear HB; have HB := n0_; clear n0_; (try clear hb); (try clear hb2); (try clear hk); (try clear hi)))
                  go_ret
                  exact ⟨by first | rfl | (simp [errW_none, errW_some] <;> rfl) | (simp [*, errW_none, errW_some] <;> rfl), by repeat (first | (with_reducible first | exact HB.out | apply below_alloc | apply pw_below_drewN | apply below_drew1) | exact HB.out)⟩
      · replace c19 := Bool.eq_false_iff.mpr c19
        subst c19
        have H1 : (if t208 < t206 then (contangolaw01_CentsModes.j1 kj8 t206 t208 t210 t212 true) else (if (wrap64 (t208 - t206)) > 1 then (contangolaw01_CentsModes.j1 kj8 t206 t208 t210 t212 true) else (if t214 = t206 then (contangolaw01_CentsModes.j1 kj8 t206 t208 t210 t212 false) else (contangolaw01_CentsModes.j1 kj8 t206 t208 t210 t212 (t214 != t208))))) = some r := by rw [if_neg (show ¬ (false = true) by decide)] at H; exact H
        clear H
        have H := H1
        clear H1
        have HC29 := Aside0.mk H
        clear H
        go_upto_region 8 with (fail)
        go_cut [109] (fun v109 wc => ∃ (kq : Nat) (x109_28 : Bool), v109 = .bool x109_28 ∧ Aside0 (contangolaw01_CentsModes.j1 kq t206 t208 t210 t212 x109_28 = some r) ∧ Aside0 (kq ≤ kj8) ∧ Aside0 (Below w.heap.size w wc))
        case first =>
          have H := HC29.out
          clear HC29
          by_cases c30 : t208 < t206
          · rw [if_pos c30] at H
            have c30b0 : decide (t208 < t206) = true := decide_eq_true c30
            clear c30
            (first | rw [c30b0] | (simp only [i64_w, i32_w]; rw [c30b0]) | skip)
            have H' := Aside0.mk H
            clear H
            go_wp2
            go_meet
            case rel => exact ⟨_, (true), (by first | rfl | (simp; done) | (simp [*]; done)), H', ⟨by have := HJ8.out; first | omega | exact Nat.le_refl _⟩, ⟨by repeat (first | (with_reducible first | exact HB.out | apply below_alloc | apply pw_below_drewN | apply below_drew1) | exact HB.out)⟩⟩
          · rw [if_neg c30] at H
            have c30b0 : decide (t208 < t206) = false := decide_eq_false c30
            clear c30
            (first | rw [c30b0] | (simp only [i64_w, i32_w]; rw [c30b0]) | skip)
            by_cases c31 : (wrap64 (t208 - t206)) > 1
            · rw [if_pos c31] at H
              have c31b0 : decide (1 < (wrap64 (t208 - t206))) = true := decide_eq_true c31
              clear c31
              have H' := Aside0.mk H
              clear H
              go_wp2
              go_meet
              case rel => exact ⟨_, (true), (by first | rfl | (simp; done) | (simp [*]; done)), H', ⟨by have := HJ8.out; first | omega | exact Nat.le_refl _⟩, ⟨by repeat (first | (with_reducible first | exact HB.out | apply below_alloc | apply pw_below_drewN | apply below_drew1) | exact HB.out)⟩⟩
            · rw [if_neg c31] at H
              have c31b0 : decide (1 < (wrap64 (t208 - t206))) = false := decide_eq_false c31
              clear c31
              by_cases c32 : t214 = t206
              · rw [if_pos c32] at H
                have c32b0 : (t214 == t206) = true := beq_iff_eq.mpr c32
                have c32b1 : (t214 != t206) = false := bne_eq_false_iff_eq.mpr c32
                clear c32
                have H' := Aside0.mk H
                clear H
                go_wp2
                go_meet
                case rel => exact ⟨_, (false), (by first | rfl | (simp; done) | (simp [*]; done)), H', ⟨by have := HJ8.out; first | omega | exact Nat.le_refl _⟩, ⟨by repeat (first | (with_reducible first | exact HB.out | apply below_alloc | apply pw_below_drewN | apply below_drew1) | exact HB.out)⟩⟩
              · rw [if_neg c32] at H
                have c32b0 : (t214 == t206) = false := beq_eq_false_iff_ne.mpr c32
                have c32b1 : (t214 != t206) = true := bne_iff_ne.mpr c32
                have H' := Aside0.mk H
                clear H
                go_wp2
                go_meet
                case rel => exact ⟨_, ((t214 != t208)), (by first | rfl | (simp; done) | (simp [*]; done)), H', ⟨by have := HJ8.out; first | omega | exact Nat.le_refl _⟩, ⟨by repeat (first | (with_reducible first | exact HB.out | apply below_alloc | apply pw_below_drewN | apply below_drew1) | exact HB.out)⟩⟩
        case rest =>
          clear HC29
          try clear c1
          try clear c2
          try clear p2
          try clear c3
          try clear p6
          try clear c9
          try clear c15
          try clear c15b0
          try clear c15b1
          try clear c16
          try clear c16b0
          try clear c16b1
          try clear c17
          try clear c17b0
          try clear c17b1
          try clear c18
          try clear c18b0
          try clear c18b1
          try clear c19
          try clear c20
          try clear c20b0
          try clear c20b1
          try clear c23
          try clear c23b0
          try clear c23b1
          try clear c24
          try clear c24b0
          try clear c24b1
          try clear c25
          try clear c25b0
          try clear c25b1
          try clear c26
          try clear c26b0
          try clear c26b1
          try clear c30
          try clear c30b0
          try clear c31
          try clear c31b0
          try clear c32
          try clear c32b0
          try clear c32b1
          try clear p2
          obtain ⟨kq, x109_28, rfl, HA, HJ28, HB⟩ := hcut
          cases kq with
          | zero => exact absurd HA.out (by simp [contangolaw01_CentsModes.j1])
          | succ kj28 =>
            have H := HA.out
            clear HA
            simp only [contangolaw01_CentsModes.j1] at H
            by_cases c33 : x109_28 = true
            · subst c33
              have H1 : (some false) = some r := by rw [if_pos rfl] at H; exact H
              clear H
              have H := H1
              clear H1
              obtain rfl := Option.some.inj H
              go_wp2
              go_ret
              exact ⟨by first | rfl | (simp [errW_none, errW_some] <;> rfl) | (simp [*, errW_none, errW_some] <;> rfl), by repeat (first | (with_reducible first | exact HB.out | apply below_alloc | apply pw_below_drewN | apply below_drew1) | exact HB.out)⟩
            · replace c33 := Bool.eq_false_iff.mpr c33
              subst c33
              have H1 : (if t206 ≥ 0 then (if t210 = t206 then (if t212 = t208 then (if t208 ≤ 0 then (if t210 = t208 then (if t212 = t206 then ((contangolaw01_goes.f kj28).bind fun t218 => (some t218)) else (some false)) else (some false)) else ((contangolaw01_goes.f kj28).bind fun t219 => (some t219))) else (some false)) else (some false)) else (if t208 ≤ 0 then (if t210 = t208 then (if t212 = t206 then ((contangolaw01_goes.f kj28).bind fun t220 => (some t220)) else (some false)) else (some false)) else ((contangolaw01_goes.f kj28).bind fun t221 => (some t221)))) = some r := by rw [if_neg (show ¬ (false = true) by decide)] at H; exact H
              clear H
              have H := H1
              clear H1
              by_cases c34 : t206 ≥ 0
              · rw [if_pos c34] at H
                have c34b0 : decide (0 ≤ t206) = true := decide_eq_true c34
                clear c34
                by_cases c35 : t210 = t206
                · rw [if_pos c35] at H
                  have c35b0 : (t210 == t206) = true := beq_iff_eq.mpr c35
                  have c35b1 : (t210 != t206) = false := bne_eq_false_iff_eq.mpr c35
                  clear c35
                  by_cases c36 : t212 = t208
                  · rw [if_pos c36] at H
                    have c36b0 : (t212 == t208) = true := beq_iff_eq.mpr c36
                    have c36b1 : (t212 != t208) = false := bne_eq_false_iff_eq.mpr c36
                    clear c36
                    by_cases c37 : t208 ≤ 0
                    · rw [if_pos c37] at H
                      have c37b0 : decide (t208 ≤ 0) = true := decide_eq_true c37
                      clear c37
                      by_cases c38 : t210 = t208
                      · rw [if_pos c38] at H
                        have c38b0 : (t210 == t208) = true := beq_iff_eq.mpr c38
                        have c38b1 : (t210 != t208) = false := bne_eq_false_iff_eq.mpr c38
                        clear c38
                        by_cases c39 : t212 = t206
                        · rw [if_pos c39] at H
                          have c39b0 : (t212 == t206) = true := beq_iff_eq.mpr c39
                          have c39b1 : (t212 != t206) = false := bne_eq_false_iff_eq.mpr c39
                          clear c39
                          replace H := Option.bind_eq_some_iff.mp H
                          obtain ⟨t218, A400, H⟩ := H
                          replace H : (some t218) = some r := H
                          have A40 := Aside0.mk A400
                          clear A400
                          obtain rfl := Option.some.inj H
                          go_wp2_with (first | ((with_reducible refine gate_callee (f := 23) rfl ?_); refine goesL_ (some 136) rfl rfl Try.func23 (by kernel_rfl) rfl #[] rfl (by (try simp only [List.map_toArray, List.map_cons, List.map_nil]); first | done | rfl | (simp only [List.length_drop, List.length_take]; rfl)) ?_; (with_reducible refine (contangolaw01_goes.calls kj28  t218 _ A40.out).mono ?_); rintro e w41 ⟨rfl, hb⟩; refine ⟨_, rfl, ?_⟩; have n0_ := Aside0.mk (below_step (by repeat (first | (with_reducible first | exact HB.out | apply below_alloc | apply pw_below_drewN | apply below_drew1) | exact HB.out)) hb); clear HB; have HB := n0_; clear n0_; (try clear hb); (try clear hb2); (try clear hk); (try clear hi)))
                          go_ret
                          exact ⟨by first | rfl | (simp [errW_none, errW_some] <;> rfl) | (simp [*, errW_none, errW_some] <;> rfl), by repeat (first | (with_reducible first | exact HB.out | apply below_alloc | apply pw_below_drewN | apply below_drew1) | exact HB.out)⟩
                        · rw [if_neg c39] at H
                          have c39b0 : (t212 == t206) = false := beq_eq_false_iff_ne.mpr c39
                          have c39b1 : (t212 != t206) = true := bne_iff_ne.mpr c39
                          obtain rfl := Option.some.inj H
                          go_wp2
                          go_ret
                          exact ⟨by first | rfl | (simp [errW_none, errW_some] <;> rfl) | (simp [*, errW_none, errW_some] <;> rfl), by repeat (first | (with_reducible first | exact HB.out | apply below_alloc | apply pw_below_drewN | apply below_drew1) | exact HB.out)⟩
                      · rw [if_neg c38] at H
                        have c38b0 : (t210 == t208) = false := beq_eq_false_iff_ne.mpr c38
                        have c38b1 : (t210 != t208) = true := bne_iff_ne.mpr c38
                        obtain rfl := Option.some.inj H
                        go_wp2
                        go_ret
                        exact ⟨by first | rfl | (simp [errW_none, errW_some] <;> rfl) | (simp [*, errW_none, errW_some] <;> rfl), by repeat (first | (with_reducible first | exact HB.out | apply below_alloc | apply pw_below_drewN | apply below_drew1) | exact HB.out)⟩
                    · rw [if_neg c37] at H
                      have c37b0 : decide (t208 ≤ 0) = false := decide_eq_false c37
                      clear c37
                      replace H := Option.bind_eq_some_iff.mp H
                      obtain ⟨t219, A420, H⟩ := H
                      replace H : (some t219) = some r := H
                      have A42 := Aside0.mk A420
                      clear A420
                      obtain rfl := Option.some.inj H
                      go_wp2_with (first | ((with_reducible refine gate_callee (f := 23) rfl ?_); refine goesL_ (some 136) rfl rfl Try.func23 (by kernel_rfl) rfl #[] rfl (by (try simp only [List.map_toArray, List.map_cons, List.map_nil]); first | done | rfl | (simp only [List.length_drop, List.length_take]; rfl)) ?_; (with_reducible refine (contangolaw01_goes.calls kj28  t219 _ A42.out).mono ?_); rintro e w43 ⟨rfl, hb⟩; refine ⟨_, rfl, ?_⟩; have n0_ := Aside0.mk (below_step (by repeat (first | (with_reducible first | exact HB.out | apply below_alloc | apply pw_below_drewN | apply below_drew1) | exact HB.out)) hb); clear HB; have HB := n0_; clear n0_; (try clear hb); (try clear hb2); (try clear hk); (try clear hi)))
                      go_ret
                      exact ⟨by first | rfl | (simp [errW_none, errW_some] <;> rfl) | (simp [*, errW_none, errW_some] <;> rfl), by repeat (first | (with_reducible first | exact HB.out | apply below_alloc | apply pw_below_drewN | apply below_drew1) | exact HB.out)⟩
                  · rw [if_neg c36] at H
                    have c36b0 : (t212 == t208) = false := beq_eq_false_iff_ne.mpr c36
                    have c36b1 : (t212 != t208) = true := bne_iff_ne.mpr c36
                    obtain rfl := Option.some.inj H
                    go_wp2
                    go_ret
                    exact ⟨by first | rfl | (simp [errW_none, errW_some] <;> rfl) | (simp [*, errW_none, errW_some] <;> rfl), by repeat (first | (with_reducible first | exact HB.out | apply below_alloc | apply pw_below_drewN | apply below_drew1) | exact HB.out)⟩
                · rw [if_neg c35] at H
                  have c35b0 : (t210 == t206) = false := beq_eq_false_iff_ne.mpr c35
                  have c35b1 : (t210 != t206) = true := bne_iff_ne.mpr c35
                  obtain rfl := Option.some.inj H
                  go_wp2
                  go_ret
                  exact ⟨by first | rfl | (simp [errW_none, errW_some] <;> rfl) | (simp [*, errW_none, errW_some] <;> rfl), by repeat (first | (with_reducible first | exact HB.out | apply below_alloc | apply pw_below_drewN | apply below_drew1) | exact HB.out)⟩
              · rw [if_neg c34] at H
                have c34b0 : decide (0 ≤ t206) = false := decide_eq_false c34
                clear c34
                by_cases c44 : t208 ≤ 0
                · rw [if_pos c44] at H
                  have c44b0 : decide (t208 ≤ 0) = true := decide_eq_true c44
                  clear c44
                  by_cases c45 : t210 = t208
                  · rw [if_pos c45] at H
                    have c45b0 : (t210 == t208) = true := beq_iff_eq.mpr c45
                    have c45b1 : (t210 != t208) = false := bne_eq_false_iff_eq.mpr c45
                    clear c45
                    by_cases c46 : t212 = t206
                    · rw [if_pos c46] at H
                      have c46b0 : (t212 == t206) = true := beq_iff_eq.mpr c46
                      have c46b1 : (t212 != t206) = false := bne_eq_false_iff_eq.mpr c46
                      clear c46
                      replace H := Option.bind_eq_some_iff.mp H
                      obtain ⟨t220, A470, H⟩ := H
                      replace H : (some t220) = some r := H
                      have A47 := Aside0.mk A470
                      clear A470
                      obtain rfl := Option.some.inj H
                      go_wp2_with (first | ((with_reducible refine gate_callee (f := 23) rfl ?_); refine goesL_ (some 136) rfl rfl Try.func23 (by kernel_rfl) rfl #[] rfl (by (try simp only [List.map_toArray, List.map_cons, List.map_nil]); first | done | rfl | (simp only [List.length_drop, List.length_take]; rfl)) ?_; (with_reducible refine (contangolaw01_goes.calls kj28  t220 _ A47.out).mono ?_); rintro e w48 ⟨rfl, hb⟩; refine ⟨_, rfl, ?_⟩; have n0_ := Aside0.mk (below_step (by repeat (first | (with_reducible first | exact HB.out | apply below_alloc | apply pw_below_drewN | apply below_drew1) | exact HB.out)) hb); clear HB; have HB := n0_; clear n0_; (try clear hb); (try clear hb2); (try clear hk); (try clear hi)))
                      go_ret
                      exact ⟨by first | rfl | (simp [errW_none, errW_some] <;> rfl) | (simp [*, errW_none, errW_some] <;> rfl), by repeat (first | (with_reducible first | exact HB.out | apply below_alloc | apply pw_below_drewN | apply below_drew1) | exact HB.out)⟩
                    · rw [if_neg c46] at H
                      have c46b0 : (t212 == t206) = false := beq_eq_false_iff_ne.mpr c46
                      have c46b1 : (t212 != t206) = true := bne_iff_ne.mpr c46
                      obtain rfl := Option.some.inj H
                      go_wp2
                      go_ret
                      exact ⟨by first | rfl | (simp [errW_none, errW_some] <;> rfl) | (simp [*, errW_none, errW_some] <;> rfl), by repeat (first | (with_reducible first | exact HB.out | apply below_alloc | apply pw_below_drewN | apply below_drew1) | exact HB.out)⟩
                  · rw [if_neg c45] at H
                    have c45b0 : (t210 == t208) = false := beq_eq_false_iff_ne.mpr c45
                    have c45b1 : (t210 != t208) = true := bne_iff_ne.mpr c45
                    obtain rfl := Option.some.inj H
                    go_wp2
                    go_ret
                    exact ⟨by first | rfl | (simp [errW_none, errW_some] <;> rfl) | (simp [*, errW_none, errW_some] <;> rfl), by repeat (first | (with_reducible first | exact HB.out | apply below_alloc | apply pw_below_drewN | apply below_drew1) | exact HB.out)⟩
                · rw [if_neg c44] at H
                  have c44b0 : decide (t208 ≤ 0) = false := decide_eq_false c44
                  clear c44
                  replace H := Option.bind_eq_some_iff.mp H
                  obtain ⟨t221, A490, H⟩ := H
                  replace H : (some t221) = some r := H
                  have A49 := Aside0.mk A490
                  clear A490
                  obtain rfl := Option.some.inj H
                  go_wp2_with (first | ((with_reducible refine gate_callee (f := 23) rfl ?_); refine goesL_ (some 136) rfl rfl Try.func23 (by kernel_rfl) rfl #[] rfl (by (try simp only [List.map_toArray, List.map_cons, List.map_nil]); first | done | rfl | (simp only [List.length_drop, List.length_take]; rfl)) ?_; (with_reducible refine (contangolaw01_goes.calls kj28  t221 _ A49.out).mono ?_); rintro e w50 ⟨rfl, hb⟩; refine ⟨_, rfl, ?_⟩; have n0_ := Aside0.mk (below_step (by repeat (first | (with_reducible first | exact HB.out | apply below_alloc | apply pw_below_drewN | apply below_drew1) | exact HB.out)) hb); clear HB; have HB := n0_; clear n0_; (try clear hb); (try clear hb2); (try clear hk); (try clear hi)))
                  go_ret
                  exact ⟨by first | rfl | (simp [errW_none, errW_some] <;> rfl) | (simp [*, errW_none, errW_some] <;> rfl), by repeat (first | (with_reducible first | exact HB.out | apply below_alloc | apply pw_below_drewN | apply below_drew1) | exact HB.out)⟩

/-- THE ONE PURE STATEMENT of contangolaw01_CentsModes: yours. -/
def contangolaw01_CentsModes.Pure : Prop := ∀ (a0 : Int) (a1 : Int) (a2 : Int), (Lit.int .i64 a0).wf = true → (Lit.int .i64 a1).wf = true → (Lit.int .i64 a2).wf = true → ∃ k, contangolaw01_CentsModes.f k a0 a1 a2 = some true
theorem contangolaw01_CentsModes.walk (P : contangolaw01_CentsModes.Pure) (a0 : Int) (a1 : Int) (a2 : Int) (w : World) (w0 : (Lit.int .i64 a0).wf = true) (w1 : (Lit.int .i64 a1).wf = true) (w2 : (Lit.int .i64 a2).wf = true) :
    Calls Try.prog 9 #[.int .i64 a0, .int .i64 a1, .int .i64 a2] w fun e w' => e = .returned (.bool true) ∧ Below w.heap.size w w' := by
  obtain ⟨k, h⟩ := P a0 a1 a2 w0 w1 w2
  refine (contangolaw01_CentsModes.calls k a0 a1 a2 true w h).mono ?_
  rintro e w' ⟨rfl, hd⟩
  exact ⟨rfl, hd⟩

end Go.Proofs.Ytffdehnmoimikaa.Pr
