/- Functions' values and contracts, as the print wrote them. -/
import Derived.Test.YtfcaaefdmabkhaaQ4A5P0
import Derived.Test.YtfcaaefdmabkhaaQ4A5P7
namespace Go.Proofs.Ytfcaaefdmabkhaa.Pr
open Go.RowKit Go.Proofs.YtfcaaefdmabkhaaW.PrintWords Go.Proofs.YtfcaaefdmabkhaaW.PrintLast Go.Proofs.YtfcaaefdmabkhaaW.PrintMore
attribute [local go_sem] max2_int min2_int max_two min_two max_three min_three max_four min_four   -- for this text's walks alone
set_option linter.unusedVariables false
set_option linter.unusedSimpArgs false
def contangolaw34_CoverLacks.f (k : Nat) (a0 : Int) (a1 : Int) : Option (Bool) := (cover_Lack.f a0 a1).bind fun bt324 => ((contangoref34_Lack.f a0 a1).bind fun bt326 => (if bt324.1 = bt326.1 then (if bt324.2 = bt326.2 then ((contangolaw34_goes.f k).bind fun t328 => (some t328)) else (some false)) else (some false)))
theorem contangolaw34_CoverLacks.mono : ∀ a0 a1 k, LeO (contangolaw34_CoverLacks.f k a0 a1) (contangolaw34_CoverLacks.f (k + 1) a0 a1) := by
 intro a0 a1 k
 unfold contangolaw34_CoverLacks.f
 repeat' first
   | (with_reducible exact contangolaw34_goes.mono _)
   | (with_reducible exact LeO.refl _)
   | (with_reducible exact LeO.none _)
   | (with_reducible refine LeO.ite ?_ ?_)
   | (with_reducible refine LeO.bind ?_ (fun _ => ?_))
   | exact contangolaw34_goes.mono _
   | exact LeO.none _
   | refine LeO.ite ?_ ?_
   | refine LeO.bind ?_ (fun _ => ?_)
set_option maxHeartbeats 8000000 in
set_option maxRecDepth 100000 in
theorem contangolaw34_CoverLacks.calls (k : Nat) (a0 : Int) (a1 : Int) (r : Bool) (w : World) (h : contangolaw34_CoverLacks.f k a0 a1 = some r) :
  Calls Try.prog 3 #[.int .i64 a0, .int .i64 a1] w fun e w' => e = .returned (.bool r) ∧ Below w.heap.size w w' := by
 have HB := Aside0.mk (Below.refl w.heap.size w)
 have H : ((cover_Lack.f a0 a1).bind fun bt324 => ((contangoref34_Lack.f a0 a1).bind fun bt326 => (if bt324.1 = bt326.1 then (if bt324.2 = bt326.2 then ((contangolaw34_goes.f k).bind fun t328 => (some t328)) else (some false)) else (some false)))) = some r := h
 clear h
 replace H := Option.bind_eq_some_iff.mp H
 obtain ⟨⟨t324, t325⟩, A30, H⟩ := H
 replace H : ((contangoref34_Lack.f a0 a1).bind fun bt326 => (if t324 = bt326.1 then (if t325 = bt326.2 then ((contangolaw34_goes.f k).bind fun t328 => (some t328)) else (some false)) else (some false))) = some r := H
 have A3 := Aside0.mk A30
 clear A30
 replace H := Option.bind_eq_some_iff.mp H
 obtain ⟨⟨t326, t327⟩, A40, H⟩ := H
 replace H : (if t324 = t326 then (if t325 = t327 then ((contangolaw34_goes.f k).bind fun t328 => (some t328)) else (some false)) else (some false)) = some r := H
 have A4 := Aside0.mk A40
 clear A40
 go_enter Try.func3, Try.ntmps3
 go_upto_region 3 with (first | ((with_reducible refine gate_callee (f := 15) rfl ?_); refine goesL_ (some 12) rfl rfl Try.func15 (by kernel_rfl) rfl #[.int .i64 a0, .int .i64 a1] rfl (by (try simp only [List.map_toArray, List.map_cons, List.map_nil]); first | done | rfl | (simp only [List.length_drop, List.length_take]; rfl)) ?_; (with_reducible refine (cover_Lack.calls a0 a1 t324 t325 _ A3.out).mono ?_); rintro e w5 ⟨rfl, hb⟩; refine ⟨_, rfl, ?_⟩; have n0_ := Aside0.mk (below_step (by repeat (first | (with_reducible first | exact HB.out | apply below_alloc | apply pw_below_drewN | apply below_drew1) | exact HB.out)) hb); clear HB; have HB := n0_; clear n0_; (try clear hb); (try clear hb2); (try clear hk); (try clear hi)) | ((with_reducible refine gate_callee (f := 16) rfl ?_); refine goesL_ (some 18) rfl rfl Try.func16 (by kernel_rfl) rfl #[.int .i64 a0, .int .i64 a1] rfl (by (try simp only [List.map_toArray, List.map_cons, List.map_nil]); first | done | rfl | (simp only [List.length_drop, List.length_take]; rfl)) ?_; (with_reducible refine (contangoref34_Lack.calls a0 a1 t326 t327 _ A4.out).mono ?_); rintro e w6 ⟨rfl, hb⟩; refine ⟨_, rfl, ?_⟩; have n0_ := Aside0.mk (below_step (by repeat (first | (with_reducible first | exact HB.out | apply below_alloc | apply pw_below_drewN | apply below_drew1) | exact HB.out)) hb); clear HB; have HB := n0_; clear n0_; (try clear hb); (try clear hb2); (try clear hk); (try clear hi)))
 (try simp only [Act.put, List.setIfInBounds_toArray, List.set_cons_zero, List.set_cons_succ])
 by_cases c7 : t324 = t326
 ·rw [if_pos c7] at H
  have c7b0 : (t324 == t326) = true := beq_iff_eq.mpr c7
  have c7b1 : (t324 != t326) = false := bne_eq_false_iff_eq.mpr c7
  clear c7
  (try simp only [c7b0, c7b1])
  by_cases c8 : t325 = t327
  ·rw [if_pos c8] at H
   have c8b0 : (t325 == t327) = true := beq_iff_eq.mpr c8
   have c8b1 : (t325 != t327) = false := bne_eq_false_iff_eq.mpr c8
   clear c8
   replace H := Option.bind_eq_some_iff.mp H
   obtain ⟨t328, A90, H⟩ := H
   replace H : (some t328) = some r := H
   have A9 := Aside0.mk A90
   clear A90
   obtain rfl := Option.some.inj H
   go_wp2_with (first | (go_at_call 17; (with_reducible refine (contangolaw34_goes.calls k  t328 _ A9.out).mono ?_); rintro e w10 ⟨rfl, hb⟩; have n0_ := Aside0.mk (below_step (by repeat (first | (with_reducible first | exact HB.out | apply below_alloc | apply pw_below_drewN | apply below_drew1) | exact HB.out)) hb); clear HB; have HB := n0_; clear n0_; (try clear hb); (try clear hb2); (try clear hk); (try clear hi)))
   go_ret
   exact ⟨by first | rfl | (simp [errW_none, errW_some] <;> rfl) | (simp [*, errW_none, errW_some] <;> rfl), by repeat (first | (with_reducible first | exact HB.out | apply below_alloc | apply pw_below_drewN | apply below_drew1) | exact HB.out)⟩
  ·rw [if_neg c8] at H
   have c8b0 : (t325 == t327) = false := beq_eq_false_iff_ne.mpr c8
   have c8b1 : (t325 != t327) = true := bne_iff_ne.mpr c8
   obtain rfl := Option.some.inj H
   go_wp2
   go_ret
   exact ⟨by first | rfl | (simp [errW_none, errW_some] <;> rfl) | (simp [*, errW_none, errW_some] <;> rfl), by repeat (first | (with_reducible first | exact HB.out | apply below_alloc | apply pw_below_drewN | apply below_drew1) | exact HB.out)⟩
 ·rw [if_neg c7] at H
  have c7b0 : (t324 == t326) = false := beq_eq_false_iff_ne.mpr c7
  have c7b1 : (t324 != t326) = true := bne_iff_ne.mpr c7
  (try simp only [c7b0, c7b1])
  obtain rfl := Option.some.inj H
  go_wp2
  go_ret
  exact ⟨by first | rfl | (simp [errW_none, errW_some] <;> rfl) | (simp [*, errW_none, errW_some] <;> rfl), by repeat (first | (with_reducible first | exact HB.out | apply below_alloc | apply pw_below_drewN | apply below_drew1) | exact HB.out)⟩
end Go.Proofs.Ytfcaaefdmabkhaa.Pr
