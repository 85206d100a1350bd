/- Functions' values and contracts, as the print wrote them. -/
import Derived.Test.YtfcaaefdmabkhaaQCF9P0
import Derived.Test.YtfcaaefdmabkhaaQCF9P3
import Derived.Test.YtfcaaefdmabkhaaQCF9P5
import Derived.Test.YtfcaaefdmabkhaaQCF9P4
import Derived.Test.YtfcaaefdmabkhaaQCF9P1
import Derived.Test.YtfcaaefdmabkhaaQCF9P2
namespace Go.Proofs.Ytfcaaefdmabkhaa.Pr
open Go.RowKit Go.Proofs.YtfcaaefdmabkhaaW.PrintWords Go.Proofs.YtfcaaefdmabkhaaW.PrintLast Go.Proofs.YtfcaaefdmabkhaaW.PrintMore
attribute [local go_sem] QaP QaR QaX QaY QaJ QaK QaQ QaS   -- for this text's walks alone
set_option linter.unusedVariables false
set_option linter.unusedSimpArgs false
def QaU.j0 : Nat → Int → Int → Bool → Option (Int × Int)
 | 0, _, _, _ => none
 | k + 1, x0, x1, x13 => if x13 = true then (some (0, 2)) else (if x0 = 0 then (some (wrap64 (x0 * x1), 0)) else ((Qbn.f x1).bind fun t352 => ((Qbn.f x0).bind fun t353 => (if t353 = 0 then (none) else (if t352 > (wrap64 (Int.tdiv (1152921504606846976 : Int) t353)) then (some (0, 3)) else (some (wrap64 (x0 * x1), 0)))))))
def QaU.f (k : Nat) (a0 : Int) (a1 : Int) : Option (Int × Int) := (Qbk.f a0).bind fun t350 => (if t350 = true then ((Qbk.f a1).bind fun t351 => (QaU.j0 k a0 a1 (!t351))) else (QaU.j0 k a0 a1 true))
theorem QaU.mono_l : ∀ k, (∀ y0 y1 y2, LeO (QaU.j0 k y0 y1 y2) (QaU.j0 (k + 1) y0 y1 y2))
 | 0 => fun _ _ _ r h => by simp [QaU.j0] at h
 | k + 1 => by
  have ih0 := QaU.mono_l k
  ·intro y0 y1 y2
   unfold QaU.j0
   repeat' first
   | (with_reducible exact ih0 _ _ _)
   | (with_reducible exact LeO.refl _)
   | (with_reducible exact LeO.none _)
   | (with_reducible refine LeO.ite ?_ ?_)
   | (with_reducible refine LeO.bind ?_ (fun _ => ?_))
   | exact ih0 _ _ _
   | exact LeO.none _
   | refine LeO.ite ?_ ?_
   | refine LeO.bind ?_ (fun _ => ?_)
theorem QaU.mono : ∀ a0 a1 k, LeO (QaU.f k a0 a1) (QaU.f (k + 1) a0 a1) := by
 intro a0 a1 k
 have ih0 := QaU.mono_l k
 unfold QaU.f
 repeat' first
   | (with_reducible exact ih0 _ _ _)
   | (with_reducible exact LeO.refl _)
   | (with_reducible exact LeO.none _)
   | (with_reducible refine LeO.ite ?_ ?_)
   | (with_reducible refine LeO.bind ?_ (fun _ => ?_))
   | exact ih0 _ _ _
   | exact LeO.none _
   | refine LeO.ite ?_ ?_
   | refine LeO.bind ?_ (fun _ => ?_)
set_option maxHeartbeats 8000000 in
set_option maxRecDepth 100000 in
theorem QaU.calls (k : Nat) (a0 : Int) (a1 : Int) (r1 : Int) (r2 : Int) (w : World) (h : QaU.f k a0 a1 = some (r1, r2)) :
  Calls Try.prog 105 #[.int .i64 a0, .int .i64 a1] w fun e w' => e = .returned (.tuple #[.int .i64 r1, .int .i64 r2]) ∧ Drawn0 w w' := by
 have H : ((Qbk.f a0).bind fun t350 => (if t350 = true then ((Qbk.f a1).bind fun t351 => (QaU.j0 k a0 a1 (!t351))) else (QaU.j0 k a0 a1 true))) = some (r1, r2) := h
 clear h
 have HC3 := Aside0.mk H
 clear H
 go_enter Try.func105, Try.ntmps105
 go_upto_region 1 with (fail)
 go_cut [13] (fun v13 wc => ∃ (kq : Nat) (x13_2 : Bool), v13 = .bool x13_2 ∧ Aside0 (QaU.j0 kq a0 a1 x13_2 = some (r1, r2)) ∧ Aside0 (kq ≤ k) ∧ Drawn0 w wc)
 case first =>
  have H := HC3.out
  clear HC3
  replace H := Option.bind_eq_some_iff.mp H
  obtain ⟨t350, A40, H⟩ := H
  replace H : (if t350 = true then ((Qbk.f a1).bind fun t351 => (QaU.j0 k a0 a1 (!t351))) else (QaU.j0 k a0 a1 true)) = some (r1, r2) := H
  have A4 := Aside0.mk A40
  clear A40
  by_cases c5 : t350 = true
  ·subst c5
   have H1 : ((Qbk.f a1).bind fun t351 => (QaU.j0 k a0 a1 (!t351))) = some (r1, r2) := by rw [if_pos rfl] at H; exact H
   clear H
   have H := H1
   clear H1
   replace H := Option.bind_eq_some_iff.mp H
   obtain ⟨t351, A60, H⟩ := H
   replace H : (QaU.j0 k a0 a1 (!t351)) = some (r1, r2) := H
   have A6 := Aside0.mk A60
   clear A60
   have H' := Aside0.mk H
   clear H
   go_wp2_with (first | ((with_reducible refine Qaw (f := 93) rfl ?_); refine goesL_ (some 7) rfl rfl Try.func93 (by kernel_rfl) rfl #[.int .i64 a0] rfl (Zl) ?_; (with_reducible refine (Qbk.calls a0 true _ A4.out).mono ?_); rintro e w' ⟨rfl, ⟨nd, rfl⟩⟩; refine ⟨_, rfl, ?_⟩) | (go_at_call 93; (with_reducible refine (Qbk.calls a1 t351 _ A6.out).mono ?_); rintro e w' ⟨rfl, ⟨nd, rfl⟩⟩))
   go_meet
   case rel => exact ⟨_, (!t351), (Zs), H', ⟨by first | omega | exact Nat.le_refl _⟩, by repeat (first | exact Drawn0.refl _ | apply Drawn0.step)⟩
  ·replace c5 := Bool.eq_false_iff.mpr c5
   subst c5
   have H1 : (QaU.j0 k a0 a1 true) = some (r1, r2) := by rw [if_neg (show ¬ (false = true) by decide)] at H; exact H
   clear H
   have H := H1
   clear H1
   have H' := Aside0.mk H
   clear H
   go_wp2_with (first | ((with_reducible refine Qaw (f := 93) rfl ?_); refine goesL_ (some 7) rfl rfl Try.func93 (by kernel_rfl) rfl #[.int .i64 a0] rfl (Zl) ?_; (with_reducible refine (Qbk.calls a0 false _ A4.out).mono ?_); rintro e w' ⟨rfl, ⟨nd, rfl⟩⟩; refine ⟨_, rfl, ?_⟩))
   go_meet
   case rel => exact ⟨_, (true), (Zs), H', ⟨by first | omega | exact Nat.le_refl _⟩, by repeat (first | exact Drawn0.refl _ | apply Drawn0.step)⟩
 case rest =>
  clear HC3
  try clear c1
  try clear p2
  try clear c5
  obtain ⟨kq, x13_2, rfl, HA, HJ2, ⟨mc2, rfl⟩⟩ := hcut
  cases kq with
  | zero => exact absurd HA.out (by simp [QaU.j0])
  | succ kj2 =>
   have H := HA.out
   clear HA
   simp only [QaU.j0] at H
   by_cases c7 : x13_2 = true
   ·subst c7
    have H1 : (some (0, 2)) = some (r1, r2) := by rw [if_pos rfl] at H; exact H
    clear H
    have H := H1
    clear H1
    simp only [Option.some.injEq, Prod.mk.injEq] at H
    obtain ⟨rfl, rfl⟩ := H
    go_wp2
    go_ret2
    exact ⟨Zs, by repeat (first | exact Drawn0.refl _ | apply Drawn0.step)⟩
   ·replace c7 := Bool.eq_false_iff.mpr c7
    subst c7
    have H1 : (if a0 = 0 then (some (wrap64 (a0 * a1), 0)) else ((Qbn.f a1).bind fun t352 => ((Qbn.f a0).bind fun t353 => (if t353 = 0 then (none) else (if t352 > (wrap64 (Int.tdiv (1152921504606846976 : Int) t353)) then (some (0, 3)) else (some (wrap64 (a0 * a1), 0))))))) = some (r1, r2) := by rw [if_neg (show ¬ (false = true) by decide)] at H; exact H
    clear H
    have H := H1
    clear H1
    by_cases c8 : a0 = 0
    ·rw [if_pos c8] at H
     have c8b0 : (a0 == 0) = true := beq_iff_eq.mpr c8
     have c8b1 : (a0 != 0) = false := bne_eq_false_iff_eq.mpr c8
     clear c8
     simp only [Option.some.injEq, Prod.mk.injEq] at H
     obtain ⟨rfl, rfl⟩ := H
     go_wp2
     go_ret2
     exact ⟨Zs, by repeat (first | exact Drawn0.refl _ | apply Drawn0.step)⟩
    ·rw [if_neg c8] at H
     have c8b0 : (a0 == 0) = false := beq_eq_false_iff_ne.mpr c8
     have c8b1 : (a0 != 0) = true := bne_iff_ne.mpr c8
     replace H := Option.bind_eq_some_iff.mp H
     obtain ⟨t352, A90, H⟩ := H
     replace H : ((Qbn.f a0).bind fun t353 => (if t353 = 0 then (none) else (if t352 > (wrap64 (Int.tdiv (1152921504606846976 : Int) t353)) then (some (0, 3)) else (some (wrap64 (a0 * a1), 0))))) = some (r1, r2) := H
     have A9 := Aside0.mk A90
     clear A90
     replace H := Option.bind_eq_some_iff.mp H
     obtain ⟨t353, A100, H⟩ := H
     replace H : (if t353 = 0 then (none) else (if t352 > (wrap64 (Int.tdiv (1152921504606846976 : Int) t353)) then (some (0, 3)) else (some (wrap64 (a0 * a1), 0)))) = some (r1, r2) := H
     have A10 := Aside0.mk A100
     clear A100
     by_cases c11 : t353 = 0
     ·rw [if_pos c11] at H
      exact absurd H (by simp)
     ·rw [if_neg c11] at H
      have c11b0 : (t353 == 0) = false := beq_eq_false_iff_ne.mpr c11
      have c11b1 : (t353 != 0) = true := bne_iff_ne.mpr c11
      go_upto_if 23 with (first | (go_at_call 95; (with_reducible refine (Qbn.calls a1 t352 _ A9.out).mono ?_); rintro e w' ⟨rfl, ⟨nd, rfl⟩⟩) | (go_at_call 95; (with_reducible refine (Qbn.calls a0 t353 _ A10.out).mono ?_); rintro e w' ⟨rfl, ⟨nd, rfl⟩⟩))
      (try simp only [Act.put, List.setIfInBounds_toArray, List.set_cons_zero, List.set_cons_succ])
      by_cases c12 : t352 > (wrap64 (Int.tdiv (1152921504606846976 : Int) t353))
      ·rw [if_pos c12] at H
       have c12b0 : decide ((wrap64 (Int.tdiv (1152921504606846976 : Int) t353)) < t352) = true := decide_eq_true c12
       clear c12
       (try simp only [c12b0])
       simp only [Option.some.injEq, Prod.mk.injEq] at H
       obtain ⟨rfl, rfl⟩ := H
       go_wp2
       go_ret2
       exact ⟨Zs, by repeat (first | exact Drawn0.refl _ | apply Drawn0.step)⟩
      ·rw [if_neg c12] at H
       have c12b0 : decide ((wrap64 (Int.tdiv (1152921504606846976 : Int) t353)) < t352) = false := decide_eq_false c12
       clear c12
       (try simp only [c12b0])
       simp only [Option.some.injEq, Prod.mk.injEq] at H
       obtain ⟨rfl, rfl⟩ := H
       go_wp2
       go_ret2
       exact ⟨Zs, by repeat (first | exact Drawn0.refl _ | apply Drawn0.step)⟩
def Qbs.f (k : Nat) (a0_0 : ByteArray) (a0_1 : Int) (a0_2 : Int) (a0_3 : Int) (a0_4 : Int) (a0_5 : Int) (a1 : Int) : Option (Int × Int) := (Qbb.f k a0_0 a0_1 a0_2 a0_3 a0_4 a0_5).bind fun t355 => (if t355 = 0 then ((Qal.f a1 0 1152921504606846976).bind fun t356 => (if t356 = true then ((QaU.f k a1 a0_3).bind fun bt357 => (some (bt357.1, bt357.2))) else (some (0, 18)))) else (some (0, t355)))
theorem Qbs.mono : ∀ a0 a1 a2 a3 a4 a5 a6 k, LeO (Qbs.f k a0 a1 a2 a3 a4 a5 a6) (Qbs.f (k + 1) a0 a1 a2 a3 a4 a5 a6) := by
 intro a0 a1 a2 a3 a4 a5 a6 k
 unfold Qbs.f
 repeat' first
   | (with_reducible exact QaU.mono _ _ _)
   | (with_reducible exact Qbb.mono _ _ _ _ _ _ _)
   | (with_reducible exact LeO.refl _)
   | (with_reducible exact LeO.none _)
   | (with_reducible refine LeO.ite ?_ ?_)
   | (with_reducible refine LeO.bind ?_ (fun _ => ?_))
   | exact QaU.mono _ _ _
   | exact Qbb.mono _ _ _ _ _ _ _
   | exact LeO.none _
   | refine LeO.ite ?_ ?_
   | refine LeO.bind ?_ (fun _ => ?_)
set_option maxHeartbeats 8000000 in
set_option maxRecDepth 100000 in
theorem Qbs.calls (k : Nat) (a0_0 : ByteArray) (a0_1 : Int) (a0_2 : Int) (a0_3 : Int) (a0_4 : Int) (a0_5 : Int) (a1 : Int) (r1 : Int) (r2 : Int) (w : World) (h : Qbs.f k a0_0 a0_1 a0_2 a0_3 a0_4 a0_5 a1 = some (r1, r2)) :
  Calls Try.prog 69 #[.agg #[.string a0_0, .int .i64 a0_1, .int .i64 a0_2, .int .i64 a0_3, .int .i64 a0_4, .int .i64 a0_5], .int .i64 a1] w fun e w' => e = .returned (.tuple #[.int .i64 r1, .int .i64 r2]) ∧ Below w.heap.size w w' := by
 have hu84 := Try.underlying84
 have HB := Aside0.mk (Below.refl w.heap.size w)
 have H : ((Qbb.f k a0_0 a0_1 a0_2 a0_3 a0_4 a0_5).bind fun t355 => (if t355 = 0 then ((Qal.f a1 0 1152921504606846976).bind fun t356 => (if t356 = true then ((QaU.f k a1 a0_3).bind fun bt357 => (some (bt357.1, bt357.2))) else (some (0, 18)))) else (some (0, t355)))) = some (r1, r2) := h
 clear h
 replace H := Option.bind_eq_some_iff.mp H
 obtain ⟨t355, A30, H⟩ := H
 replace H : (if t355 = 0 then ((Qal.f a1 0 1152921504606846976).bind fun t356 => (if t356 = true then ((QaU.f k a1 a0_3).bind fun bt357 => (some (bt357.1, bt357.2))) else (some (0, 18)))) else (some (0, t355))) = some (r1, r2) := H
 have A3 := Aside0.mk A30
 clear A30
 go_enter Try.func69, Try.ntmps69
 go_upto_if 10 with (first | ((with_reducible refine QaW (N := 2) rfl ?_); refine Qa2 ?hg (N := 2) ?hd (cs := #[.string a0_0, .int .i64 a0_1, .int .i64 a0_2, .int .i64 a0_3, .int .i64 a0_4, .int .i64 a0_5]) (t := 84) ?hr ?_; (case hd => rfl); (case hg => rfl); (case hr => first | (go_simp; done) | (go_simp; rfl)); intro gb354 hg w4 hbox hb; have n0_ := Aside0.mk (Qao (Zb) hb); have n1_ := Aside0.mk (hbox); have n2_ := Aside0.mk ((by rw [hg]; exact (Qam (Zb)) : w.heap.size ≤ gb354)); have n3_ := Aside0.mk ((by rw [hg]; exact (Qam (Zb)) : w.heap.size ≤ gb354)); clear HB; have HB := n0_; have BK354 := n1_; have GW354 := n2_; have GE354 := n3_; clear n0_ n1_ n2_ n3_; clear hb hbox hg; have hcz5_0 : w4.cell? ⟨gb354, 0, none⟩ = some (.string a0_0) := (Qai BK354.out 0).trans rfl; have hcz5_1 : w4.cell? ⟨gb354, 1, none⟩ = some (.int .i64 a0_1) := (Qai BK354.out 1).trans rfl; have hcz5_2 : w4.cell? ⟨gb354, 2, none⟩ = some (.int .i64 a0_2) := (Qai BK354.out 2).trans rfl; have hcz5_3 : w4.cell? ⟨gb354, 3, none⟩ = some (.int .i64 a0_3) := (Qai BK354.out 3).trans rfl; have hcz5_4 : w4.cell? ⟨gb354, 4, none⟩ = some (.int .i64 a0_4) := (Qai BK354.out 4).trans rfl; have hcz5_5 : w4.cell? ⟨gb354, 5, none⟩ = some (.int .i64 a0_5) := (Qai BK354.out 5).trans rfl; have hfz5_0 := Qah BK354.out 0; have hfz5_1 := Qah BK354.out 1; have hfz5_2 := Qah BK354.out 2; have hfz5_3 := Qah BK354.out 3; have hfz5_4 := Qah BK354.out 4; have hfz5_5 := Qah BK354.out 5) | ((with_reducible refine Qaw (f := 102) rfl ?_); refine goesL_ (some 8) rfl rfl Try.func102 (by kernel_rfl) rfl #[.agg #[.string a0_0, .int .i64 a0_1, .int .i64 a0_2, .int .i64 a0_3, .int .i64 a0_4, .int .i64 a0_5]] rfl (Zl) ?_; (with_reducible refine (Qbb.calls k a0_0 a0_1 a0_2 a0_3 a0_4 a0_5 t355 _ A3.out).mono ?_); rintro e w6 ⟨rfl, hb⟩; refine ⟨_, rfl, ?_⟩; have n0_ := Aside0.mk (Qan (g := gb354) (o := .cells #[.string a0_0, .int .i64 a0_1, .int .i64 a0_2, .int .i64 a0_3, .int .i64 a0_4, .int .i64 a0_5] 84 (0, 0)) (Zu BK354.out) hb); have n1_ := Aside0.mk (Qao (Zc1 GE354.out) hb); clear BK354; clear HB; have BK354 := n0_; have HB := n1_; clear n0_ n1_; (try clear hb); (try clear hb2); (try clear hk); (try clear hi)))
 (try simp only [Act.put, List.setIfInBounds_toArray, List.set_cons_zero, List.set_cons_succ])
 by_cases c7 : t355 = 0
 ·rw [if_pos c7] at H
  have c7b0 : (t355 == 0) = true := beq_iff_eq.mpr c7
  have c7b1 : (t355 != 0) = false := bne_eq_false_iff_eq.mpr c7
  clear c7
  (try simp only [c7b0, c7b1])
  replace H := Option.bind_eq_some_iff.mp H
  obtain ⟨t356, A80, H⟩ := H
  replace H : (if t356 = true then ((QaU.f k a1 a0_3).bind fun bt357 => (some (bt357.1, bt357.2))) else (some (0, 18))) = some (r1, r2) := H
  have A8 := Aside0.mk A80
  clear A80
  go_upto_if 14 with (first | ((with_reducible refine Qaw (f := 104) rfl ?_); refine goesL_ (some 13) rfl rfl Try.func104 (by kernel_rfl) rfl #[.int .i64 a1, .int .i64 0, .int .i64 1152921504606846976] rfl (Zl) ?_; (with_reducible refine (Qal.calls a1 0 1152921504606846976 t356 _ A8.out).mono ?_); rintro e w' ⟨rfl, ⟨nd, rfl⟩⟩; refine ⟨_, rfl, ?_⟩))
  (try simp only [Act.put, List.setIfInBounds_toArray, List.set_cons_zero, List.set_cons_succ])
  by_cases c9 : t356 = true
  ·subst c9
   have H1 : ((QaU.f k a1 a0_3).bind fun bt357 => (some (bt357.1, bt357.2))) = some (r1, r2) := by rw [if_pos rfl] at H; exact H
   clear H
   have H := H1
   clear H1
   replace H := Option.bind_eq_some_iff.mp H
   obtain ⟨⟨t357, t358⟩, A100, H⟩ := H
   replace H : (some (t357, t358)) = some (r1, r2) := H
   have A10 := Aside0.mk A100
   clear A100
   simp only [Option.some.injEq, Prod.mk.injEq] at H
   obtain ⟨rfl, rfl⟩ := H
   have hcz11_0 : w6.cell? ⟨gb354, 0, none⟩ = some (.string a0_0) := (Qai BK354.out 0).trans rfl
   have hcz11_1 : w6.cell? ⟨gb354, 1, none⟩ = some (.int .i64 a0_1) := (Qai BK354.out 1).trans rfl
   have hcz11_2 : w6.cell? ⟨gb354, 2, none⟩ = some (.int .i64 a0_2) := (Qai BK354.out 2).trans rfl
   have hcz11_3 : w6.cell? ⟨gb354, 3, none⟩ = some (.int .i64 a0_3) := (Qai BK354.out 3).trans rfl
   have hcz11_4 : w6.cell? ⟨gb354, 4, none⟩ = some (.int .i64 a0_4) := (Qai BK354.out 4).trans rfl
   have hcz11_5 : w6.cell? ⟨gb354, 5, none⟩ = some (.int .i64 a0_5) := (Qai BK354.out 5).trans rfl
   have hfz11_0 := Qah BK354.out 0
   have hfz11_1 := Qah BK354.out 1
   have hfz11_2 := Qah BK354.out 2
   have hfz11_3 := Qah BK354.out 3
   have hfz11_4 := Qah BK354.out 4
   have hfz11_5 := Qah BK354.out 5
   go_wp2_with (first | ((with_reducible refine Qaw (f := 105) rfl ?_); refine goesL_ (some 18) rfl rfl Try.func105 (by kernel_rfl) rfl #[.int .i64 a1, .int .i64 a0_3] rfl (Zl) ?_; (with_reducible refine (QaU.calls k a1 a0_3 t357 t358 _ A10.out).mono ?_); rintro e w' ⟨rfl, ⟨nd, rfl⟩⟩; refine ⟨_, rfl, ?_⟩))
   go_ret2
   exact ⟨Zq, Zc1 GE354.out⟩
  ·replace c9 := Bool.eq_false_iff.mpr c9
   subst c9
   have H1 : (some (0, 18)) = some (r1, r2) := by rw [if_neg (show ¬ (false = true) by decide)] at H; exact H
   clear H
   have H := H1
   clear H1
   simp only [Option.some.injEq, Prod.mk.injEq] at H
   obtain ⟨rfl, rfl⟩ := H
   go_wp2
   go_ret2
   exact ⟨Zq, Zc1 GE354.out⟩
 ·rw [if_neg c7] at H
  have c7b0 : (t355 == 0) = false := beq_eq_false_iff_ne.mpr c7
  have c7b1 : (t355 != 0) = true := bne_iff_ne.mpr c7
  (try simp only [c7b0, c7b1])
  simp only [Option.some.injEq, Prod.mk.injEq] at H
  obtain ⟨rfl, rfl⟩ := H
  go_wp2
  go_ret2
  exact ⟨Zq, Zc1 GE354.out⟩
def QaN.l0 : Nat → List (S98) → ByteArray → Int → Option (Int × Bool)
 | 0, _, _, _ => none
 | k + 1, x0, x1, x6 => if x6 < (x0.length : Int) then (if 0 ≤ x6 then (if ((rd_T98 x0 x6).f0).toList = x1.toList then (some (x6, true)) else (QaN.l0 k x0 x1 (wrap64 (x6 + 1)))) else (none)) else (some (0, false))
def QaN.f (k : Nat) (l0 : List (S98)) (a1 : ByteArray) : Option (Int × Bool) := QaN.l0 k l0 a1 0
theorem QaN.mono_l : ∀ k, (∀ y0 y1 y2, LeO (QaN.l0 k y0 y1 y2) (QaN.l0 (k + 1) y0 y1 y2))
 | 0 => fun _ _ _ r h => by simp [QaN.l0] at h
 | k + 1 => by
  have ih0 := QaN.mono_l k
  ·intro y0 y1 y2
   unfold QaN.l0
   repeat' first
   | (with_reducible exact ih0 _ _ _)
   | (with_reducible exact LeO.refl _)
   | (with_reducible exact LeO.none _)
   | (with_reducible refine LeO.ite ?_ ?_)
   | (with_reducible refine LeO.bind ?_ (fun _ => ?_))
   | exact ih0 _ _ _
   | exact LeO.none _
   | refine LeO.ite ?_ ?_
   | refine LeO.bind ?_ (fun _ => ?_)
theorem QaN.mono : ∀ a0 a1 k, LeO (QaN.f k a0 a1) (QaN.f (k + 1) a0 a1) := by
 intro a0 a1 k
 have ih0 := QaN.mono_l k
 unfold QaN.f
 repeat' first
   | (with_reducible exact ih0 _ _ _)
   | (with_reducible exact LeO.refl _)
   | (with_reducible exact LeO.none _)
   | (with_reducible refine LeO.ite ?_ ?_)
   | (with_reducible refine LeO.bind ?_ (fun _ => ?_))
   | exact ih0 _ _ _
   | exact LeO.none _
   | refine LeO.ite ?_ ?_
   | refine LeO.bind ?_ (fun _ => ?_)
set_option maxHeartbeats 8000000 in
set_option maxRecDepth 100000 in
theorem QaN.calls (k : Nat) (A0 : Option Addr) (c0 : Nat) (l0 : List (S98)) (a1 : ByteArray) (r1 : Int) (r2 : Bool) (w : World) (hr0 : Kd.C k98 w A0 l0.length l0) (hc0 : l0.length ≤ c0) (h : QaN.f k l0 a1 = some (r1, r2)) :
  Calls Try.prog 128 #[.slice A0 l0.length c0, .string a1] w fun e w' => e = .returned (.tuple #[.int .i64 r1, .bool r2]) ∧ Drawn0 w w' := by
 have HR0 := Aside0.mk hr0
 have HC0 := Aside0.mk hc0
 clear hr0 hc0
 have H : (QaN.l0 k l0 a1 0) = some (r1, r2) := h
 clear h
 have H' := Aside0.mk H
 clear H
 go_enter Try.func128, Try.ntmps128
 go_wp2
 go_loopg [6] k (fun kq v6 w' => ∃ (x6_1 : Int), v6 = .int .i64 x6_1 ∧ Aside0 (QaN.l0 kq l0 a1 x6_1 = some (r1, r2)) ∧ Aside0 (kq ≤ k) ∧ Drawn0 w w')
 case atStart => exact ⟨(0), (Zs), H', ⟨Nat.le_refl _⟩, by repeat (first | exact Drawn0.refl _ | apply Drawn0.step)⟩
 case round =>
  clear H'
  try clear c1
  try clear p2
  obtain ⟨x6_1, rfl, HA, HK1, ⟨m1, rfl⟩⟩ := hrel
  cases gk with
  | zero => exact absurd HA.out (by simp [QaN.l0])
  | succ k1 =>
   have H := HA.out
   clear HA
   simp only [QaN.l0] at H
   by_cases c3 : x6_1 < (l0.length : Int)
   ·rw [if_pos c3] at H
    have c3b0 : decide (x6_1 < (l0.length : Int)) = true := decide_eq_true c3
    clear c3
    (try simp only [c3b0])
    by_cases c4 : 0 ≤ x6_1
    ·rw [if_pos c4] at H
     have c4b0 : decide (0 ≤ x6_1) = true := decide_eq_true c4
     clear c4
     have p359 : 0 ≤ (x6_1 : Int) := Ze
     have q359 : x6_1 < (l0.length : Int) := Ze
     obtain ⟨ad359, e359, hx359_0, hx359_1⟩ := at_T98 HR0.out x6_1 p359 q359
     cases e359
     replace p359 := eq_true p359
     replace q359 := eq_true q359
     go_upto_if 19 with (fail)
     by_cases c5 : ((rd_T98 l0 x6_1).f0).toList = a1.toList
     ·rw [if_pos c5] at H
      have c5b0 : (((rd_T98 l0 x6_1).f0).toList == a1.toList) = true := beq_iff_eq.mpr c5
      have c5b1 : (((rd_T98 l0 x6_1).f0).toList != a1.toList) = false := bne_eq_false_iff_eq.mpr c5
      clear c5
      (try simp only [c5b0, c5b1])
      simp only [Option.some.injEq, Prod.mk.injEq] at H
      obtain ⟨rfl, rfl⟩ := H
      go_wp2
      go_ret2
      exact ⟨Zs, by repeat (first | exact Drawn0.refl _ | apply Drawn0.step)⟩
     ·rw [if_neg c5] at H
      have c5b0 : (((rd_T98 l0 x6_1).f0).toList == a1.toList) = false := beq_eq_false_iff_ne.mpr c5
      have c5b1 : (((rd_T98 l0 x6_1).f0).toList != a1.toList) = true := bne_iff_ne.mpr c5
      (try simp only [c5b0, c5b1])
      have H' := Aside0.mk H
      clear H
      go_wp2
      go_roundg k1
      case measure => have := HK1.out; omega
      case rel => exact ⟨(wrap64 (x6_1 + 1)), (Zs), H', ⟨by have := HK1.out; omega⟩, by repeat (first | exact Drawn0.refl _ | apply Drawn0.step)⟩
    ·rw [if_neg c4] at H
     exact absurd H (by simp)
   ·rw [if_neg c3] at H
    have c3b0 : decide (x6_1 < (l0.length : Int)) = false := decide_eq_false c3
    clear c3
    (try simp only [c3b0])
    simp only [Option.some.injEq, Prod.mk.injEq] at H
    obtain ⟨rfl, rfl⟩ := H
    go_wp2
    go_ret2
    exact ⟨Zs, by repeat (first | exact Drawn0.refl _ | apply Drawn0.step)⟩
mutual
def Qas.j0 : Nat → List (S98) → Bool → Option (Int)
 | 0, _, _ => none
 | k + 1, x0, x15 => if x15 = true then (some 8) else (Qas.l0 k x0 0)
def Qas.l0 : Nat → List (S98) → Int → Option (Int)
 | 0, _, _ => none
 | k + 1, x0, x3 => if x3 < (x0.length : Int) then (if 0 ≤ x3 then ((Qav.f k ((rd_T98 x0 x3).f0)).bind fun t361 => (if t361 = true then (Qas.l0 k x0 (wrap64 (x3 + 1))) else (some 10))) else (none)) else (Qas.l1 k x0 0)
def Qas.l1 : Nat → List (S98) → Int → Option (Int)
 | 0, _, _ => none
 | k + 1, x0, x4 => if x4 < (x0.length : Int) then (if 0 ≤ x4 then ((QaN.f k x0 ((rd_T98 x0 x4).f0)).bind fun bt363 => (if bt363.1 = x4 then (Qas.l1 k x0 (wrap64 (x4 + 1))) else (some 12))) else (none)) else (Qas.l2 k x0 0)
def Qas.l2 : Nat → List (S98) → Int → Option (Int)
 | 0, _, _ => none
 | k + 1, x0, x7 => if x7 < (x0.length : Int) then (if 0 ≤ x7 then (if ((rd_T98 x0 x7).f1) < 1 then (some 25) else (if ((rd_T98 x0 x7).f1) > 1000000000000 then (some 25) else (if x7 = 0 then (if ((rd_T98 x0 x7).f1) = 1000000 then (Qas.l2 k x0 (wrap64 (x7 + 1))) else (some 25)) else (Qas.l2 k x0 (wrap64 (x7 + 1)))))) else (none)) else (some 0)
end
def Qas.f (k : Nat) (l0 : List (S98)) : Option (Int) := if (l0.length : Int) = 0 then (Qas.j0 k l0 true) else (Qas.j0 k l0 (decide ((l0.length : Int) > 8)))
theorem Qas.mono_l : ∀ k, (∀ y0 y1, LeO (Qas.j0 k y0 y1) (Qas.j0 (k + 1) y0 y1)) ∧ (∀ y0 y1, LeO (Qas.l0 k y0 y1) (Qas.l0 (k + 1) y0 y1)) ∧ (∀ y0 y1, LeO (Qas.l1 k y0 y1) (Qas.l1 (k + 1) y0 y1)) ∧ (∀ y0 y1, LeO (Qas.l2 k y0 y1) (Qas.l2 (k + 1) y0 y1))
 | 0 => ⟨fun _ _ r h => by simp [Qas.j0] at h, fun _ _ r h => by simp [Qas.l0] at h, fun _ _ r h => by simp [Qas.l1] at h, fun _ _ r h => by simp [Qas.l2] at h⟩
 | k + 1 => by
  obtain ⟨ih0, ih1, ih2, ih3⟩ := Qas.mono_l k
  refine ⟨?_, ?_, ?_, ?_⟩
  ·intro y0 y1
   unfold Qas.j0
   repeat' first
   | (with_reducible exact ih0 _ _)
   | (with_reducible exact ih1 _ _)
   | (with_reducible exact ih2 _ _)
   | (with_reducible exact ih3 _ _)
   | (with_reducible exact Qav.mono _ _)
   | (with_reducible exact QaN.mono _ _ _)
   | (with_reducible exact LeO.refl _)
   | (with_reducible exact LeO.none _)
   | (with_reducible refine LeO.ite ?_ ?_)
   | (with_reducible refine LeO.bind ?_ (fun _ => ?_))
   | exact ih0 _ _
   | exact ih1 _ _
   | exact ih2 _ _
   | exact ih3 _ _
   | exact Qav.mono _ _
   | exact QaN.mono _ _ _
   | exact LeO.none _
   | refine LeO.ite ?_ ?_
   | refine LeO.bind ?_ (fun _ => ?_)
  ·intro y0 y1
   unfold Qas.l0
   repeat' first
   | (with_reducible exact ih0 _ _)
   | (with_reducible exact ih1 _ _)
   | (with_reducible exact ih2 _ _)
   | (with_reducible exact ih3 _ _)
   | (with_reducible exact Qav.mono _ _)
   | (with_reducible exact QaN.mono _ _ _)
   | (with_reducible exact LeO.refl _)
   | (with_reducible exact LeO.none _)
   | (with_reducible refine LeO.ite ?_ ?_)
   | (with_reducible refine LeO.bind ?_ (fun _ => ?_))
   | exact ih0 _ _
   | exact ih1 _ _
   | exact ih2 _ _
   | exact ih3 _ _
   | exact Qav.mono _ _
   | exact QaN.mono _ _ _
   | exact LeO.none _
   | refine LeO.ite ?_ ?_
   | refine LeO.bind ?_ (fun _ => ?_)
  ·intro y0 y1
   unfold Qas.l1
   repeat' first
   | (with_reducible exact ih0 _ _)
   | (with_reducible exact ih1 _ _)
   | (with_reducible exact ih2 _ _)
   | (with_reducible exact ih3 _ _)
   | (with_reducible exact Qav.mono _ _)
   | (with_reducible exact QaN.mono _ _ _)
   | (with_reducible exact LeO.refl _)
   | (with_reducible exact LeO.none _)
   | (with_reducible refine LeO.ite ?_ ?_)
   | (with_reducible refine LeO.bind ?_ (fun _ => ?_))
   | exact ih0 _ _
   | exact ih1 _ _
   | exact ih2 _ _
   | exact ih3 _ _
   | exact Qav.mono _ _
   | exact QaN.mono _ _ _
   | exact LeO.none _
   | refine LeO.ite ?_ ?_
   | refine LeO.bind ?_ (fun _ => ?_)
  ·intro y0 y1
   unfold Qas.l2
   repeat' first
   | (with_reducible exact ih0 _ _)
   | (with_reducible exact ih1 _ _)
   | (with_reducible exact ih2 _ _)
   | (with_reducible exact ih3 _ _)
   | (with_reducible exact Qav.mono _ _)
   | (with_reducible exact QaN.mono _ _ _)
   | (with_reducible exact LeO.refl _)
   | (with_reducible exact LeO.none _)
   | (with_reducible refine LeO.ite ?_ ?_)
   | (with_reducible refine LeO.bind ?_ (fun _ => ?_))
   | exact ih0 _ _
   | exact ih1 _ _
   | exact ih2 _ _
   | exact ih3 _ _
   | exact Qav.mono _ _
   | exact QaN.mono _ _ _
   | exact LeO.none _
   | refine LeO.ite ?_ ?_
   | refine LeO.bind ?_ (fun _ => ?_)
theorem Qas.mono : ∀ a0 k, LeO (Qas.f k a0) (Qas.f (k + 1) a0) := by
 intro a0 k
 obtain ⟨ih0, ih1, ih2, ih3⟩ := Qas.mono_l k
 unfold Qas.f
 repeat' first
   | (with_reducible exact ih0 _ _)
   | (with_reducible exact ih1 _ _)
   | (with_reducible exact ih2 _ _)
   | (with_reducible exact ih3 _ _)
   | (with_reducible exact Qav.mono _ _)
   | (with_reducible exact QaN.mono _ _ _)
   | (with_reducible exact LeO.refl _)
   | (with_reducible exact LeO.none _)
   | (with_reducible refine LeO.ite ?_ ?_)
   | (with_reducible refine LeO.bind ?_ (fun _ => ?_))
   | exact ih0 _ _
   | exact ih1 _ _
   | exact ih2 _ _
   | exact ih3 _ _
   | exact Qav.mono _ _
   | exact QaN.mono _ _ _
   | exact LeO.none _
   | refine LeO.ite ?_ ?_
   | refine LeO.bind ?_ (fun _ => ?_)
set_option maxHeartbeats 8000000 in
set_option maxRecDepth 100000 in
theorem Qas.calls (k : Nat) (A0 : Option Addr) (c0 : Nat) (l0 : List (S98)) (r : Int) (w : World) (hr0 : Kd.C k98 w A0 l0.length l0) (hc0 : l0.length ≤ c0) (h : Qas.f k l0 = some r) :
  Calls Try.prog 119 #[.slice A0 l0.length c0] w fun e w' => e = .returned (.int .i64 r) ∧ Drawn0 w w' := by
 have HR0 := Aside0.mk hr0
 have HC0 := Aside0.mk hc0
 clear hr0 hc0
 have H : (if (l0.length : Int) = 0 then (Qas.j0 k l0 true) else (Qas.j0 k l0 (decide ((l0.length : Int) > 8)))) = some r := h
 clear h
 have HC2 := Aside0.mk H
 clear H
 go_enter Try.func119, Try.ntmps119
 go_upto_region 1 with (fail)
 go_cut [15] (fun v15 wc => ∃ (kq : Nat) (x15_1 : Bool), v15 = .bool x15_1 ∧ Aside0 (Qas.j0 kq l0 x15_1 = some r) ∧ Aside0 (kq ≤ k) ∧ Drawn0 w wc)
 case first =>
  have H := HC2.out
  clear HC2
  by_cases c3 : (l0.length : Int) = 0
  ·rw [if_pos c3] at H
   have c3b0 : ((l0.length : Int) == 0) = true := beq_iff_eq.mpr c3
   have c3b1 : ((l0.length : Int) != 0) = false := bne_eq_false_iff_eq.mpr c3
   clear c3
   have H' := Aside0.mk H
   clear H
   go_wp2
   go_meet
   case rel => exact ⟨_, (true), (Zs), H', ⟨by first | omega | exact Nat.le_refl _⟩, by repeat (first | exact Drawn0.refl _ | apply Drawn0.step)⟩
  ·rw [if_neg c3] at H
   have c3b0 : ((l0.length : Int) == 0) = false := beq_eq_false_iff_ne.mpr c3
   have c3b1 : ((l0.length : Int) != 0) = true := bne_iff_ne.mpr c3
   have c3b2 : ¬ (l0 = []) := fun h_ => c3 (by rw [h_]; rfl)
   have H' := Aside0.mk H
   clear H
   go_wp2
   go_meet
   case rel => exact ⟨_, (decide ((l0.length : Int) > 8)), (Zs), H', ⟨by first | omega | exact Nat.le_refl _⟩, by repeat (first | exact Drawn0.refl _ | apply Drawn0.step)⟩
 case rest =>
  clear HC2
  try clear c1
  try clear p2
  try clear c3
  try clear c3b0
  try clear c3b1
  try clear c3b2
  obtain ⟨kq, x15_1, rfl, HA, HJ1, ⟨mc1, rfl⟩⟩ := hcut
  cases kq with
  | zero => exact absurd HA.out (by simp [Qas.j0])
  | succ kj1 =>
   have H := HA.out
   clear HA
   simp only [Qas.j0] at H
   by_cases c4 : x15_1 = true
   ·subst c4
    have H1 : (some 8) = some r := by rw [if_pos rfl] at H; exact H
    clear H
    have H := H1
    clear H1
    obtain rfl := Option.some.inj H
    go_wp2
    go_ret
    exact ⟨Zs, by repeat (first | exact Drawn0.refl _ | apply Drawn0.step)⟩
   ·replace c4 := Bool.eq_false_iff.mpr c4
    subst c4
    have H1 : (Qas.l0 kj1 l0 0) = some r := by rw [if_neg (show ¬ (false = true) by decide)] at H; exact H
    clear H
    have H := H1
    clear H1
    have H' := Aside0.mk H
    clear H
    go_wp2
    go_loopg [3] kj1 (fun kq v3 w' => ∃ (x3_2 : Int), v3 = .int .i64 x3_2 ∧ Aside0 (Qas.l0 kq l0 x3_2 = some r) ∧ Aside0 (kq ≤ kj1) ∧ Drawn0 w w')
    case atStart => exact ⟨(0), (Zs), H', ⟨Nat.le_refl _⟩, by repeat (first | exact Drawn0.refl _ | apply Drawn0.step)⟩
    case round =>
     clear H'
     try clear c1
     try clear p2
     try clear c3
     try clear c3b0
     try clear c3b1
     try clear c3b2
     try clear c4
     try clear p2
     obtain ⟨x3_2, rfl, HA, HK2, ⟨m2, rfl⟩⟩ := hrel
     cases gk with
     | zero => exact absurd HA.out (by simp [Qas.l0])
     | succ k2 =>
      have H := HA.out
      clear HA
      simp only [Qas.l0] at H
      by_cases c5 : x3_2 < (l0.length : Int)
      ·rw [if_pos c5] at H
       have c5b0 : decide (x3_2 < (l0.length : Int)) = true := decide_eq_true c5
       clear c5
       (try simp only [c5b0])
       by_cases c6 : 0 ≤ x3_2
       ·rw [if_pos c6] at H
        have c6b0 : decide (0 ≤ x3_2) = true := decide_eq_true c6
        clear c6
        replace H := Option.bind_eq_some_iff.mp H
        obtain ⟨t361, A70, H⟩ := H
        replace H : (if t361 = true then (Qas.l0 k2 l0 (wrap64 (x3_2 + 1))) else (some 10)) = some r := H
        have A7 := Aside0.mk A70
        clear A70
        have p360 : 0 ≤ (x3_2 : Int) := Ze
        have q360 : x3_2 < (l0.length : Int) := Ze
        obtain ⟨ad360, e360, hx360_0, hx360_1⟩ := at_T98 HR0.out x3_2 p360 q360
        cases e360
        replace p360 := eq_true p360
        replace q360 := eq_true q360
        go_upto_if 28 with (first | ((with_reducible refine Qaw (f := 99) rfl ?_); refine goesL_ (some 27) rfl rfl Try.func99 (by kernel_rfl) rfl #[.string ((rd_T98 l0 x3_2).f0)] rfl (Zl) ?_; (with_reducible refine (Qav.calls k2 ((rd_T98 l0 x3_2).f0) t361 _ A7.out).mono ?_); rintro e w' ⟨rfl, ⟨nd, rfl⟩⟩; refine ⟨_, rfl, ?_⟩))
        (try simp only [Act.put, List.setIfInBounds_toArray, List.set_cons_zero, List.set_cons_succ])
        by_cases c8 : t361 = true
        ·subst c8
         have H1 : (Qas.l0 k2 l0 (wrap64 (x3_2 + 1))) = some r := by rw [if_pos rfl] at H; exact H
         clear H
         have H := H1
         clear H1
         have H' := Aside0.mk H
         clear H
         go_wp2
         go_roundg k2
         case measure => have := HJ1.out; have := HK2.out; omega
         case rel => exact ⟨(wrap64 (x3_2 + 1)), (Zs), H', ⟨by have := HJ1.out; have := HK2.out; omega⟩, by repeat (first | exact Drawn0.refl _ | apply Drawn0.step)⟩
        ·replace c8 := Bool.eq_false_iff.mpr c8
         subst c8
         have H1 : (some 10) = some r := by rw [if_neg (show ¬ (false = true) by decide)] at H; exact H
         clear H
         have H := H1
         clear H1
         obtain rfl := Option.some.inj H
         go_wp2
         go_ret
         exact ⟨Zs, by repeat (first | exact Drawn0.refl _ | apply Drawn0.step)⟩
       ·rw [if_neg c6] at H
        exact absurd H (by simp)
      ·rw [if_neg c5] at H
       have c5b0 : decide (x3_2 < (l0.length : Int)) = false := decide_eq_false c5
       clear c5
       (try simp only [c5b0])
       have H' := Aside0.mk H
       clear H
       go_wp2
       go_loopg [4] k2 (fun kq v4 w' => ∃ (x4_3 : Int), v4 = .int .i64 x4_3 ∧ Aside0 (Qas.l1 kq l0 x4_3 = some r) ∧ Aside0 (kq ≤ k2) ∧ Drawn0 w w')
       case atStart => exact ⟨(0), (Zs), H', ⟨Nat.le_refl _⟩, by repeat (first | exact Drawn0.refl _ | apply Drawn0.step)⟩
       case round =>
        clear H'
        try clear c1
        try clear p2
        try clear c3
        try clear c3b0
        try clear c3b1
        try clear c3b2
        try clear p3
        try clear q3
        try clear hx3
        try clear c4
        try clear c5
        try clear c5b0
        try clear c6
        try clear c6b0
        try clear p6
        try clear c8
        try clear hx360_0
        try clear hx360_1
        try clear p2
        try clear p360
        try clear q360
        obtain ⟨x4_3, rfl, HA, HK3, ⟨m3, rfl⟩⟩ := hrel
        cases gk with
        | zero => exact absurd HA.out (by simp [Qas.l1])
        | succ k3 =>
         have H := HA.out
         clear HA
         simp only [Qas.l1] at H
         by_cases c9 : x4_3 < (l0.length : Int)
         ·rw [if_pos c9] at H
          have c9b0 : decide (x4_3 < (l0.length : Int)) = true := decide_eq_true c9
          clear c9
          (try simp only [c9b0])
          by_cases c10 : 0 ≤ x4_3
          ·rw [if_pos c10] at H
           have c10b0 : decide (0 ≤ x4_3) = true := decide_eq_true c10
           clear c10
           replace H := Option.bind_eq_some_iff.mp H
           obtain ⟨⟨t363, t364⟩, A110, H⟩ := H
           replace H : (if t363 = x4_3 then (Qas.l1 k3 l0 (wrap64 (x4_3 + 1))) else (some 12)) = some r := H
           have A11 := Aside0.mk A110
           clear A110
           have p362 : 0 ≤ (x4_3 : Int) := Ze
           have q362 : x4_3 < (l0.length : Int) := Ze
           obtain ⟨ad362, e362, hx362_0, hx362_1⟩ := at_T98 HR0.out x4_3 p362 q362
           cases e362
           replace p362 := eq_true p362
           replace q362 := eq_true q362
           go_upto_if 47 with (first | ((with_reducible refine Qaw (f := 128) rfl ?_); refine goesL_ (some 42) rfl rfl Try.func128 (by kernel_rfl) rfl #[.slice (some ad362) l0.length c0, .string ((rd_T98 l0 x4_3).f0)] rfl (Zl) ?_; (with_reducible refine (QaN.calls k3 _ _ l0 ((rd_T98 l0 x4_3).f0) t363 t364 _ ?side1 ?side2 A11.out).mono ?_); (case side1 => exact Zv HR0.out); (case side2 => exact HC0.out); rintro e w' ⟨rfl, ⟨nd, rfl⟩⟩; refine ⟨_, rfl, ?_⟩))
           (try simp only [Act.put, List.setIfInBounds_toArray, List.set_cons_zero, List.set_cons_succ])
           by_cases c12 : t363 = x4_3
           ·rw [if_pos c12] at H
            have c12b0 : (t363 == x4_3) = true := beq_iff_eq.mpr c12
            have c12b1 : (t363 != x4_3) = false := bne_eq_false_iff_eq.mpr c12
            clear c12
            (try simp only [c12b0, c12b1])
            have H' := Aside0.mk H
            clear H
            go_wp2
            go_roundg k3
            case measure => have := HJ1.out; have := HK2.out; have := HK3.out; omega
            case rel => exact ⟨(wrap64 (x4_3 + 1)), (Zs), H', ⟨by have := HJ1.out; have := HK2.out; have := HK3.out; omega⟩, by repeat (first | exact Drawn0.refl _ | apply Drawn0.step)⟩
           ·rw [if_neg c12] at H
            have c12b0 : (t363 == x4_3) = false := beq_eq_false_iff_ne.mpr c12
            have c12b1 : (t363 != x4_3) = true := bne_iff_ne.mpr c12
            (try simp only [c12b0, c12b1])
            obtain rfl := Option.some.inj H
            go_wp2
            go_ret
            exact ⟨Zs, by repeat (first | exact Drawn0.refl _ | apply Drawn0.step)⟩
          ·rw [if_neg c10] at H
           exact absurd H (by simp)
         ·rw [if_neg c9] at H
          have c9b0 : decide (x4_3 < (l0.length : Int)) = false := decide_eq_false c9
          clear c9
          (try simp only [c9b0])
          have H' := Aside0.mk H
          clear H
          go_wp2
          go_loopg [7] k3 (fun kq v7 w' => ∃ (x7_4 : Int), v7 = .int .i64 x7_4 ∧ Aside0 (Qas.l2 kq l0 x7_4 = some r) ∧ Aside0 (kq ≤ k3) ∧ Drawn0 w w')
          case atStart => exact ⟨(0), (Zs), H', ⟨Nat.le_refl _⟩, by repeat (first | exact Drawn0.refl _ | apply Drawn0.step)⟩
          case round =>
           clear H'
           try clear c1
           try clear p2
           try clear c3
           try clear c3b0
           try clear c3b1
           try clear c3b2
           try clear p3
           try clear q3
           try clear hx3
           try clear c4
           try clear c5
           try clear c5b0
           try clear c6
           try clear c6b0
           try clear p6
           try clear c8
           try clear c9
           try clear c9b0
           try clear c10
           try clear c10b0
           try clear c11
           try clear c12
           try clear c12b0
           try clear c12b1
           try clear hx360_0
           try clear hx360_1
           try clear hx362_0
           try clear hx362_1
           try clear p2
           try clear p3
           try clear p360
           try clear p362
           try clear p6
           try clear q3
           try clear q360
           try clear q362
           obtain ⟨x7_4, rfl, HA, HK4, ⟨m4, rfl⟩⟩ := hrel
           cases gk with
           | zero => exact absurd HA.out (by simp [Qas.l2])
           | succ k4 =>
            have H := HA.out
            clear HA
            simp only [Qas.l2] at H
            by_cases c13 : x7_4 < (l0.length : Int)
            ·rw [if_pos c13] at H
             have c13b0 : decide (x7_4 < (l0.length : Int)) = true := decide_eq_true c13
             clear c13
             (try simp only [c13b0])
             by_cases c14 : 0 ≤ x7_4
             ·rw [if_pos c14] at H
              have c14b0 : decide (0 ≤ x7_4) = true := decide_eq_true c14
              clear c14
              by_cases c15 : ((rd_T98 l0 x7_4).f1) < 1
              ·rw [if_pos c15] at H
               have c15b0 : decide (((rd_T98 l0 x7_4).f1) < 1) = true := decide_eq_true c15
               clear c15
               obtain rfl := Option.some.inj H
               have p365 : 0 ≤ (x7_4 : Int) := Ze
               have q365 : x7_4 < (l0.length : Int) := Ze
               obtain ⟨ad365, e365, hx365_0, hx365_1⟩ := at_T98 HR0.out x7_4 p365 q365
               cases e365
               replace p365 := eq_true p365
               replace q365 := eq_true q365
               go_wp2
               go_ret
               exact ⟨Zs, by repeat (first | exact Drawn0.refl _ | apply Drawn0.step)⟩
              ·rw [if_neg c15] at H
               have c15b0 : decide (((rd_T98 l0 x7_4).f1) < 1) = false := decide_eq_false c15
               clear c15
               by_cases c16 : ((rd_T98 l0 x7_4).f1) > 1000000000000
               ·rw [if_pos c16] at H
                have c16b0 : decide (1000000000000 < ((rd_T98 l0 x7_4).f1)) = true := decide_eq_true c16
                clear c16
                obtain rfl := Option.some.inj H
                have p365 : 0 ≤ (x7_4 : Int) := Ze
                have q365 : x7_4 < (l0.length : Int) := Ze
                obtain ⟨ad365, e365, hx365_0, hx365_1⟩ := at_T98 HR0.out x7_4 p365 q365
                cases e365
                replace p365 := eq_true p365
                replace q365 := eq_true q365
                have p366 : 0 ≤ (x7_4 : Int) := Ze
                have q366 : x7_4 < (l0.length : Int) := Ze
                obtain ⟨ad366, e366, hx366_0, hx366_1⟩ := at_T98 HR0.out x7_4 p366 q366
                obtain rfl : ad365 = ad366 := (by injection e366)
                replace p366 := eq_true p366
                replace q366 := eq_true q366
                go_wp2
                go_ret
                exact ⟨Zs, by repeat (first | exact Drawn0.refl _ | apply Drawn0.step)⟩
               ·rw [if_neg c16] at H
                have c16b0 : decide (1000000000000 < ((rd_T98 l0 x7_4).f1)) = false := decide_eq_false c16
                clear c16
                by_cases c17 : x7_4 = 0
                ·rw [if_pos c17] at H
                 have c17b0 : (x7_4 == 0) = true := beq_iff_eq.mpr c17
                 have c17b1 : (x7_4 != 0) = false := bne_eq_false_iff_eq.mpr c17
                 clear c17
                 have p365 : 0 ≤ (x7_4 : Int) := Ze
                 have q365 : x7_4 < (l0.length : Int) := Ze
                 obtain ⟨ad365, e365, hx365_0, hx365_1⟩ := at_T98 HR0.out x7_4 p365 q365
                 cases e365
                 replace p365 := eq_true p365
                 replace q365 := eq_true q365
                 have p366 : 0 ≤ (x7_4 : Int) := Ze
                 have q366 : x7_4 < (l0.length : Int) := Ze
                 obtain ⟨ad366, e366, hx366_0, hx366_1⟩ := at_T98 HR0.out x7_4 p366 q366
                 obtain rfl : ad365 = ad366 := (by injection e366)
                 replace p366 := eq_true p366
                 replace q366 := eq_true q366
                 have p367 : 0 ≤ (x7_4 : Int) := Ze
                 have q367 : x7_4 < (l0.length : Int) := Ze
                 obtain ⟨ad367, e367, hx367_0, hx367_1⟩ := at_T98 HR0.out x7_4 p367 q367
                 obtain rfl : ad365 = ad367 := (by injection e367)
                 replace p367 := eq_true p367
                 replace q367 := eq_true q367
                 go_upto_if 79 with (fail)
                 by_cases c18 : ((rd_T98 l0 x7_4).f1) = 1000000
                 ·rw [if_pos c18] at H
                  have c18b0 : (((rd_T98 l0 x7_4).f1) == 1000000) = true := beq_iff_eq.mpr c18
                  have c18b1 : (((rd_T98 l0 x7_4).f1) != 1000000) = false := bne_eq_false_iff_eq.mpr c18
                  clear c18
                  (try simp only [c18b0, c18b1])
                  have H' := Aside0.mk H
                  clear H
                  go_wp2
                  go_roundg k4
                  case measure => have := HJ1.out; have := HK2.out; have := HK3.out; have := HK4.out; omega
                  case rel => exact ⟨(wrap64 (x7_4 + 1)), (Zs), H', ⟨by have := HJ1.out; have := HK2.out; have := HK3.out; have := HK4.out; omega⟩, by repeat (first | exact Drawn0.refl _ | apply Drawn0.step)⟩
                 ·rw [if_neg c18] at H
                  have c18b0 : (((rd_T98 l0 x7_4).f1) == 1000000) = false := beq_eq_false_iff_ne.mpr c18
                  have c18b1 : (((rd_T98 l0 x7_4).f1) != 1000000) = true := bne_iff_ne.mpr c18
                  (try simp only [c18b0, c18b1])
                  obtain rfl := Option.some.inj H
                  go_wp2
                  go_ret
                  exact ⟨Zs, by repeat (first | exact Drawn0.refl _ | apply Drawn0.step)⟩
                ·rw [if_neg c17] at H
                 have c17b0 : (x7_4 == 0) = false := beq_eq_false_iff_ne.mpr c17
                 have c17b1 : (x7_4 != 0) = true := bne_iff_ne.mpr c17
                 have H' := Aside0.mk H
                 clear H
                 have p365 : 0 ≤ (x7_4 : Int) := Ze
                 have q365 : x7_4 < (l0.length : Int) := Ze
                 obtain ⟨ad365, e365, hx365_0, hx365_1⟩ := at_T98 HR0.out x7_4 p365 q365
                 cases e365
                 replace p365 := eq_true p365
                 replace q365 := eq_true q365
                 have p366 : 0 ≤ (x7_4 : Int) := Ze
                 have q366 : x7_4 < (l0.length : Int) := Ze
                 obtain ⟨ad366, e366, hx366_0, hx366_1⟩ := at_T98 HR0.out x7_4 p366 q366
                 obtain rfl : ad365 = ad366 := (by injection e366)
                 replace p366 := eq_true p366
                 replace q366 := eq_true q366
                 go_wp2
                 go_roundg k4
                 case measure => have := HJ1.out; have := HK2.out; have := HK3.out; have := HK4.out; omega
                 case rel => exact ⟨(wrap64 (x7_4 + 1)), (Zs), H', ⟨by have := HJ1.out; have := HK2.out; have := HK3.out; have := HK4.out; omega⟩, by repeat (first | exact Drawn0.refl _ | apply Drawn0.step)⟩
             ·rw [if_neg c14] at H
              exact absurd H (by simp)
            ·rw [if_neg c13] at H
             have c13b0 : decide (x7_4 < (l0.length : Int)) = false := decide_eq_false c13
             clear c13
             (try simp only [c13b0])
             obtain rfl := Option.some.inj H
             go_wp2
             go_ret
             exact ⟨Zs, by repeat (first | exact Drawn0.refl _ | apply Drawn0.step)⟩
def Qa4.f (k : Nat) (l0 : List (S98)) (a1 : Int) (a2 : Int) (a3 : Int) (a4 : Int) : Option (Int × Int) := (Qas.f k l0).bind fun t368 => (if t368 = 0 then (if a2 < 0 then (some (0, 25)) else (if a3 < 0 then (some (0, 25)) else (if a2 ≥ (l0.length : Int) then (some (0, 25)) else (if a3 ≥ (l0.length : Int) then (some (0, 25)) else (if 0 ≤ a2 then (if a2 < (l0.length : Int) then (if 0 ≤ a3 then (if a3 < (l0.length : Int) then ((Qa5.f a1 ((rd_T98 l0 a2).f1) ((rd_T98 l0 a3).f1) a4).bind fun bt371 => (some (bt371.1, bt371.2))) else (none)) else (none)) else (none)) else (none)))))) else (some (0, t368)))
theorem Qa4.mono : ∀ a0 a1 a2 a3 a4 k, LeO (Qa4.f k a0 a1 a2 a3 a4) (Qa4.f (k + 1) a0 a1 a2 a3 a4) := by
 intro a0 a1 a2 a3 a4 k
 unfold Qa4.f
 repeat' first
   | (with_reducible exact Qas.mono _ _)
   | (with_reducible exact LeO.refl _)
   | (with_reducible exact LeO.none _)
   | (with_reducible refine LeO.ite ?_ ?_)
   | (with_reducible refine LeO.bind ?_ (fun _ => ?_))
   | exact Qas.mono _ _
   | exact LeO.none _
   | refine LeO.ite ?_ ?_
   | refine LeO.bind ?_ (fun _ => ?_)
def Qa4.T6 : Bool × List (List Nat × List Nat) := (true, [([], []), ([], []), ([], []), ([1, 2], [1, 2]), ([3], [3]), ([4], [4]), ([], []), ([], []), ([6, 7], [6, 7]), ([8], [8]), ([9], [9]), ([], []), ([0, 5, 10, 11], [0, 5, 10, 11]), ([12], [12]), ([12], [12]), ([13, 12, 0, 1, 2, 3, 4, 5, 6, 7, 8, 9, 10, 11, 12, 13, 14], [13]), ([14, 15, 0, 1, 2, 3, 4, 5, 6, 7, 8, 9, 10, 11, 12, 13, 14, 15], [14])])
def Qa4.B6 : List Nat := [0, 0, 0, 6, 14, 30, 0, 0, 192, 448, 960, 0, 4095, 8191, 8191, 32767, 65535]
theorem Qa4.tab6 : rtab .any (opsOf Try.f106 6) = Qa4.T6 := by kernel_rfl
theorem Qa4.bits6 : Qb6 Qa4.T6.2 Qa4.B6 = true := by kernel_rfl
set_option maxHeartbeats 8000000 in
set_option maxRecDepth 100000 in
theorem Qa4.calls (k : Nat) (A0 : Option Addr) (c0 : Nat) (l0 : List (S98)) (a1 : Int) (a2 : Int) (a3 : Int) (a4 : Int) (r1 : Int) (r2 : Int) (w : World) (hr0 : Kd.C k98 w A0 l0.length l0) (hc0 : l0.length ≤ c0) (h : Qa4.f k l0 a1 a2 a3 a4 = some (r1, r2)) :
  Calls Try.prog 106 #[.slice A0 l0.length c0, .int .i64 a1, .int .i64 a2, .int .i64 a3, .int .i64 a4] w fun e w' => e = .returned (.tuple #[.int .i64 r1, .int .i64 r2]) ∧ Below w.heap.size w w' := by
 have HR0 := Aside0.mk hr0
 have HC0 := Aside0.mk hc0
 clear hr0 hc0
 have HB := Aside0.mk (Below.refl w.heap.size w)
 have H : ((Qas.f k l0).bind fun t368 => (if t368 = 0 then (if a2 < 0 then (some (0, 25)) else (if a3 < 0 then (some (0, 25)) else (if a2 ≥ (l0.length : Int) then (some (0, 25)) else (if a3 ≥ (l0.length : Int) then (some (0, 25)) else (if 0 ≤ a2 then (if a2 < (l0.length : Int) then (if 0 ≤ a3 then (if a3 < (l0.length : Int) then ((Qa5.f a1 ((rd_T98 l0 a2).f1) ((rd_T98 l0 a3).f1) a4).bind fun bt371 => (some (bt371.1, bt371.2))) else (none)) else (none)) else (none)) else (none)))))) else (some (0, t368)))) = some (r1, r2) := h
 clear h
 replace H := Option.bind_eq_some_iff.mp H
 obtain ⟨t368, A60, H⟩ := H
 replace H : (if t368 = 0 then (if a2 < 0 then (some (0, 25)) else (if a3 < 0 then (some (0, 25)) else (if a2 ≥ (l0.length : Int) then (some (0, 25)) else (if a3 ≥ (l0.length : Int) then (some (0, 25)) else (if 0 ≤ a2 then (if a2 < (l0.length : Int) then (if 0 ≤ a3 then (if a3 < (l0.length : Int) then ((Qa5.f a1 ((rd_T98 l0 a2).f1) ((rd_T98 l0 a3).f1) a4).bind fun bt371 => (some (bt371.1, bt371.2))) else (none)) else (none)) else (none)) else (none)))))) else (some (0, t368))) = some (r1, r2) := H
 have A6 := Aside0.mk A60
 clear A60
 go_enter Try.func106, Try.ntmps106
 go_upto_if 16 with (first | ((with_reducible refine Qaw (f := 119) rfl ?_); refine goesL_ (some 14) rfl rfl Try.func119 (by kernel_rfl) rfl #[.slice A0 l0.length c0] rfl (Zl) ?_; (with_reducible refine (Qas.calls k _ _ l0 t368 _ ?side1 ?side2 A6.out).mono ?_); (case side1 => exact Zv HR0.out); (case side2 => exact HC0.out); rintro e w' ⟨rfl, ⟨nd, rfl⟩⟩; refine ⟨_, rfl, ?_⟩))
 (try simp only [Act.put, List.setIfInBounds_toArray, List.set_cons_zero, List.set_cons_succ])
 by_cases c7 : t368 = 0
 ·rw [if_pos c7] at H
  have c7b0 : (t368 == 0) = true := beq_iff_eq.mpr c7
  have c7b1 : (t368 != 0) = false := bne_eq_false_iff_eq.mpr c7
  clear c7
  (try simp only [c7b0, c7b1])
  by_cases c8 : a2 < 0
  ·rw [if_pos c8] at H
   have c8b0 : decide (a2 < 0) = true := decide_eq_true c8
   clear c8
   simp only [Option.some.injEq, Prod.mk.injEq] at H
   obtain ⟨rfl, rfl⟩ := H
   go_wp2
   go_ret2
   exact ⟨Zq, by repeat (first | (with_reducible first | exact HB.out | apply Qad | apply Qaa | apply Qae | exact Below.refl _ _) | exact HB.out)⟩
  ·rw [if_neg c8] at H
   have c8b0 : decide (a2 < 0) = false := decide_eq_false c8
   clear c8
   by_cases c9 : a3 < 0
   ·rw [if_pos c9] at H
    have c9b0 : decide (a3 < 0) = true := decide_eq_true c9
    clear c9
    simp only [Option.some.injEq, Prod.mk.injEq] at H
    obtain ⟨rfl, rfl⟩ := H
    go_wp2
    go_ret2
    exact ⟨Zq, by repeat (first | (with_reducible first | exact HB.out | apply Qad | apply Qaa | apply Qae | exact Below.refl _ _) | exact HB.out)⟩
   ·rw [if_neg c9] at H
    have c9b0 : decide (a3 < 0) = false := decide_eq_false c9
    clear c9
    by_cases c10 : a2 ≥ (l0.length : Int)
    ·rw [if_pos c10] at H
     have c10b0 : decide ((l0.length : Int) ≤ a2) = true := decide_eq_true c10
     clear c10
     simp only [Option.some.injEq, Prod.mk.injEq] at H
     obtain ⟨rfl, rfl⟩ := H
     go_wp2
     go_ret2
     exact ⟨Zq, by repeat (first | (with_reducible first | exact HB.out | apply Qad | apply Qaa | apply Qae | exact Below.refl _ _) | exact HB.out)⟩
    ·rw [if_neg c10] at H
     have c10b0 : decide ((l0.length : Int) ≤ a2) = false := decide_eq_false c10
     clear c10
     by_cases c11 : a3 ≥ (l0.length : Int)
     ·rw [if_pos c11] at H
      have c11b0 : decide ((l0.length : Int) ≤ a3) = true := decide_eq_true c11
      clear c11
      (try simp only [c11b0])
      simp only [Option.some.injEq, Prod.mk.injEq] at H
      obtain ⟨rfl, rfl⟩ := H
      go_wp2
      go_ret2
      exact ⟨Zq, by repeat (first | (with_reducible first | exact HB.out | apply Qad | apply Qaa | apply Qae | exact Below.refl _ _) | exact HB.out)⟩
     ·rw [if_neg c11] at H
      have c11b0 : decide ((l0.length : Int) ≤ a3) = false := decide_eq_false c11
      clear c11
      (try simp only [c11b0])
      by_cases c12 : 0 ≤ a2
      ·rw [if_pos c12] at H
       have c12b0 : decide (0 ≤ a2) = true := decide_eq_true c12
       clear c12
       by_cases c13 : a2 < (l0.length : Int)
       ·rw [if_pos c13] at H
        have c13b0 : decide (a2 < (l0.length : Int)) = true := decide_eq_true c13
        clear c13
        by_cases c14 : 0 ≤ a3
        ·rw [if_pos c14] at H
         have c14b0 : decide (0 ≤ a3) = true := decide_eq_true c14
         clear c14
         by_cases c15 : a3 < (l0.length : Int)
         ·rw [if_pos c15] at H
          have c15b0 : decide (a3 < (l0.length : Int)) = true := decide_eq_true c15
          clear c15
          replace H := Option.bind_eq_some_iff.mp H
          obtain ⟨⟨t371, t372⟩, A160, H⟩ := H
          replace H : (some (t371, t372)) = some (r1, r2) := H
          have A16 := Aside0.mk A160
          clear A160
          simp only [Option.some.injEq, Prod.mk.injEq] at H
          obtain ⟨rfl, rfl⟩ := H
          try go_wp2
          have n0_ := Aside0.mk (Qae HB.out)
          clear HB
          have HB := n0_
          clear n0_
          have p369 : 0 ≤ (a2 : Int) := Ze
          have q369 : a2 < (l0.length : Int) := Ze
          obtain ⟨ad369, e369, hx369_0, hx369_1⟩ := at_T98 HR0.out a2 p369 q369
          have hw369_1 := hx369_1
          have hw369_0 := hx369_0
          cases e369
          replace hx369_0 := (HB.out.cell (World.block_lt_of_cell? w _ hx369_0)).trans hx369_0
          replace hx369_1 := (HB.out.cell (World.block_lt_of_cell? w _ hx369_1)).trans hx369_1
          replace p369 := eq_true p369
          replace q369 := eq_true q369
          have p370 : 0 ≤ (a3 : Int) := Ze
          have q370 : a3 < (l0.length : Int) := Ze
          obtain ⟨ad370, e370, hx370_0, hx370_1⟩ := at_T98 HR0.out a3 p370 q370
          have hw370_1 := hx370_1
          have hw370_0 := hx370_0
          obtain rfl : ad369 = ad370 := (by injection e370)
          replace hx370_0 := (HB.out.cell (World.block_lt_of_cell? w _ hx370_0)).trans hx370_0
          replace hx370_1 := (HB.out.cell (World.block_lt_of_cell? w _ hx370_1)).trans hx370_1
          replace p370 := eq_true p370
          replace q370 := eq_true q370
          refine start_ (n := 17) (S := fun w' => w'.cell? (ad369.add ((a2).toNat * 2)) = some (.string ((rd_T98 l0 a2).f0)) ∧ w'.cell? ⟨(ad369.add ((a2).toNat * 2)).block, (ad369.add ((a2).toNat * 2)).off + 1, none⟩ = some (.int .i64 ((rd_T98 l0 a2).f1)) ∧ w'.cell? (ad369.add ((a3).toNat * 2)) = some (.string ((rd_T98 l0 a3).f0)) ∧ w'.cell? ⟨(ad369.add ((a3).toNat * 2)).block, (ad369.add ((a3).toNat * 2)).off + 1, none⟩ = some (.int .i64 ((rd_T98 l0 a3).f1))) (ds := []) #[false, false, false, false, false, false, false, false, false, false, false, false, false, false, false, false, false] (by kernel_rfl) rfl rfl ⟨((HB.out.cell (World.block_lt_of_cell? w _ hw369_0)).trans hw369_0), ((HB.out.cell (World.block_lt_of_cell? w _ hw369_1)).trans hw369_1), ((HB.out.cell (World.block_lt_of_cell? w _ hw370_0)).trans hw370_0), ((HB.out.cell (World.block_lt_of_cell? w _ hw370_1)).trans hw370_1)⟩ (fun hHeld => ?_); refine Qb3 Qa4.tab6 Qa4.bits6 (fun HT_ HW_ => ?_)
          generalize w.drew = w17 at HB hx369_0 hx369_1 hx370_0 hx370_1 hHeld ⊢
          refine pure_ (i := 0) (N := some 36) (v := ?_) (a' := ?_) #[true, false, false, false, false, false, false, false, false, false, false, false, false, false, false, false, false] rfl rfl (any_of HT_.out (by kernel_rfl)) (fun _ _ _ h => h) (Or.inl ⟨by rfl, ?_⟩) ?_ ?_
          rotate_left
          ·intro w'
           go_simp
           with_reducible rfl
          rotate_left
          ·simp only [Act.put, List.setIfInBounds_toArray, List.set_cons_zero, List.set_cons_succ, i64_w, i32_w]
           rfl
          refine pure_ (i := 1) (N := some 37) (v := ?_) (a' := ?_) #[true, true, false, false, false, false, false, false, false, false, false, false, false, false, false, false, false] rfl rfl (any_of HT_.out (by kernel_rfl)) (fun _ _ _ h => h) (Or.inl ⟨by rfl, ?_⟩) ?_ ?_
          rotate_left
          ·intro w'
           go_simp
           with_reducible rfl
          rotate_left
          ·simp only [Act.put, List.setIfInBounds_toArray, List.set_cons_zero, List.set_cons_succ, i64_w, i32_w]
           rfl
          refine pure_ (i := 2) (N := some 38) (v := ?_) (a' := ?_) #[true, true, true, false, false, false, false, false, false, false, false, false, false, false, false, false, false] rfl rfl (any_of HT_.out (by kernel_rfl)) (fun _ _ _ h => h) (Or.inl ⟨by rfl, ?_⟩) ?_ ?_
          rotate_left
          ·intro w'
           go_simp
           with_reducible rfl
          rotate_left
          ·simp only [Act.put, List.setIfInBounds_toArray, List.set_cons_zero, List.set_cons_succ, i64_w, i32_w]
           rfl
          refine pure_ (i := 3) (N := some 39) (v := ?_) (a' := ?_) #[true, true, true, true, false, false, false, false, false, false, false, false, false, false, false, false, false] rfl rfl (any_of HT_.out (by kernel_rfl)) (fun _ _ _ h => h) (Or.inl ⟨by rfl, ?_⟩) ?_ ?_
          rotate_left
          ·intro w'
           go_simp
           with_reducible rfl
          rotate_left
          ·simp only [Act.put, List.setIfInBounds_toArray, List.set_cons_zero, List.set_cons_succ, i64_w, i32_w]
           rfl
          refine pure_ (i := 4) (N := some 40) (v := ?_) (a' := ?_) #[true, true, true, true, true, false, false, false, false, false, false, false, false, false, false, false, false] rfl rfl (any_of HT_.out (by kernel_rfl)) (fun _ _ _ h => h) (Or.inl ⟨by rfl, ?_⟩) ?_ ?_
          rotate_left
          ·intro w'
           go_simp
           with_reducible rfl
          rotate_left
          ·simp only [Act.put, List.setIfInBounds_toArray, List.set_cons_zero, List.set_cons_succ, i64_w, i32_w]
           rfl
          refine pure_ (i := 6) (N := some 42) (v := ?_) (a' := ?_) #[true, true, true, true, true, false, true, false, false, false, false, false, false, false, false, false, false] rfl rfl (any_of HT_.out (by kernel_rfl)) (fun _ _ _ h => h) (Or.inl ⟨by rfl, ?_⟩) ?_ ?_
          rotate_left
          ·intro w'
           go_simp
           with_reducible rfl
          rotate_left
          ·simp only [Act.put, List.setIfInBounds_toArray, List.set_cons_zero, List.set_cons_succ, i64_w, i32_w]
           rfl
          refine pure_ (i := 7) (N := some 43) (v := ?_) (a' := ?_) #[true, true, true, true, true, false, true, true, false, false, false, false, false, false, false, false, false] rfl rfl (any_of HT_.out (by kernel_rfl)) (fun _ _ _ h => h) (Or.inl ⟨by rfl, ?_⟩) ?_ ?_
          rotate_left
          ·intro w'
           go_simp
           with_reducible rfl
          rotate_left
          ·simp only [Act.put, List.setIfInBounds_toArray, List.set_cons_zero, List.set_cons_succ, i64_w, i32_w]
           rfl
          refine pure_ (i := 8) (N := some 44) (v := ?_) (a' := ?_) #[true, true, true, true, true, false, true, true, true, false, false, false, false, false, false, false, false] rfl rfl (any_of HT_.out (by kernel_rfl)) (fun _ _ _ h => h) (Or.inl ⟨by rfl, ?_⟩) ?_ ?_
          rotate_left
          ·intro w'
           go_simp
           with_reducible rfl
          rotate_left
          ·simp only [Act.put, List.setIfInBounds_toArray, List.set_cons_zero, List.set_cons_succ, i64_w, i32_w]
           rfl
          refine pure_ (i := 9) (N := some 45) (v := ?_) (a' := ?_) #[true, true, true, true, true, false, true, true, true, true, false, false, false, false, false, false, false] rfl rfl (any_of HT_.out (by kernel_rfl)) (fun _ _ _ h => h) (Or.inl ⟨by rfl, ?_⟩) ?_ ?_
          rotate_left
          ·intro w'
           go_simp
           with_reducible rfl
          rotate_left
          ·simp only [Act.put, List.setIfInBounds_toArray, List.set_cons_zero, List.set_cons_succ, i64_w, i32_w]
           rfl
          refine pure_ (i := 11) (N := some 47) (v := ?_) (a' := ?_) #[true, true, true, true, true, false, true, true, true, true, false, true, false, false, false, false, false] rfl rfl (any_of HT_.out (by kernel_rfl)) (fun _ _ _ h => h) (Or.inl ⟨by rfl, ?_⟩) ?_ ?_
          rotate_left
          ·intro w'
           go_simp
           with_reducible rfl
          rotate_left
          ·simp only [Act.put, List.setIfInBounds_toArray, List.set_cons_zero, List.set_cons_succ, i64_w, i32_w]
           rfl
          refine take_ (i := 5) (N := some 41) (v := ?_) (a' := ?_) #[true, true, true, true, true, true, true, true, true, true, false, true, false, false, false, false, false] rfl rfl (QbT HT_.out HW_.out (by kernel_rfl)) (fun _ _ _ h => h) (Or.inl ⟨by rfl, ?_⟩) hHeld ?_ ?_
          rotate_left
          ·rintro w' ⟨s0, s1, s2, s3⟩
           go_simp
           with_reducible rfl
          rotate_left
          ·simp only [Act.put, List.setIfInBounds_toArray, List.set_cons_zero, List.set_cons_succ, i64_w, i32_w]
           rfl
          refine take_ (i := 10) (N := some 46) (v := ?_) (a' := ?_) #[true, true, true, true, true, true, true, true, true, true, true, true, false, false, false, false, false] rfl rfl (QbT HT_.out HW_.out (by kernel_rfl)) (fun _ _ _ h => h) (Or.inl ⟨by rfl, ?_⟩) hHeld ?_ ?_
          rotate_left
          ·rintro w' ⟨s0, s1, s2, s3⟩
           go_simp
           with_reducible rfl
          rotate_left
          ·simp only [Act.put, List.setIfInBounds_toArray, List.set_cons_zero, List.set_cons_succ, i64_w, i32_w]
           rfl
          refine one_ (i := 12) (N := some 48) #[true, true, true, true, true, true, true, true, true, true, true, true, true, false, false, false, false] rfl rfl (one_of HT_.out (by kernel_rfl)) (by decide) (fun K hK => ?_)
          refine goes_ Try.func58 (by kernel_rfl) rfl #[.int .i64 a1, .int .i64 ((rd_T98 l0 a2).f1), .int .i64 ((rd_T98 l0 a3).f1), .int .i64 a4] (by rfl) rfl rfl (Zl) ?_
          with_reducible refine (Qa5.calls a1 ((rd_T98 l0 a2).f1) ((rd_T98 l0 a3).f1) a4 t371 t372 _ A16.out).mono ?_
          rintro e w18 ⟨rfl, hb⟩
          refine ⟨_, rfl, ?_⟩
          have n0_ := Aside0.mk (Qao (by repeat (first | (with_reducible first | exact HB.out | apply Qad | apply Qaa | apply Qae | exact Below.refl _ _) | exact HB.out)) hb)
          clear HB
          have HB := n0_
          clear n0_
          (try clear hb)
          (try clear hb2)
          (try clear hk)
          (try clear hi)
          refine hK.out _ _ ⟨((HB.out.cell (World.block_lt_of_cell? w _ hw369_0)).trans hw369_0), ((HB.out.cell (World.block_lt_of_cell? w _ hw369_1)).trans hw369_1), ((HB.out.cell (World.block_lt_of_cell? w _ hw370_0)).trans hw370_0), ((HB.out.cell (World.block_lt_of_cell? w _ hw370_1)).trans hw370_1)⟩ (fun hHeld => ?_)
          clear hK K
          refine norm_ (a' := ?_) ?_ ?_
          rotate_left
          ·show Act.put _ (some 48) _ = _
           simp only [Act.put, List.setIfInBounds_toArray, List.set_cons_zero, List.set_cons_succ, i64_w, i32_w]
           rfl
          refine pure_ (i := 13) (N := some 49) (v := ?_) (a' := ?_) #[true, true, true, true, true, true, true, true, true, true, true, true, true, true, false, false, false] rfl rfl (any_of HT_.out (by kernel_rfl)) (fun _ _ _ h => h) (Or.inl ⟨by rfl, ?_⟩) ?_ ?_
          rotate_left
          ·intro w'
           go_simp
           with_reducible rfl
          rotate_left
          ·simp only [Act.put, List.setIfInBounds_toArray, List.set_cons_zero, List.set_cons_succ, i64_w, i32_w]
           rfl
          refine pure_ (i := 14) (N := some 50) (v := ?_) (a' := ?_) #[true, true, true, true, true, true, true, true, true, true, true, true, true, true, true, false, false] rfl rfl (any_of HT_.out (by kernel_rfl)) (fun _ _ _ h => h) (Or.inl ⟨by rfl, ?_⟩) ?_ ?_
          rotate_left
          ·intro w'
           go_simp
           with_reducible rfl
          rotate_left
          ·simp only [Act.put, List.setIfInBounds_toArray, List.set_cons_zero, List.set_cons_succ, i64_w, i32_w]
           rfl
          refine pure_ (i := 15) (N := some 10) (v := ?_) (a' := ?_) #[true, true, true, true, true, true, true, true, true, true, true, true, true, true, true, true, false] rfl rfl (any_of HT_.out (by kernel_rfl)) (fun _ _ _ h => h) (Or.inl ⟨by rfl, ?_⟩) ?_ ?_
          rotate_left
          ·intro w'
           go_simp
           with_reducible rfl
          rotate_left
          ·simp only [Act.put, List.setIfInBounds_toArray, List.set_cons_zero, List.set_cons_succ, i64_w, i32_w]
           rfl
          refine pure_ (i := 16) (N := some 11) (v := ?_) (a' := ?_) #[true, true, true, true, true, true, true, true, true, true, true, true, true, true, true, true, true] rfl rfl (any_of HT_.out (by kernel_rfl)) (fun _ _ _ h => h) (Or.inl ⟨by rfl, ?_⟩) ?_ ?_
          rotate_left
          ·intro w'
           go_simp
           with_reducible rfl
          rotate_left
          ·simp only [Act.put, List.setIfInBounds_toArray, List.set_cons_zero, List.set_cons_succ, i64_w, i32_w]
           rfl
          refine done_ (Qcf HT_.out (by kernel_rfl)) ?_
          try go_wp2
          go_ret2
          exact ⟨Zq, by repeat (first | (with_reducible first | exact HB.out | apply Qad | apply Qaa | apply Qae | exact Below.refl _ _) | exact HB.out)⟩
         ·rw [if_neg c15] at H
          exact absurd H (by simp)
        ·rw [if_neg c14] at H
         exact absurd H (by simp)
       ·rw [if_neg c13] at H
        exact absurd H (by simp)
      ·rw [if_neg c12] at H
       exact absurd H (by simp)
 ·rw [if_neg c7] at H
  have c7b0 : (t368 == 0) = false := beq_eq_false_iff_ne.mpr c7
  have c7b1 : (t368 != 0) = true := bne_iff_ne.mpr c7
  (try simp only [c7b0, c7b1])
  simp only [Option.some.injEq, Prod.mk.injEq] at H
  obtain ⟨rfl, rfl⟩ := H
  go_wp2
  go_ret2
  exact ⟨Zq, by repeat (first | (with_reducible first | exact HB.out | apply Qad | apply Qaa | apply Qae | exact Below.refl _ _) | exact HB.out)⟩
def Qbr.f (k : Nat) (l0 : List (S98)) (a1 : Int) (a2 : Int) (a3 : Int) : Option (Int × Int) := (Qa4.f k l0 a1 a2 0 a3).bind fun bt373 => (some (bt373.1, bt373.2))
theorem Qbr.mono : ∀ a0 a1 a2 a3 k, LeO (Qbr.f k a0 a1 a2 a3) (Qbr.f (k + 1) a0 a1 a2 a3) := by
 intro a0 a1 a2 a3 k
 unfold Qbr.f
 repeat' first
   | (with_reducible exact Qa4.mono _ _ _ _ _ _)
   | (with_reducible exact LeO.refl _)
   | (with_reducible exact LeO.none _)
   | (with_reducible refine LeO.ite ?_ ?_)
   | (with_reducible refine LeO.bind ?_ (fun _ => ?_))
   | exact Qa4.mono _ _ _ _ _ _
   | exact LeO.none _
   | refine LeO.ite ?_ ?_
   | refine LeO.bind ?_ (fun _ => ?_)
set_option maxHeartbeats 8000000 in
set_option maxRecDepth 100000 in
theorem Qbr.calls (k : Nat) (A0 : Option Addr) (c0 : Nat) (l0 : List (S98)) (a1 : Int) (a2 : Int) (a3 : Int) (r1 : Int) (r2 : Int) (w : World) (hr0 : Kd.C k98 w A0 l0.length l0) (hc0 : l0.length ≤ c0) (h : Qbr.f k l0 a1 a2 a3 = some (r1, r2)) :
  Calls Try.prog 70 #[.slice A0 l0.length c0, .int .i64 a1, .int .i64 a2, .int .i64 a3] w fun e w' => e = .returned (.tuple #[.int .i64 r1, .int .i64 r2]) ∧ Below w.heap.size w w' := by
 have HR0 := Aside0.mk hr0
 have HC0 := Aside0.mk hc0
 clear hr0 hc0
 have HB := Aside0.mk (Below.refl w.heap.size w)
 have H : ((Qa4.f k l0 a1 a2 0 a3).bind fun bt373 => (some (bt373.1, bt373.2))) = some (r1, r2) := h
 clear h
 replace H := Option.bind_eq_some_iff.mp H
 obtain ⟨⟨t373, t374⟩, A50, H⟩ := H
 replace H : (some (t373, t374)) = some (r1, r2) := H
 have A5 := Aside0.mk A50
 clear A50
 simp only [Option.some.injEq, Prod.mk.injEq] at H
 obtain ⟨rfl, rfl⟩ := H
 go_enter Try.func70, Try.ntmps70
 go_wp2_with (first | ((with_reducible refine Qaw (f := 106) rfl ?_); refine goesL_ (some 14) rfl rfl Try.func106 (by kernel_rfl) rfl #[.slice A0 l0.length c0, .int .i64 a1, .int .i64 a2, .int .i64 0, .int .i64 a3] rfl (Zl) ?_; (with_reducible refine (Qa4.calls k _ _ l0 a1 a2 0 a3 t373 t374 _ ?side1 ?side2 A5.out).mono ?_); (case side1 => exact Zv HR0.out); (case side2 => exact HC0.out); rintro e w6 ⟨rfl, hb⟩; refine ⟨_, rfl, ?_⟩; have n0_ := Aside0.mk (Qao (Zb) hb); clear HB; have HB := n0_; clear n0_; (try clear hb); (try clear hb2); (try clear hk); (try clear hi)))
 go_ret2
 exact ⟨Zq, Zb⟩
def Qa3.f (k : Nat) (a0_0 : ByteArray) (a0_1 : Int) (a0_2 : Int) (a0_3 : Int) (a0_4 : Int) (a0_5 : Int) (a1 : Int) (l2 : List (S98)) : Option (Int × Int) := (Qbs.f k a0_0 a0_1 a0_2 a0_3 a0_4 a0_5 a1).bind fun bt376 => (if bt376.2 = 0 then ((Qbr.f k l2 bt376.1 a0_2 3).bind fun bt378 => (if bt378.2 = 0 then ((Qa5.f bt378.1 (wrap64 (1000 - a0_4)) 1000 3).bind fun bt380 => (some (bt380.1, bt380.2))) else (some (0, bt378.2)))) else (some (0, bt376.2)))
theorem Qa3.mono : ∀ a0 a1 a2 a3 a4 a5 a6 a7 k, LeO (Qa3.f k a0 a1 a2 a3 a4 a5 a6 a7) (Qa3.f (k + 1) a0 a1 a2 a3 a4 a5 a6 a7) := by
 intro a0 a1 a2 a3 a4 a5 a6 a7 k
 unfold Qa3.f
 repeat' first
   | (with_reducible exact Qbr.mono _ _ _ _ _)
   | (with_reducible exact Qbs.mono _ _ _ _ _ _ _ _)
   | (with_reducible exact LeO.refl _)
   | (with_reducible exact LeO.none _)
   | (with_reducible refine LeO.ite ?_ ?_)
   | (with_reducible refine LeO.bind ?_ (fun _ => ?_))
   | exact Qbr.mono _ _ _ _ _
   | exact Qbs.mono _ _ _ _ _ _ _ _
   | exact LeO.none _
   | refine LeO.ite ?_ ?_
   | refine LeO.bind ?_ (fun _ => ?_)
set_option maxHeartbeats 8000000 in
set_option maxRecDepth 100000 in
theorem Qa3.calls (k : Nat) (a0_0 : ByteArray) (a0_1 : Int) (a0_2 : Int) (a0_3 : Int) (a0_4 : Int) (a0_5 : Int) (a1 : Int) (A2 : Option Addr) (c2 : Nat) (l2 : List (S98)) (r1 : Int) (r2 : Int) (w : World) (hr2 : Kd.C k98 w A2 l2.length l2) (hc2 : l2.length ≤ c2) (h : Qa3.f k a0_0 a0_1 a0_2 a0_3 a0_4 a0_5 a1 l2 = some (r1, r2)) :
  Calls Try.prog 42 #[.agg #[.string a0_0, .int .i64 a0_1, .int .i64 a0_2, .int .i64 a0_3, .int .i64 a0_4, .int .i64 a0_5], .int .i64 a1, .slice A2 l2.length c2] w fun e w' => e = .returned (.tuple #[.int .i64 r1, .int .i64 r2]) ∧ Below w.heap.size w w' := by
 have hu84 := Try.underlying84
 have HR2 := Aside0.mk hr2
 have HC2 := Aside0.mk hc2
 clear hr2 hc2
 have HB := Aside0.mk (Below.refl w.heap.size w)
 have H : ((Qbs.f k a0_0 a0_1 a0_2 a0_3 a0_4 a0_5 a1).bind fun bt376 => (if bt376.2 = 0 then ((Qbr.f k l2 bt376.1 a0_2 3).bind fun bt378 => (if bt378.2 = 0 then ((Qa5.f bt378.1 (wrap64 (1000 - a0_4)) 1000 3).bind fun bt380 => (some (bt380.1, bt380.2))) else (some (0, bt378.2)))) else (some (0, bt376.2)))) = some (r1, r2) := h
 clear h
 replace H := Option.bind_eq_some_iff.mp H
 obtain ⟨⟨t376, t377⟩, A40, H⟩ := H
 replace H : (if t377 = 0 then ((Qbr.f k l2 t376 a0_2 3).bind fun bt378 => (if bt378.2 = 0 then ((Qa5.f bt378.1 (wrap64 (1000 - a0_4)) 1000 3).bind fun bt380 => (some (bt380.1, bt380.2))) else (some (0, bt378.2)))) else (some (0, t377))) = some (r1, r2) := H
 have A4 := Aside0.mk A40
 clear A40
 go_enter Try.func42, Try.ntmps42
 go_upto_if 19 with (first | ((with_reducible refine QaW (N := 3) rfl ?_); refine Qa2 ?hg (N := 3) ?hd (cs := #[.string a0_0, .int .i64 a0_1, .int .i64 a0_2, .int .i64 a0_3, .int .i64 a0_4, .int .i64 a0_5]) (t := 84) ?hr ?_; (case hd => rfl); (case hg => rfl); (case hr => first | (go_simp; done) | (go_simp; rfl)); intro gb375 hg w5 hbox hb; have n0_ := Aside0.mk (Qao (Zb) hb); have n1_ := Aside0.mk (hbox); have n2_ := Aside0.mk ((by rw [hg]; exact (Qam (Zb)) : w.heap.size ≤ gb375)); have n3_ := Aside0.mk ((by rw [hg]; exact (Qam (Zb)) : w.heap.size ≤ gb375)); clear HB; have HB := n0_; have BK375 := n1_; have GW375 := n2_; have GE375 := n3_; clear n0_ n1_ n2_ n3_; clear hb hbox hg; have hcz6_0 : w5.cell? ⟨gb375, 0, none⟩ = some (.string a0_0) := (Qai BK375.out 0).trans rfl; have hcz6_1 : w5.cell? ⟨gb375, 1, none⟩ = some (.int .i64 a0_1) := (Qai BK375.out 1).trans rfl; have hcz6_2 : w5.cell? ⟨gb375, 2, none⟩ = some (.int .i64 a0_2) := (Qai BK375.out 2).trans rfl; have hcz6_3 : w5.cell? ⟨gb375, 3, none⟩ = some (.int .i64 a0_3) := (Qai BK375.out 3).trans rfl; have hcz6_4 : w5.cell? ⟨gb375, 4, none⟩ = some (.int .i64 a0_4) := (Qai BK375.out 4).trans rfl; have hcz6_5 : w5.cell? ⟨gb375, 5, none⟩ = some (.int .i64 a0_5) := (Qai BK375.out 5).trans rfl; have hfz6_0 := Qah BK375.out 0; have hfz6_1 := Qah BK375.out 1; have hfz6_2 := Qah BK375.out 2; have hfz6_3 := Qah BK375.out 3; have hfz6_4 := Qah BK375.out 4; have hfz6_5 := Qah BK375.out 5) | ((with_reducible refine Qaw (f := 69) rfl ?_); refine goesL_ (some 15) rfl rfl Try.func69 (by kernel_rfl) rfl #[.agg #[.string a0_0, .int .i64 a0_1, .int .i64 a0_2, .int .i64 a0_3, .int .i64 a0_4, .int .i64 a0_5], .int .i64 a1] rfl (Zl) ?_; (with_reducible refine (Qbs.calls k a0_0 a0_1 a0_2 a0_3 a0_4 a0_5 a1 t376 t377 _ A4.out).mono ?_); rintro e w7 ⟨rfl, hb⟩; refine ⟨_, rfl, ?_⟩; have n0_ := Aside0.mk (Qan (g := gb375) (o := .cells #[.string a0_0, .int .i64 a0_1, .int .i64 a0_2, .int .i64 a0_3, .int .i64 a0_4, .int .i64 a0_5] 84 (0, 0)) (Zu BK375.out) hb); have n1_ := Aside0.mk (Qao (Zc1 GE375.out) hb); clear BK375; clear HB; have BK375 := n0_; have HB := n1_; clear n0_ n1_; (try clear hb); (try clear hb2); (try clear hk); (try clear hi)))
 (try simp only [Act.put, List.setIfInBounds_toArray, List.set_cons_zero, List.set_cons_succ])
 by_cases c8 : t377 = 0
 ·rw [if_pos c8] at H
  have c8b0 : (t377 == 0) = true := beq_iff_eq.mpr c8
  have c8b1 : (t377 != 0) = false := bne_eq_false_iff_eq.mpr c8
  clear c8
  (try simp only [c8b0, c8b1])
  replace H := Option.bind_eq_some_iff.mp H
  obtain ⟨⟨t378, t379⟩, A90, H⟩ := H
  replace H : (if t379 = 0 then ((Qa5.f t378 (wrap64 (1000 - a0_4)) 1000 3).bind fun bt380 => (some (bt380.1, bt380.2))) else (some (0, t379))) = some (r1, r2) := H
  have A9 := Aside0.mk A90
  clear A90
  have hcz10_0 : w7.cell? ⟨gb375, 0, none⟩ = some (.string a0_0) := (Qai BK375.out 0).trans rfl
  have hcz10_1 : w7.cell? ⟨gb375, 1, none⟩ = some (.int .i64 a0_1) := (Qai BK375.out 1).trans rfl
  have hcz10_2 : w7.cell? ⟨gb375, 2, none⟩ = some (.int .i64 a0_2) := (Qai BK375.out 2).trans rfl
  have hcz10_3 : w7.cell? ⟨gb375, 3, none⟩ = some (.int .i64 a0_3) := (Qai BK375.out 3).trans rfl
  have hcz10_4 : w7.cell? ⟨gb375, 4, none⟩ = some (.int .i64 a0_4) := (Qai BK375.out 4).trans rfl
  have hcz10_5 : w7.cell? ⟨gb375, 5, none⟩ = some (.int .i64 a0_5) := (Qai BK375.out 5).trans rfl
  have hfz10_0 := Qah BK375.out 0
  have hfz10_1 := Qah BK375.out 1
  have hfz10_2 := Qah BK375.out 2
  have hfz10_3 := Qah BK375.out 3
  have hfz10_4 := Qah BK375.out 4
  have hfz10_5 := Qah BK375.out 5
  go_upto_if 30 with (first | ((with_reducible refine Qaw (f := 70) rfl ?_); refine goesL_ (some 26) rfl rfl Try.func70 (by kernel_rfl) rfl #[.slice A2 l2.length c2, .int .i64 t376, .int .i64 a0_2, .int .i64 3] rfl (Zl) ?_; (with_reducible refine (Qbr.calls k _ _ l2 t376 a0_2 3 t378 t379 _ ?side1 ?side2 A9.out).mono ?_); (case side1 => exact Zv (Kd.C_below HR2.out HB.out)); (case side2 => exact HC2.out); rintro e w11 ⟨rfl, hb⟩; refine ⟨_, rfl, ?_⟩; have n0_ := Aside0.mk (Qan (g := gb375) (o := .cells #[.string a0_0, .int .i64 a0_1, .int .i64 a0_2, .int .i64 a0_3, .int .i64 a0_4, .int .i64 a0_5] 84 (0, 0)) (Zu BK375.out) hb); have n1_ := Aside0.mk (Qao (Zc1 GE375.out) hb); clear BK375; clear HB; have BK375 := n0_; have HB := n1_; clear n0_ n1_; (try clear hb); (try clear hb2); (try clear hk); (try clear hi)))
  (try simp only [Act.put, List.setIfInBounds_toArray, List.set_cons_zero, List.set_cons_succ])
  by_cases c12 : t379 = 0
  ·rw [if_pos c12] at H
   have c12b0 : (t379 == 0) = true := beq_iff_eq.mpr c12
   have c12b1 : (t379 != 0) = false := bne_eq_false_iff_eq.mpr c12
   clear c12
   (try simp only [c12b0, c12b1])
   replace H := Option.bind_eq_some_iff.mp H
   obtain ⟨⟨t380, t381⟩, A130, H⟩ := H
   replace H : (some (t380, t381)) = some (r1, r2) := H
   have A13 := Aside0.mk A130
   clear A130
   simp only [Option.some.injEq, Prod.mk.injEq] at H
   obtain ⟨rfl, rfl⟩ := H
   have hcz14_0 : w11.cell? ⟨gb375, 0, none⟩ = some (.string a0_0) := (Qai BK375.out 0).trans rfl
   have hcz14_1 : w11.cell? ⟨gb375, 1, none⟩ = some (.int .i64 a0_1) := (Qai BK375.out 1).trans rfl
   have hcz14_2 : w11.cell? ⟨gb375, 2, none⟩ = some (.int .i64 a0_2) := (Qai BK375.out 2).trans rfl
   have hcz14_3 : w11.cell? ⟨gb375, 3, none⟩ = some (.int .i64 a0_3) := (Qai BK375.out 3).trans rfl
   have hcz14_4 : w11.cell? ⟨gb375, 4, none⟩ = some (.int .i64 a0_4) := (Qai BK375.out 4).trans rfl
   have hcz14_5 : w11.cell? ⟨gb375, 5, none⟩ = some (.int .i64 a0_5) := (Qai BK375.out 5).trans rfl
   have hfz14_0 := Qah BK375.out 0
   have hfz14_1 := Qah BK375.out 1
   have hfz14_2 := Qah BK375.out 2
   have hfz14_3 := Qah BK375.out 3
   have hfz14_4 := Qah BK375.out 4
   have hfz14_5 := Qah BK375.out 5
   go_wp2_with (first | ((with_reducible refine Qaw (f := 58) rfl ?_); refine goesL_ (some 36) rfl rfl Try.func58 (by kernel_rfl) rfl #[.int .i64 t378, .int .i64 (wrap64 (1000 - a0_4)), .int .i64 1000, .int .i64 3] rfl (Zl) ?_; (with_reducible refine (Qa5.calls t378 (wrap64 (1000 - a0_4)) 1000 3 t380 t381 _ A13.out).mono ?_); rintro e w15 ⟨rfl, hb⟩; refine ⟨_, rfl, ?_⟩; have n0_ := Aside0.mk (Qan (g := gb375) (o := .cells #[.string a0_0, .int .i64 a0_1, .int .i64 a0_2, .int .i64 a0_3, .int .i64 a0_4, .int .i64 a0_5] 84 (0, 0)) (Zu BK375.out) hb); have n1_ := Aside0.mk (Qao (Zc1 GE375.out) hb); clear BK375; clear HB; have BK375 := n0_; have HB := n1_; clear n0_ n1_; (try clear hb); (try clear hb2); (try clear hk); (try clear hi)))
   go_ret2
   exact ⟨Zq, Zc1 GE375.out⟩
  ·rw [if_neg c12] at H
   have c12b0 : (t379 == 0) = false := beq_eq_false_iff_ne.mpr c12
   have c12b1 : (t379 != 0) = true := bne_iff_ne.mpr c12
   (try simp only [c12b0, c12b1])
   simp only [Option.some.injEq, Prod.mk.injEq] at H
   obtain ⟨rfl, rfl⟩ := H
   go_wp2
   go_ret2
   exact ⟨Zq, Zc1 GE375.out⟩
 ·rw [if_neg c8] at H
  have c8b0 : (t377 == 0) = false := beq_eq_false_iff_ne.mpr c8
  have c8b1 : (t377 != 0) = true := bne_iff_ne.mpr c8
  (try simp only [c8b0, c8b1])
  simp only [Option.some.injEq, Prod.mk.injEq] at H
  obtain ⟨rfl, rfl⟩ := H
  go_wp2
  go_ret2
  exact ⟨Zq, Zc1 GE375.out⟩
def Qbe.f (k : Nat) (a0_0 : ByteArray) (a0_1 : ByteArray) : Option (Bool) := (Qav.f k a0_0).bind fun t388 => (if t388 = true then ((Qav.f k a0_1).bind fun t389 => (some t389)) else (some false))
theorem Qbe.mono : ∀ a0 a1 k, LeO (Qbe.f k a0 a1) (Qbe.f (k + 1) a0 a1) := by
 intro a0 a1 k
 unfold Qbe.f
 repeat' first
   | (with_reducible exact Qav.mono _ _)
   | (with_reducible exact LeO.refl _)
   | (with_reducible exact LeO.none _)
   | (with_reducible refine LeO.ite ?_ ?_)
   | (with_reducible refine LeO.bind ?_ (fun _ => ?_))
   | exact Qav.mono _ _
   | exact LeO.none _
   | refine LeO.ite ?_ ?_
   | refine LeO.bind ?_ (fun _ => ?_)
set_option maxHeartbeats 8000000 in
set_option maxRecDepth 100000 in
theorem Qbe.calls (k : Nat) (a0_0 : ByteArray) (a0_1 : ByteArray) (r : Bool) (w : World) (h : Qbe.f k a0_0 a0_1 = some r) :
  Calls Try.prog 98 #[.agg #[.string a0_0, .string a0_1]] w fun e w' => e = .returned (.bool r) ∧ Below w.heap.size w w' := by
 have hu44 := Try.underlying44
 have HB := Aside0.mk (Below.refl w.heap.size w)
 have H : ((Qav.f k a0_0).bind fun t388 => (if t388 = true then ((Qav.f k a0_1).bind fun t389 => (some t389)) else (some false))) = some r := h
 clear h
 go_enter Try.func98, Try.ntmps98
 go_upto_region 1 with (first | ((with_reducible refine QaW (N := 1) rfl ?_); refine Qa2 ?hg (N := 1) ?hd (cs := #[.string a0_0, .string a0_1]) (t := 44) ?hr ?_; (case hd => rfl); (case hg => rfl); (case hr => first | (go_simp; done) | (go_simp; rfl)); intro gb387 hg w2 hbox hb; have n0_ := Aside0.mk (Qao (Zb) hb); have n1_ := Aside0.mk (hbox); have n2_ := Aside0.mk ((by rw [hg]; exact (Qam (Zb)) : w.heap.size ≤ gb387)); have n3_ := Aside0.mk ((by rw [hg]; exact (Qam (Zb)) : w.heap.size ≤ gb387)); clear HB; have HB := n0_; have BK387 := n1_; have GW387 := n2_; have GE387 := n3_; clear n0_ n1_ n2_ n3_; clear hb hbox hg))
 (try simp only [Act.put, List.setIfInBounds_toArray, List.set_cons_zero, List.set_cons_succ])
 replace H := Option.bind_eq_some_iff.mp H
 obtain ⟨t388, A30, H⟩ := H
 replace H : (if t388 = true then ((Qav.f k a0_1).bind fun t389 => (some t389)) else (some false)) = some r := H
 have A3 := Aside0.mk A30
 clear A30
 by_cases c4 : t388 = true
 ·subst c4
  have H1 : ((Qav.f k a0_1).bind fun t389 => (some t389)) = some r := by rw [if_pos rfl] at H; exact H
  clear H
  have H := H1
  clear H1
  replace H := Option.bind_eq_some_iff.mp H
  obtain ⟨t389, A50, H⟩ := H
  replace H : (some t389) = some r := H
  have A5 := Aside0.mk A50
  clear A50
  obtain rfl := Option.some.inj H
  have hcz6_0 : w2.cell? ⟨gb387, 0, none⟩ = some (.string a0_0) := (Qai BK387.out 0).trans rfl
  have hcz6_1 : w2.cell? ⟨gb387, 1, none⟩ = some (.string a0_1) := (Qai BK387.out 1).trans rfl
  have hfz6_0 := Qah BK387.out 0
  have hfz6_1 := Qah BK387.out 1
  go_wp2_with (first | ((with_reducible refine Qaw (f := 99) rfl ?_); refine goesL_ (some 5) rfl rfl Try.func99 (by kernel_rfl) rfl #[.string a0_0] rfl (Zl) ?_; (with_reducible refine (Qav.calls k a0_0 true _ A3.out).mono ?_); rintro e w' ⟨rfl, ⟨nd, rfl⟩⟩; refine ⟨_, rfl, ?_⟩) | (go_at_call 99; (with_reducible refine (Qav.calls k a0_1 t389 _ A5.out).mono ?_); rintro e w' ⟨rfl, ⟨nd, rfl⟩⟩))
  go_ret
  exact ⟨Zq, Zc1 GE387.out⟩
 ·replace c4 := Bool.eq_false_iff.mpr c4
  subst c4
  have H1 : (some false) = some r := by rw [if_neg (show ¬ (false = true) by decide)] at H; exact H
  clear H
  have H := H1
  clear H1
  obtain rfl := Option.some.inj H
  have hcz7_0 : w2.cell? ⟨gb387, 0, none⟩ = some (.string a0_0) := (Qai BK387.out 0).trans rfl
  have hcz7_1 : w2.cell? ⟨gb387, 1, none⟩ = some (.string a0_1) := (Qai BK387.out 1).trans rfl
  have hfz7_0 := Qah BK387.out 0
  have hfz7_1 := Qah BK387.out 1
  go_wp2_with (first | ((with_reducible refine Qaw (f := 99) rfl ?_); refine goesL_ (some 5) rfl rfl Try.func99 (by kernel_rfl) rfl #[.string a0_0] rfl (Zl) ?_; (with_reducible refine (Qav.calls k a0_0 false _ A3.out).mono ?_); rintro e w' ⟨rfl, ⟨nd, rfl⟩⟩; refine ⟨_, rfl, ?_⟩))
  go_ret
  exact ⟨Zq, Zc1 GE387.out⟩
def QbF.f (a0_0 : ByteArray) (a0_1 : ByteArray) (a0_2 : ByteArray) (a0_3 : Int) (a1_0 : ByteArray) (a1_1 : ByteArray) (a1_2 : ByteArray) (a1_3 : Int) : Option (Bool) := if a0_0.toList = a1_0.toList then (if a0_1.toList = a1_1.toList then (some (Op.bytesLess a0_2.toList a1_2.toList)) else (some (Op.bytesLess a0_1.toList a1_1.toList))) else (some (Op.bytesLess a0_0.toList a1_0.toList))
set_option maxHeartbeats 8000000 in
set_option maxRecDepth 100000 in
theorem QbF.calls (a0_0 : ByteArray) (a0_1 : ByteArray) (a0_2 : ByteArray) (a0_3 : Int) (a1_0 : ByteArray) (a1_1 : ByteArray) (a1_2 : ByteArray) (a1_3 : Int) (r : Bool) (w : World) (h : QbF.f a0_0 a0_1 a0_2 a0_3 a1_0 a1_1 a1_2 a1_3 = some r) :
  Calls Try.prog 100 #[.agg #[.string a0_0, .string a0_1, .string a0_2, .int .i64 a0_3], .agg #[.string a1_0, .string a1_1, .string a1_2, .int .i64 a1_3]] w fun e w' => e = .returned (.bool r) ∧ Below w.heap.size w w' := by
 have hu46 := Try.underlying46
 have HB := Aside0.mk (Below.refl w.heap.size w)
 have H : (if a0_0.toList = a1_0.toList then (if a0_1.toList = a1_1.toList then (some (Op.bytesLess a0_2.toList a1_2.toList)) else (some (Op.bytesLess a0_1.toList a1_1.toList))) else (some (Op.bytesLess a0_0.toList a1_0.toList))) = some r := h
 clear h
 go_enter Try.func100, Try.ntmps100
 go_upto_if 11 with (first | ((with_reducible refine QaW (N := 2) rfl ?_); refine Qa2 ?hg (N := 2) ?hd (cs := #[.string a0_0, .string a0_1, .string a0_2, .int .i64 a0_3]) (t := 46) ?hr ?_; (case hd => rfl); (case hg => rfl); (case hr => first | (go_simp; done) | (go_simp; rfl)); intro gb390 hg w3 hbox hb; have n0_ := Aside0.mk (Qao (Zb) hb); have n1_ := Aside0.mk (hbox); have n2_ := Aside0.mk ((by rw [hg]; exact (Qam (Zb)) : w.heap.size ≤ gb390)); have n3_ := Aside0.mk ((by rw [hg]; exact (Qam (Zb)) : w.heap.size ≤ gb390)); clear HB; have HB := n0_; have BK390 := n1_; have GW390 := n2_; have GE390 := n3_; clear n0_ n1_ n2_ n3_; clear hb hbox hg) | ((with_reducible refine QaW (N := 3) rfl ?_); refine Qa2 ?hg (N := 3) ?hd (cs := #[.string a1_0, .string a1_1, .string a1_2, .int .i64 a1_3]) (t := 46) ?hr ?_; (case hd => rfl); (case hg => rfl); (case hr => first | (go_simp; done) | (go_simp; rfl)); intro gb391 hg w4 hbox hb; have n0_ := Aside0.mk (Qan (g := gb390) (o := .cells #[.string a0_0, .string a0_1, .string a0_2, .int .i64 a0_3] 46 (0, 0)) (Zu BK390.out) hb); have n1_ := Aside0.mk (Qao (Zc1 GE390.out) hb); have n2_ := Aside0.mk (hbox); have n3_ := Aside0.mk ((by rw [hg]; exact (Qam (Zc1 GE390.out)) : w.heap.size ≤ gb391)); have n4_ := Aside0.mk ((by rw [hg]; exact (Qam (Zc1 GE390.out)) : w.heap.size ≤ gb391)); have n5_ := Aside0.mk ((by rw [hg]; exact Nat.ne_of_lt (blk_lt (g := gb390) (o := .cells #[.string a0_0, .string a0_1, .string a0_2, .int .i64 a0_3] 46 (0, 0)) (Zu BK390.out)) : gb390 ≠ gb391)); have n6_ := Aside0.mk ((by rw [hg]; exact Nat.ne_of_gt (blk_lt (g := gb390) (o := .cells #[.string a0_0, .string a0_1, .string a0_2, .int .i64 a0_3] 46 (0, 0)) (Zu BK390.out)) : gb391 ≠ gb390)); clear BK390; clear HB; have BK390 := n0_; have HB := n1_; have BK391 := n2_; have GW391 := n3_; have GE391 := n4_; have NB390_391 := n5_; have NB391_390 := n6_; clear n0_ n1_ n2_ n3_ n4_ n5_ n6_; clear hb hbox hg; have hnb5 := NB390_391.out; have hnc5 := NB391_390.out; have hcz6_0 : w4.cell? ⟨gb390, 0, none⟩ = some (.string a0_0) := (Qai BK390.out 0).trans rfl; have hcz6_1 : w4.cell? ⟨gb390, 1, none⟩ = some (.string a0_1) := (Qai BK390.out 1).trans rfl; have hcz6_2 : w4.cell? ⟨gb390, 2, none⟩ = some (.string a0_2) := (Qai BK390.out 2).trans rfl; have hcz6_3 : w4.cell? ⟨gb390, 3, none⟩ = some (.int .i64 a0_3) := (Qai BK390.out 3).trans rfl; have hfz6_0 := Qah BK390.out 0; have hfz6_1 := Qah BK390.out 1; have hfz6_2 := Qah BK390.out 2; have hfz6_3 := Qah BK390.out 3; have hcz7_0 : w4.cell? ⟨gb391, 0, none⟩ = some (.string a1_0) := (Qai BK391.out 0).trans rfl; have hcz7_1 : w4.cell? ⟨gb391, 1, none⟩ = some (.string a1_1) := (Qai BK391.out 1).trans rfl; have hcz7_2 : w4.cell? ⟨gb391, 2, none⟩ = some (.string a1_2) := (Qai BK391.out 2).trans rfl; have hcz7_3 : w4.cell? ⟨gb391, 3, none⟩ = some (.int .i64 a1_3) := (Qai BK391.out 3).trans rfl; have hfz7_0 := Qah BK391.out 0; have hfz7_1 := Qah BK391.out 1; have hfz7_2 := Qah BK391.out 2; have hfz7_3 := Qah BK391.out 3))
 (try simp only [Act.put, List.setIfInBounds_toArray, List.set_cons_zero, List.set_cons_succ])
 by_cases c8 : a0_0.toList = a1_0.toList
 ·rw [if_pos c8] at H
  have c8b0 : (a0_0.toList == a1_0.toList) = true := beq_iff_eq.mpr c8
  have c8b1 : (a0_0.toList != a1_0.toList) = false := bne_eq_false_iff_eq.mpr c8
  clear c8
  (try simp only [c8b0, c8b1])
  have hnb9 := NB390_391.out
  have hnc9 := NB391_390.out
  have hcz10_0 : w4.cell? ⟨gb390, 0, none⟩ = some (.string a0_0) := (Qai BK390.out 0).trans rfl
  have hcz10_1 : w4.cell? ⟨gb390, 1, none⟩ = some (.string a0_1) := (Qai BK390.out 1).trans rfl
  have hcz10_2 : w4.cell? ⟨gb390, 2, none⟩ = some (.string a0_2) := (Qai BK390.out 2).trans rfl
  have hcz10_3 : w4.cell? ⟨gb390, 3, none⟩ = some (.int .i64 a0_3) := (Qai BK390.out 3).trans rfl
  have hfz10_0 := Qah BK390.out 0
  have hfz10_1 := Qah BK390.out 1
  have hfz10_2 := Qah BK390.out 2
  have hfz10_3 := Qah BK390.out 3
  have hcz11_0 : w4.cell? ⟨gb391, 0, none⟩ = some (.string a1_0) := (Qai BK391.out 0).trans rfl
  have hcz11_1 : w4.cell? ⟨gb391, 1, none⟩ = some (.string a1_1) := (Qai BK391.out 1).trans rfl
  have hcz11_2 : w4.cell? ⟨gb391, 2, none⟩ = some (.string a1_2) := (Qai BK391.out 2).trans rfl
  have hcz11_3 : w4.cell? ⟨gb391, 3, none⟩ = some (.int .i64 a1_3) := (Qai BK391.out 3).trans rfl
  have hfz11_0 := Qah BK391.out 0
  have hfz11_1 := Qah BK391.out 1
  have hfz11_2 := Qah BK391.out 2
  have hfz11_3 := Qah BK391.out 3
  go_upto_if 25 with (fail)
  by_cases c12 : a0_1.toList = a1_1.toList
  ·rw [if_pos c12] at H
   have c12b0 : (a0_1.toList == a1_1.toList) = true := beq_iff_eq.mpr c12
   have c12b1 : (a0_1.toList != a1_1.toList) = false := bne_eq_false_iff_eq.mpr c12
   clear c12
   (try simp only [c12b0, c12b1])
   obtain rfl := Option.some.inj H
   have hnb13 := NB390_391.out
   have hnc13 := NB391_390.out
   have hcz14_0 : w4.cell? ⟨gb390, 0, none⟩ = some (.string a0_0) := (Qai BK390.out 0).trans rfl
   have hcz14_1 : w4.cell? ⟨gb390, 1, none⟩ = some (.string a0_1) := (Qai BK390.out 1).trans rfl
   have hcz14_2 : w4.cell? ⟨gb390, 2, none⟩ = some (.string a0_2) := (Qai BK390.out 2).trans rfl
   have hcz14_3 : w4.cell? ⟨gb390, 3, none⟩ = some (.int .i64 a0_3) := (Qai BK390.out 3).trans rfl
   have hfz14_0 := Qah BK390.out 0
   have hfz14_1 := Qah BK390.out 1
   have hfz14_2 := Qah BK390.out 2
   have hfz14_3 := Qah BK390.out 3
   have hcz15_0 : w4.cell? ⟨gb391, 0, none⟩ = some (.string a1_0) := (Qai BK391.out 0).trans rfl
   have hcz15_1 : w4.cell? ⟨gb391, 1, none⟩ = some (.string a1_1) := (Qai BK391.out 1).trans rfl
   have hcz15_2 : w4.cell? ⟨gb391, 2, none⟩ = some (.string a1_2) := (Qai BK391.out 2).trans rfl
   have hcz15_3 : w4.cell? ⟨gb391, 3, none⟩ = some (.int .i64 a1_3) := (Qai BK391.out 3).trans rfl
   have hfz15_0 := Qah BK391.out 0
   have hfz15_1 := Qah BK391.out 1
   have hfz15_2 := Qah BK391.out 2
   have hfz15_3 := Qah BK391.out 3
   go_wp2
   go_ret
   exact ⟨Zq, Zc2 GE390.out GE391.out⟩
  ·rw [if_neg c12] at H
   have c12b0 : (a0_1.toList == a1_1.toList) = false := beq_eq_false_iff_ne.mpr c12
   have c12b1 : (a0_1.toList != a1_1.toList) = true := bne_iff_ne.mpr c12
   (try simp only [c12b0, c12b1])
   obtain rfl := Option.some.inj H
   have hnb16 := NB390_391.out
   have hnc16 := NB391_390.out
   have hcz17_0 : w4.cell? ⟨gb390, 0, none⟩ = some (.string a0_0) := (Qai BK390.out 0).trans rfl
   have hcz17_1 : w4.cell? ⟨gb390, 1, none⟩ = some (.string a0_1) := (Qai BK390.out 1).trans rfl
   have hcz17_2 : w4.cell? ⟨gb390, 2, none⟩ = some (.string a0_2) := (Qai BK390.out 2).trans rfl
   have hcz17_3 : w4.cell? ⟨gb390, 3, none⟩ = some (.int .i64 a0_3) := (Qai BK390.out 3).trans rfl
   have hfz17_0 := Qah BK390.out 0
   have hfz17_1 := Qah BK390.out 1
   have hfz17_2 := Qah BK390.out 2
   have hfz17_3 := Qah BK390.out 3
   have hcz18_0 : w4.cell? ⟨gb391, 0, none⟩ = some (.string a1_0) := (Qai BK391.out 0).trans rfl
   have hcz18_1 : w4.cell? ⟨gb391, 1, none⟩ = some (.string a1_1) := (Qai BK391.out 1).trans rfl
   have hcz18_2 : w4.cell? ⟨gb391, 2, none⟩ = some (.string a1_2) := (Qai BK391.out 2).trans rfl
   have hcz18_3 : w4.cell? ⟨gb391, 3, none⟩ = some (.int .i64 a1_3) := (Qai BK391.out 3).trans rfl
   have hfz18_0 := Qah BK391.out 0
   have hfz18_1 := Qah BK391.out 1
   have hfz18_2 := Qah BK391.out 2
   have hfz18_3 := Qah BK391.out 3
   go_wp2
   go_ret
   exact ⟨Zq, Zc2 GE390.out GE391.out⟩
 ·rw [if_neg c8] at H
  have c8b0 : (a0_0.toList == a1_0.toList) = false := beq_eq_false_iff_ne.mpr c8
  have c8b1 : (a0_0.toList != a1_0.toList) = true := bne_iff_ne.mpr c8
  (try simp only [c8b0, c8b1])
  obtain rfl := Option.some.inj H
  have hnb19 := NB390_391.out
  have hnc19 := NB391_390.out
  have hcz20_0 : w4.cell? ⟨gb390, 0, none⟩ = some (.string a0_0) := (Qai BK390.out 0).trans rfl
  have hcz20_1 : w4.cell? ⟨gb390, 1, none⟩ = some (.string a0_1) := (Qai BK390.out 1).trans rfl
  have hcz20_2 : w4.cell? ⟨gb390, 2, none⟩ = some (.string a0_2) := (Qai BK390.out 2).trans rfl
  have hcz20_3 : w4.cell? ⟨gb390, 3, none⟩ = some (.int .i64 a0_3) := (Qai BK390.out 3).trans rfl
  have hfz20_0 := Qah BK390.out 0
  have hfz20_1 := Qah BK390.out 1
  have hfz20_2 := Qah BK390.out 2
  have hfz20_3 := Qah BK390.out 3
  have hcz21_0 : w4.cell? ⟨gb391, 0, none⟩ = some (.string a1_0) := (Qai BK391.out 0).trans rfl
  have hcz21_1 : w4.cell? ⟨gb391, 1, none⟩ = some (.string a1_1) := (Qai BK391.out 1).trans rfl
  have hcz21_2 : w4.cell? ⟨gb391, 2, none⟩ = some (.string a1_2) := (Qai BK391.out 2).trans rfl
  have hcz21_3 : w4.cell? ⟨gb391, 3, none⟩ = some (.int .i64 a1_3) := (Qai BK391.out 3).trans rfl
  have hfz21_0 := Qah BK391.out 0
  have hfz21_1 := Qah BK391.out 1
  have hfz21_2 := Qah BK391.out 2
  have hfz21_3 := Qah BK391.out 3
  go_wp2
  go_ret
  exact ⟨Zq, Zc2 GE390.out GE391.out⟩
mutual
def Qap.l0 : Nat → List (S46) → Int → Option (Int)
 | 0, _, _ => none
 | k + 1, x0, x3 => if x3 < (x0.length : Int) then (if 0 ≤ x3 then ((Qbe.f k ((rd_T46 x0 x3).f0.f0) ((rd_T46 x0 x3).f0.f1)).bind fun t393 => (if t393 = true then ((Qav.f k ((rd_T46 x0 x3).f1)).bind fun t395 => (Qap.j1 k x0 x3 (!t395))) else (Qap.j1 k x0 x3 true))) else (none)) else (some 0)
def Qap.j1 : Nat → List (S46) → Int → Bool → Option (Int)
 | 0, _, _, _ => none
 | k + 1, x0, x3, x28 => if x28 = true then (some 10) else (if x3 > 0 then (if 0 ≤ (wrap64 (x3 - 1)) then (if (wrap64 (x3 - 1)) < (x0.length : Int) then (if 0 ≤ x3 then (if x3 < (x0.length : Int) then ((QbF.f ((rd_T46 x0 (wrap64 (x3 - 1))).f0.f0) ((rd_T46 x0 (wrap64 (x3 - 1))).f0.f1) ((rd_T46 x0 (wrap64 (x3 - 1))).f1) ((rd_T46 x0 (wrap64 (x3 - 1))).f2) ((rd_T46 x0 x3).f0.f0) ((rd_T46 x0 x3).f0.f1) ((rd_T46 x0 x3).f1) ((rd_T46 x0 x3).f2)).bind fun t398 => (Qap.j2 k x0 x3 (!t398))) else (none)) else (none)) else (none)) else (none)) else (Qap.j2 k x0 x3 false))
def Qap.j2 : Nat → List (S46) → Int → Bool → Option (Int)
 | 0, _, _, _ => none
 | k + 1, x0, x3, x43 => if x43 = true then (some 12) else (if 0 ≤ x3 then (if x3 < (x0.length : Int) then ((QbQ.f ((rd_T46 x0 x3).f2)).bind fun t400 => (if t400 = true then (Qap.l0 k x0 (wrap64 (x3 + 1))) else (some 18))) else (none)) else (none))
end
def Qap.f (k : Nat) (l0 : List (S46)) : Option (Int) := if (l0.length : Int) > 1024 then (some 8) else (Qap.l0 k l0 0)
theorem Qap.mono_l : ∀ k, (∀ y0 y1, LeO (Qap.l0 k y0 y1) (Qap.l0 (k + 1) y0 y1)) ∧ (∀ y0 y1 y2, LeO (Qap.j1 k y0 y1 y2) (Qap.j1 (k + 1) y0 y1 y2)) ∧ (∀ y0 y1 y2, LeO (Qap.j2 k y0 y1 y2) (Qap.j2 (k + 1) y0 y1 y2))
 | 0 => ⟨fun _ _ r h => by simp [Qap.l0] at h, fun _ _ _ r h => by simp [Qap.j1] at h, fun _ _ _ r h => by simp [Qap.j2] at h⟩
 | k + 1 => by
  obtain ⟨ih0, ih1, ih2⟩ := Qap.mono_l k
  refine ⟨?_, ?_, ?_⟩
  ·intro y0 y1
   unfold Qap.l0
   repeat' first
   | (with_reducible exact ih0 _ _)
   | (with_reducible exact ih1 _ _ _)
   | (with_reducible exact ih2 _ _ _)
   | (with_reducible exact Qav.mono _ _)
   | (with_reducible exact Qbe.mono _ _ _)
   | (with_reducible exact LeO.refl _)
   | (with_reducible exact LeO.none _)
   | (with_reducible refine LeO.ite ?_ ?_)
   | (with_reducible refine LeO.bind ?_ (fun _ => ?_))
   | exact ih0 _ _
   | exact ih1 _ _ _
   | exact ih2 _ _ _
   | exact Qav.mono _ _
   | exact Qbe.mono _ _ _
   | exact LeO.none _
   | refine LeO.ite ?_ ?_
   | refine LeO.bind ?_ (fun _ => ?_)
  ·intro y0 y1 y2
   unfold Qap.j1
   repeat' first
   | (with_reducible exact ih0 _ _)
   | (with_reducible exact ih1 _ _ _)
   | (with_reducible exact ih2 _ _ _)
   | (with_reducible exact Qav.mono _ _)
   | (with_reducible exact Qbe.mono _ _ _)
   | (with_reducible exact LeO.refl _)
   | (with_reducible exact LeO.none _)
   | (with_reducible refine LeO.ite ?_ ?_)
   | (with_reducible refine LeO.bind ?_ (fun _ => ?_))
   | exact ih0 _ _
   | exact ih1 _ _ _
   | exact ih2 _ _ _
   | exact Qav.mono _ _
   | exact Qbe.mono _ _ _
   | exact LeO.none _
   | refine LeO.ite ?_ ?_
   | refine LeO.bind ?_ (fun _ => ?_)
  ·intro y0 y1 y2
   unfold Qap.j2
   repeat' first
   | (with_reducible exact ih0 _ _)
   | (with_reducible exact ih1 _ _ _)
   | (with_reducible exact ih2 _ _ _)
   | (with_reducible exact Qav.mono _ _)
   | (with_reducible exact Qbe.mono _ _ _)
   | (with_reducible exact LeO.refl _)
   | (with_reducible exact LeO.none _)
   | (with_reducible refine LeO.ite ?_ ?_)
   | (with_reducible refine LeO.bind ?_ (fun _ => ?_))
   | exact ih0 _ _
   | exact ih1 _ _ _
   | exact ih2 _ _ _
   | exact Qav.mono _ _
   | exact Qbe.mono _ _ _
   | exact LeO.none _
   | refine LeO.ite ?_ ?_
   | refine LeO.bind ?_ (fun _ => ?_)
theorem Qap.mono : ∀ a0 k, LeO (Qap.f k a0) (Qap.f (k + 1) a0) := by
 intro a0 k
 obtain ⟨ih0, ih1, ih2⟩ := Qap.mono_l k
 unfold Qap.f
 repeat' first
   | (with_reducible exact ih0 _ _)
   | (with_reducible exact ih1 _ _ _)
   | (with_reducible exact ih2 _ _ _)
   | (with_reducible exact Qav.mono _ _)
   | (with_reducible exact Qbe.mono _ _ _)
   | (with_reducible exact LeO.refl _)
   | (with_reducible exact LeO.none _)
   | (with_reducible refine LeO.ite ?_ ?_)
   | (with_reducible refine LeO.bind ?_ (fun _ => ?_))
   | exact ih0 _ _
   | exact ih1 _ _ _
   | exact ih2 _ _ _
   | exact Qav.mono _ _
   | exact Qbe.mono _ _ _
   | exact LeO.none _
   | refine LeO.ite ?_ ?_
   | refine LeO.bind ?_ (fun _ => ?_)
def Qap.T8 : Bool × List (List Nat × List Nat) := (true, [([], []), ([0], [0]), ([1], [1]), ([2], [2]), ([2], [2]), ([4, 2], [2, 4]), ([3, 5, 2], [2, 3, 5]), ([6, 2], [2, 6]), ([2], [2]), ([2], [2]), ([8, 9, 2], [2, 8, 9]), ([10, 2], [2, 10]), ([7, 11, 2, 2], [2, 7, 11]), ([12, 2], [2, 12]), ([2, 13], [2, 13])])
def Qap.B8 : List Nat := [0, 1, 3, 7, 7, 23, 63, 127, 7, 7, 775, 1799, 4095, 8191, 16383]
theorem Qap.tab8 : rtab .any (opsOf Try.f66 8) = Qap.T8 := by kernel_rfl
theorem Qap.bits8 : Qb6 Qap.T8.2 Qap.B8 = true := by kernel_rfl
set_option maxHeartbeats 8000000 in
set_option maxRecDepth 100000 in
theorem Qap.calls (k : Nat) (A0 : Option Addr) (c0 : Nat) (l0 : List (S46)) (r : Int) (w : World) (hr0 : Kd.C k46 w A0 l0.length l0) (hc0 : l0.length ≤ c0) (h : Qap.f k l0 = some r) :
  Calls Try.prog 66 #[.slice A0 l0.length c0] w fun e w' => e = .returned (.int .i64 r) ∧ Below w.heap.size w w' := by
 have hu44 := Try.underlying44
 have hu46 := Try.underlying46
 have HR0 := Aside0.mk hr0
 have HC0 := Aside0.mk hc0
 clear hr0 hc0
 have HB := Aside0.mk (Below.refl w.heap.size w)
 have H : (if (l0.length : Int) > 1024 then (some 8) else (Qap.l0 k l0 0)) = some r := h
 clear h
 by_cases c2 : (l0.length : Int) > 1024
 ·rw [if_pos c2] at H
  have c2b0 : decide (1024 < (l0.length : Int)) = true := decide_eq_true c2
  have c2b1 : decide (1024 < l0.length) = true := decide_eq_true (by omega)
  clear c2
  obtain rfl := Option.some.inj H
  go_enter Try.func66, Try.ntmps66
  go_wp2
  go_ret
  exact ⟨Zq, Zb⟩
 ·rw [if_neg c2] at H
  have c2b0 : decide (1024 < (l0.length : Int)) = false := decide_eq_false c2
  have c2b1 : decide (1024 < l0.length) = false := decide_eq_false (by omega)
  clear c2
  have H' := Aside0.mk H
  clear H
  go_enter Try.func66, Try.ntmps66
  go_wp2
  go_loopg [3] k (fun kq v3 w' => ∃ (x3_1 : Int), v3 = .int .i64 x3_1 ∧ Aside0 (Qap.l0 kq l0 x3_1 = some r) ∧ Aside0 (kq ≤ k) ∧ Aside0 (Below w.heap.size w w'))
  case atStart => exact ⟨(0), (Zs), H', ⟨Nat.le_refl _⟩, ⟨Zb⟩⟩
  case round =>
   clear H'
   try clear c2
   try clear c2b0
   try clear c2b1
   try clear p2
   obtain ⟨x3_1, rfl, HA, HK1, HB⟩ := hrel
   cases gk with
   | zero => exact absurd HA.out (by simp [Qap.l0])
   | succ k1 =>
    have H := HA.out
    clear HA
    simp only [Qap.l0] at H
    by_cases c3 : x3_1 < (l0.length : Int)
    ·rw [if_pos c3] at H
     have c3b0 : decide (x3_1 < (l0.length : Int)) = true := decide_eq_true c3
     clear c3
     (try simp only [c3b0])
     have HC4 := Aside0.mk H
     clear H
     go_upto_region 6 with (fail)
     go_cut [28] (fun v28 wc => ∃ (kq : Nat) (x28_3 : Bool), v28 = .bool x28_3 ∧ Aside0 (Qap.j1 kq l0 x3_1 x28_3 = some r) ∧ Aside0 (kq ≤ k1) ∧ Aside0 (Below w.heap.size w wc))
     case first =>
      have H := HC4.out
      clear HC4
      by_cases c5 : 0 ≤ x3_1
      ·rw [if_pos c5] at H
       have c5b0 : decide (0 ≤ x3_1) = true := decide_eq_true c5
       clear c5
       replace H := Option.bind_eq_some_iff.mp H
       obtain ⟨t393, A60, H⟩ := H
       replace H : (if t393 = true then ((Qav.f k1 ((rd_T46 l0 x3_1).f1)).bind fun t395 => (Qap.j1 k1 l0 x3_1 (!t395))) else (Qap.j1 k1 l0 x3_1 true)) = some r := H
       have A6 := Aside0.mk A60
       clear A60
       by_cases c7 : t393 = true
       ·subst c7
        have H1 : ((Qav.f k1 ((rd_T46 l0 x3_1).f1)).bind fun t395 => (Qap.j1 k1 l0 x3_1 (!t395))) = some r := by rw [if_pos rfl] at H; exact H
        clear H
        have H := H1
        clear H1
        replace H := Option.bind_eq_some_iff.mp H
        obtain ⟨t395, A80, H⟩ := H
        replace H : (Qap.j1 k1 l0 x3_1 (!t395)) = some r := H
        have A8 := Aside0.mk A80
        clear A80
        have H' := Aside0.mk H
        clear H
        have p392 : 0 ≤ (x3_1 : Int) := Ze
        have q392 : x3_1 < (l0.length : Int) := Ze
        obtain ⟨ad392, e392, hx392_0, hx392_1, hx392_2, hx392_3⟩ := at_T46 HR0.out x3_1 p392 q392
        cases e392
        replace hx392_0 := (HB.out.cell (World.block_lt_of_cell? w _ hx392_0)).trans hx392_0
        replace hx392_1 := (HB.out.cell (World.block_lt_of_cell? w _ hx392_1)).trans hx392_1
        replace hx392_2 := (HB.out.cell (World.block_lt_of_cell? w _ hx392_2)).trans hx392_2
        replace hx392_3 := (HB.out.cell (World.block_lt_of_cell? w _ hx392_3)).trans hx392_3
        replace p392 := eq_true p392
        replace q392 := eq_true q392
        go_wp2_with (first | ((with_reducible refine Qaw (f := 98) rfl ?_); refine goesL_ (some 18) rfl rfl Try.func98 (by kernel_rfl) rfl #[.agg #[.string ((rd_T46 l0 x3_1).f0.f0), .string ((rd_T46 l0 x3_1).f0.f1)]] rfl (Zl) ?_; (with_reducible refine (Qbe.calls k1 ((rd_T46 l0 x3_1).f0.f0) ((rd_T46 l0 x3_1).f0.f1) true _ A6.out).mono ?_); rintro e w9 ⟨rfl, hb⟩; refine ⟨_, rfl, ?_⟩; have n0_ := Aside0.mk (Qao (Zb) hb); clear HB; have HB := n0_; clear n0_; (try clear hb); (try clear hb2); (try clear hk); (try clear hi); have p394 : 0 ≤ (x3_1 : Int) := Ze; have q394 : x3_1 < (l0.length : Int) := Ze; obtain ⟨ad394, e394, hx394_0, hx394_1, hx394_2, hx394_3⟩ := at_T46 HR0.out x3_1 p394 q394; obtain rfl : ad392 = ad394 := (by injection e394); replace hx394_0 := (HB.out.cell (World.block_lt_of_cell? w _ hx394_0)).trans hx394_0; replace hx394_1 := (HB.out.cell (World.block_lt_of_cell? w _ hx394_1)).trans hx394_1; replace hx394_2 := (HB.out.cell (World.block_lt_of_cell? w _ hx394_2)).trans hx394_2; replace hx394_3 := (HB.out.cell (World.block_lt_of_cell? w _ hx394_3)).trans hx394_3; replace p394 := eq_true p394; replace q394 := eq_true q394) | (go_at_call 99; (with_reducible refine (Qav.calls k1 ((rd_T46 l0 x3_1).f1) t395 _ A8.out).mono ?_); rintro e w' ⟨rfl, ⟨nd, rfl⟩⟩))
        go_meet
        case rel => exact ⟨_, (!t395), (Zs), H', ⟨by have := HK1.out; first | omega | exact Nat.le_refl _⟩, ⟨Zb⟩⟩
       ·replace c7 := Bool.eq_false_iff.mpr c7
        subst c7
        have H1 : (Qap.j1 k1 l0 x3_1 true) = some r := by rw [if_neg (show ¬ (false = true) by decide)] at H; exact H
        clear H
        have H := H1
        clear H1
        have H' := Aside0.mk H
        clear H
        have p392 : 0 ≤ (x3_1 : Int) := Ze
        have q392 : x3_1 < (l0.length : Int) := Ze
        obtain ⟨ad392, e392, hx392_0, hx392_1, hx392_2, hx392_3⟩ := at_T46 HR0.out x3_1 p392 q392
        cases e392
        replace hx392_0 := (HB.out.cell (World.block_lt_of_cell? w _ hx392_0)).trans hx392_0
        replace hx392_1 := (HB.out.cell (World.block_lt_of_cell? w _ hx392_1)).trans hx392_1
        replace hx392_2 := (HB.out.cell (World.block_lt_of_cell? w _ hx392_2)).trans hx392_2
        replace hx392_3 := (HB.out.cell (World.block_lt_of_cell? w _ hx392_3)).trans hx392_3
        replace p392 := eq_true p392
        replace q392 := eq_true q392
        go_wp2_with (first | ((with_reducible refine Qaw (f := 98) rfl ?_); refine goesL_ (some 18) rfl rfl Try.func98 (by kernel_rfl) rfl #[.agg #[.string ((rd_T46 l0 x3_1).f0.f0), .string ((rd_T46 l0 x3_1).f0.f1)]] rfl (Zl) ?_; (with_reducible refine (Qbe.calls k1 ((rd_T46 l0 x3_1).f0.f0) ((rd_T46 l0 x3_1).f0.f1) false _ A6.out).mono ?_); rintro e w10 ⟨rfl, hb⟩; refine ⟨_, rfl, ?_⟩; have n0_ := Aside0.mk (Qao (Zb) hb); clear HB; have HB := n0_; clear n0_; (try clear hb); (try clear hb2); (try clear hk); (try clear hi)))
        go_meet
        case rel => exact ⟨_, (true), (Zs), H', ⟨by have := HK1.out; first | omega | exact Nat.le_refl _⟩, ⟨Zb⟩⟩
      ·rw [if_neg c5] at H
       exact absurd H (by simp)
     case rest =>
      clear HC4
      try clear c2
      try clear c2b0
      try clear c2b1
      try clear p2
      try clear c3
      try clear c3b0
      try clear p3
      try clear q3
      try clear hx3
      try clear c5
      try clear c5b0
      try clear c6
      try clear c7
      try clear c9
      try clear hx392_0
      try clear hx392_1
      try clear hx392_2
      try clear hx392_3
      try clear hx394_0
      try clear hx394_1
      try clear hx394_2
      try clear hx394_3
      try clear p2
      try clear p392
      try clear p394
      try clear q392
      try clear q394
      obtain ⟨kq, x28_3, rfl, HA, HJ3, HB⟩ := hcut
      cases kq with
      | zero => exact absurd HA.out (by simp [Qap.j1])
      | succ kj3 =>
       have H := HA.out
       clear HA
       simp only [Qap.j1] at H
       by_cases c11 : x28_3 = true
       ·subst c11
        have H1 : (some 10) = some r := by rw [if_pos rfl] at H; exact H
        clear H
        have H := H1
        clear H1
        obtain rfl := Option.some.inj H
        go_wp2
        go_ret
        exact ⟨Zq, Zb⟩
       ·replace c11 := Bool.eq_false_iff.mpr c11
        subst c11
        have H1 : (if x3_1 > 0 then (if 0 ≤ (wrap64 (x3_1 - 1)) then (if (wrap64 (x3_1 - 1)) < (l0.length : Int) then (if 0 ≤ x3_1 then (if x3_1 < (l0.length : Int) then ((QbF.f ((rd_T46 l0 (wrap64 (x3_1 - 1))).f0.f0) ((rd_T46 l0 (wrap64 (x3_1 - 1))).f0.f1) ((rd_T46 l0 (wrap64 (x3_1 - 1))).f1) ((rd_T46 l0 (wrap64 (x3_1 - 1))).f2) ((rd_T46 l0 x3_1).f0.f0) ((rd_T46 l0 x3_1).f0.f1) ((rd_T46 l0 x3_1).f1) ((rd_T46 l0 x3_1).f2)).bind fun t398 => (Qap.j2 kj3 l0 x3_1 (!t398))) else (none)) else (none)) else (none)) else (none)) else (Qap.j2 kj3 l0 x3_1 false)) = some r := by rw [if_neg (show ¬ (false = true) by decide)] at H; exact H
        clear H
        have H := H1
        clear H1
        have HC12 := Aside0.mk H
        clear H
        go_upto_region 8 with (fail)
        go_cut [43] (fun v43 wc => ∃ (kq : Nat) (x43_11 : Bool), v43 = .bool x43_11 ∧ Aside0 (Qap.j2 kq l0 x3_1 x43_11 = some r) ∧ Aside0 (kq ≤ kj3) ∧ Aside0 (Below w.heap.size w wc))
        case first =>
         have H := HC12.out
         clear HC12
         by_cases c13 : x3_1 > 0
         ·rw [if_pos c13] at H
          have c13b0 : decide (0 < x3_1) = true := decide_eq_true c13
          clear c13
          (first | rw [c13b0] | (simp only [i64_w, i32_w]; rw [c13b0]) | skip)
          obtain ⟨ji14, hji14⟩ : ∃ j_ : Int, (wrap64 (x3_1 - 1)) = j_ := ⟨_, rfl⟩
          replace H : (if 0 ≤ (ji14) then (if (ji14) < (l0.length : Int) then (if 0 ≤ x3_1 then (if x3_1 < (l0.length : Int) then ((QbF.f ((rd_T46 l0 (ji14)).f0.f0) ((rd_T46 l0 (ji14)).f0.f1) ((rd_T46 l0 (ji14)).f1) ((rd_T46 l0 (ji14)).f2) ((rd_T46 l0 x3_1).f0.f0) ((rd_T46 l0 x3_1).f0.f1) ((rd_T46 l0 x3_1).f1) ((rd_T46 l0 x3_1).f2)).bind fun t398 => (Qap.j2 kj3 l0 x3_1 (!t398))) else (none)) else (none)) else (none)) else (none)) = some r := by first | (rw [hji14] at H; exact H) | (simp only [hji14] at H ⊢; exact H)
          have hji14w : (IntKind.i64.wrap (x3_1 - 1)) = ji14 := (i64_w _).trans hji14
          by_cases c15 : 0 ≤ (ji14)
          ·rw [if_pos c15] at H
           have c15b0 : decide (0 ≤ (ji14)) = true := decide_eq_true c15
           clear c15
           by_cases c16 : (ji14) < (l0.length : Int)
           ·rw [if_pos c16] at H
            have c16b0 : decide ((ji14) < (l0.length : Int)) = true := decide_eq_true c16
            clear c16
            by_cases c17 : 0 ≤ x3_1
            ·rw [if_pos c17] at H
             have c17b0 : decide (0 ≤ x3_1) = true := decide_eq_true c17
             clear c17
             by_cases c18 : x3_1 < (l0.length : Int)
             ·rw [if_pos c18] at H
              have c18b0 : decide (x3_1 < (l0.length : Int)) = true := decide_eq_true c18
              clear c18
              replace H := Option.bind_eq_some_iff.mp H
              obtain ⟨t398, A190, H⟩ := H
              replace H : (Qap.j2 kj3 l0 x3_1 (!t398)) = some r := H
              have A19 := Aside0.mk A190
              clear A190
              have H' := Aside0.mk H
              clear H
              try go_wp2
              have n0_ := Aside0.mk (Qae HB.out)
              clear HB
              have HB := n0_
              clear n0_
              have p396 : 0 ≤ ((ji14) : Int) := Ze
              have q396 : (ji14) < (l0.length : Int) := Ze
              obtain ⟨ad396, e396, hx396_0, hx396_1, hx396_2, hx396_3⟩ := at_T46 HR0.out (ji14) p396 q396
              have hw396_3 := hx396_3
              have hw396_2 := hx396_2
              have hw396_1 := hx396_1
              have hw396_0 := hx396_0
              cases e396
              replace hx396_0 := (HB.out.cell (World.block_lt_of_cell? w _ hx396_0)).trans hx396_0
              replace hx396_1 := (HB.out.cell (World.block_lt_of_cell? w _ hx396_1)).trans hx396_1
              replace hx396_2 := (HB.out.cell (World.block_lt_of_cell? w _ hx396_2)).trans hx396_2
              replace hx396_3 := (HB.out.cell (World.block_lt_of_cell? w _ hx396_3)).trans hx396_3
              replace p396 := eq_true p396
              replace q396 := eq_true q396
              have p397 : 0 ≤ (x3_1 : Int) := Ze
              have q397 : x3_1 < (l0.length : Int) := Ze
              obtain ⟨ad397, e397, hx397_0, hx397_1, hx397_2, hx397_3⟩ := at_T46 HR0.out x3_1 p397 q397
              have hw397_3 := hx397_3
              have hw397_2 := hx397_2
              have hw397_1 := hx397_1
              have hw397_0 := hx397_0
              obtain rfl : ad396 = ad397 := (by injection e397)
              replace hx397_0 := (HB.out.cell (World.block_lt_of_cell? w _ hx397_0)).trans hx397_0
              replace hx397_1 := (HB.out.cell (World.block_lt_of_cell? w _ hx397_1)).trans hx397_1
              replace hx397_2 := (HB.out.cell (World.block_lt_of_cell? w _ hx397_2)).trans hx397_2
              replace hx397_3 := (HB.out.cell (World.block_lt_of_cell? w _ hx397_3)).trans hx397_3
              replace p397 := eq_true p397
              replace q397 := eq_true q397
              refine start_ (n := 15) (S := fun w' => w'.cell? (ad396.add (((ji14)).toNat * 4)) = some (.string ((rd_T46 l0 (ji14)).f0.f0)) ∧ w'.cell? ⟨(ad396.add (((ji14)).toNat * 4)).block, (ad396.add (((ji14)).toNat * 4)).off + 1, none⟩ = some (.string ((rd_T46 l0 (ji14)).f0.f1)) ∧ w'.cell? ⟨(ad396.add (((ji14)).toNat * 4)).block, (ad396.add (((ji14)).toNat * 4)).off + 2, none⟩ = some (.string ((rd_T46 l0 (ji14)).f1)) ∧ w'.cell? ⟨(ad396.add (((ji14)).toNat * 4)).block, (ad396.add (((ji14)).toNat * 4)).off + 3, none⟩ = some (.int .i64 ((rd_T46 l0 (ji14)).f2)) ∧ w'.cell? (ad396.add ((x3_1).toNat * 4)) = some (.string ((rd_T46 l0 x3_1).f0.f0)) ∧ w'.cell? ⟨(ad396.add ((x3_1).toNat * 4)).block, (ad396.add ((x3_1).toNat * 4)).off + 1, none⟩ = some (.string ((rd_T46 l0 x3_1).f0.f1)) ∧ w'.cell? ⟨(ad396.add ((x3_1).toNat * 4)).block, (ad396.add ((x3_1).toNat * 4)).off + 2, none⟩ = some (.string ((rd_T46 l0 x3_1).f1)) ∧ w'.cell? ⟨(ad396.add ((x3_1).toNat * 4)).block, (ad396.add ((x3_1).toNat * 4)).off + 3, none⟩ = some (.int .i64 ((rd_T46 l0 x3_1).f2))) (ds := []) #[false, false, false, false, false, false, false, false, false, false, false, false, false, false, false] (by kernel_rfl) rfl rfl ⟨((HB.out.cell (World.block_lt_of_cell? w _ hw396_0)).trans hw396_0), ((HB.out.cell (World.block_lt_of_cell? w _ hw396_1)).trans hw396_1), ((HB.out.cell (World.block_lt_of_cell? w _ hw396_2)).trans hw396_2), ((HB.out.cell (World.block_lt_of_cell? w _ hw396_3)).trans hw396_3), ((HB.out.cell (World.block_lt_of_cell? w _ hw397_0)).trans hw397_0), ((HB.out.cell (World.block_lt_of_cell? w _ hw397_1)).trans hw397_1), ((HB.out.cell (World.block_lt_of_cell? w _ hw397_2)).trans hw397_2), ((HB.out.cell (World.block_lt_of_cell? w _ hw397_3)).trans hw397_3)⟩ (fun hHeld => ?_); refine Qb3 Qap.tab8 Qap.bits8 (fun HT_ HW_ => ?_)
              generalize wc.drew = w20 at HB hx396_0 hx396_1 hx396_2 hx396_3 hx397_0 hx397_1 hx397_2 hx397_3 hHeld ⊢
              refine pure_ (i := 0) (N := some 29) (v := ?_) (a' := ?_) #[true, false, false, false, false, false, false, false, false, false, false, false, false, false, false] rfl rfl (any_of HT_.out (by kernel_rfl)) (fun _ _ _ h => h) (Or.inl ⟨by rfl, ?_⟩) ?_ ?_
              rotate_left
              ·intro w'
               go_simp
               with_reducible rfl
              rotate_left
              ·simp only [Act.put, List.setIfInBounds_toArray, List.set_cons_zero, List.set_cons_succ, i64_w, i32_w]
               rfl
              refine pure_ (i := 1) (N := some 30) (v := ?_) (a' := ?_) #[true, true, false, false, false, false, false, false, false, false, false, false, false, false, false] rfl rfl (any_of HT_.out (by kernel_rfl)) (fun _ _ _ h => h) (Or.inl ⟨by rfl, ?_⟩) ?_ ?_
              rotate_left
              ·intro w'
               go_simp
               with_reducible rfl
              rotate_left
              ·simp only [Act.put, List.setIfInBounds_toArray, List.set_cons_zero, List.set_cons_succ, i64_w, i32_w]
               rfl
              refine pure_ (i := 2) (N := some 31) (v := ?_) (a' := ?_) #[true, true, true, false, false, false, false, false, false, false, false, false, false, false, false] rfl rfl (any_of HT_.out (by kernel_rfl)) (fun _ _ _ h => h) (Or.inl ⟨by rfl, ?_⟩) ?_ ?_
              rotate_left
              ·intro w'
               go_simp
               with_reducible rfl
              rotate_left
              ·simp only [Act.put, List.setIfInBounds_toArray, List.set_cons_zero, List.set_cons_succ, i64_w, i32_w]
               rfl
              refine pure_ (i := 3) (N := some 32) (v := ?_) (a' := ?_) #[true, true, true, true, false, false, false, false, false, false, false, false, false, false, false] rfl rfl (any_of HT_.out (by kernel_rfl)) (fun _ _ _ h => h) (Or.inl ⟨by rfl, ?_⟩) ?_ ?_
              rotate_left
              ·intro w'
               go_simp
               with_reducible rfl
              rotate_left
              ·simp only [Act.put, List.setIfInBounds_toArray, List.set_cons_zero, List.set_cons_succ, i64_w, i32_w]
               rfl
              refine pure_ (i := 4) (N := some 33) (v := ?_) (a' := ?_) #[true, true, true, true, true, false, false, false, false, false, false, false, false, false, false] rfl rfl (any_of HT_.out (by kernel_rfl)) (fun _ _ _ h => h) (Or.inl ⟨by rfl, ?_⟩) ?_ ?_
              rotate_left
              ·intro w'
               go_simp
               with_reducible rfl
              rotate_left
              ·simp only [Act.put, List.setIfInBounds_toArray, List.set_cons_zero, List.set_cons_succ, i64_w, i32_w]
               rfl
              refine pure_ (i := 5) (N := some 34) (v := ?_) (a' := ?_) #[true, true, true, true, true, true, false, false, false, false, false, false, false, false, false] rfl rfl (any_of HT_.out (by kernel_rfl)) (fun _ _ _ h => h) (Or.inl ⟨by rfl, ?_⟩) ?_ ?_
              rotate_left
              ·intro w'
               go_simp
               with_reducible rfl
              rotate_left
              ·simp only [Act.put, List.setIfInBounds_toArray, List.set_cons_zero, List.set_cons_succ, i64_w, i32_w]
               rfl
              refine pure_ (i := 6) (N := some 35) (v := ?_) (a' := ?_) #[true, true, true, true, true, true, true, false, false, false, false, false, false, false, false] rfl rfl (any_of HT_.out (by kernel_rfl)) (fun _ _ _ h => h) (Or.inl ⟨by rfl, ?_⟩) ?_ ?_
              rotate_left
              ·intro w'
               go_simp
               with_reducible rfl
              rotate_left
              ·simp only [Act.put, List.setIfInBounds_toArray, List.set_cons_zero, List.set_cons_succ, i64_w, i32_w]
               rfl
              refine pure_ (i := 8) (N := some 37) (v := ?_) (a' := ?_) #[true, true, true, true, true, true, true, false, true, false, false, false, false, false, false] rfl rfl (any_of HT_.out (by kernel_rfl)) (fun _ _ _ h => h) (Or.inl ⟨by rfl, ?_⟩) ?_ ?_
              rotate_left
              ·intro w'
               go_simp
               with_reducible rfl
              rotate_left
              ·simp only [Act.put, List.setIfInBounds_toArray, List.set_cons_zero, List.set_cons_succ, i64_w, i32_w]
               rfl
              refine pure_ (i := 9) (N := some 38) (v := ?_) (a' := ?_) #[true, true, true, true, true, true, true, false, true, true, false, false, false, false, false] rfl rfl (any_of HT_.out (by kernel_rfl)) (fun _ _ _ h => h) (Or.inl ⟨by rfl, ?_⟩) ?_ ?_
              rotate_left
              ·intro w'
               go_simp
               with_reducible rfl
              rotate_left
              ·simp only [Act.put, List.setIfInBounds_toArray, List.set_cons_zero, List.set_cons_succ, i64_w, i32_w]
               rfl
              refine pure_ (i := 10) (N := some 39) (v := ?_) (a' := ?_) #[true, true, true, true, true, true, true, false, true, true, true, false, false, false, false] rfl rfl (any_of HT_.out (by kernel_rfl)) (fun _ _ _ h => h) (Or.inl ⟨by rfl, ?_⟩) ?_ ?_
              rotate_left
              ·intro w'
               go_simp
               with_reducible rfl
              rotate_left
              ·simp only [Act.put, List.setIfInBounds_toArray, List.set_cons_zero, List.set_cons_succ, i64_w, i32_w]
               rfl
              refine take_ (i := 7) (N := some 36) (v := ?_) (a' := ?_) #[true, true, true, true, true, true, true, true, true, true, true, false, false, false, false] rfl rfl (QbT HT_.out HW_.out (by kernel_rfl)) (fun _ _ _ h => h) (Or.inl ⟨by rfl, ?_⟩) hHeld ?_ ?_
              rotate_left
              ·rintro w' ⟨s0, s1, s2, s3, s4, s5, s6, s7⟩
               go_simp
               with_reducible rfl
              rotate_left
              ·simp only [Act.put, List.setIfInBounds_toArray, List.set_cons_zero, List.set_cons_succ, i64_w, i32_w]
               rfl
              refine take_ (i := 11) (N := some 40) (v := ?_) (a' := ?_) #[true, true, true, true, true, true, true, true, true, true, true, true, false, false, false] rfl rfl (QbT HT_.out HW_.out (by kernel_rfl)) (fun _ _ _ h => h) (Or.inl ⟨by rfl, ?_⟩) hHeld ?_ ?_
              rotate_left
              ·rintro w' ⟨s0, s1, s2, s3, s4, s5, s6, s7⟩
               go_simp
               with_reducible rfl
              rotate_left
              ·simp only [Act.put, List.setIfInBounds_toArray, List.set_cons_zero, List.set_cons_succ, i64_w, i32_w]
               rfl
              refine one_ (i := 12) (N := some 41) #[true, true, true, true, true, true, true, true, true, true, true, true, true, false, false] rfl rfl (one_of HT_.out (by kernel_rfl)) (by decide) (fun K hK => ?_)
              refine goes_ Try.func100 (by kernel_rfl) rfl #[.agg #[.string ((rd_T46 l0 (ji14)).f0.f0), .string ((rd_T46 l0 (ji14)).f0.f1), .string ((rd_T46 l0 (ji14)).f1), .int .i64 ((rd_T46 l0 (ji14)).f2)], .agg #[.string ((rd_T46 l0 x3_1).f0.f0), .string ((rd_T46 l0 x3_1).f0.f1), .string ((rd_T46 l0 x3_1).f1), .int .i64 ((rd_T46 l0 x3_1).f2)]] (by rfl) rfl rfl (by (try simp only [List.map_toArray, List.map_cons, List.map_nil]); first | done | (simp only [hji14]; rfl) | rfl | (simp only [List.length_drop, List.length_take]; rfl)) ?_
              with_reducible refine (QbF.calls ((rd_T46 l0 (ji14)).f0.f0) ((rd_T46 l0 (ji14)).f0.f1) ((rd_T46 l0 (ji14)).f1) ((rd_T46 l0 (ji14)).f2) ((rd_T46 l0 x3_1).f0.f0) ((rd_T46 l0 x3_1).f0.f1) ((rd_T46 l0 x3_1).f1) ((rd_T46 l0 x3_1).f2) t398 _ A19.out).mono ?_
              rintro e w21 ⟨rfl, hb⟩
              refine ⟨_, rfl, ?_⟩
              have n0_ := Aside0.mk (Qao (Zb) hb)
              clear HB
              have HB := n0_
              clear n0_
              (try clear hb)
              (try clear hb2)
              (try clear hk)
              (try clear hi)
              refine hK.out _ _ ⟨((HB.out.cell (World.block_lt_of_cell? w _ hw396_0)).trans hw396_0), ((HB.out.cell (World.block_lt_of_cell? w _ hw396_1)).trans hw396_1), ((HB.out.cell (World.block_lt_of_cell? w _ hw396_2)).trans hw396_2), ((HB.out.cell (World.block_lt_of_cell? w _ hw396_3)).trans hw396_3), ((HB.out.cell (World.block_lt_of_cell? w _ hw397_0)).trans hw397_0), ((HB.out.cell (World.block_lt_of_cell? w _ hw397_1)).trans hw397_1), ((HB.out.cell (World.block_lt_of_cell? w _ hw397_2)).trans hw397_2), ((HB.out.cell (World.block_lt_of_cell? w _ hw397_3)).trans hw397_3)⟩ (fun hHeld => ?_)
              clear hK K
              refine norm_ (a' := ?_) ?_ ?_
              rotate_left
              ·show Act.put _ (some 41) _ = _
               simp only [Act.put, List.setIfInBounds_toArray, List.set_cons_zero, List.set_cons_succ, i64_w, i32_w]
               rfl
              refine pure_ (i := 13) (N := some 42) (v := ?_) (a' := ?_) #[true, true, true, true, true, true, true, true, true, true, true, true, true, true, false] rfl rfl (any_of HT_.out (by kernel_rfl)) (fun _ _ _ h => h) (Or.inl ⟨by rfl, ?_⟩) ?_ ?_
              rotate_left
              ·intro w'
               go_simp
               with_reducible rfl
              rotate_left
              ·simp only [Act.put, List.setIfInBounds_toArray, List.set_cons_zero, List.set_cons_succ, i64_w, i32_w]
               rfl
              refine pure_ (i := 14) (N := some 43) (v := ?_) (a' := ?_) #[true, true, true, true, true, true, true, true, true, true, true, true, true, true, true] rfl rfl (any_of HT_.out (by kernel_rfl)) (fun _ _ _ h => h) (Or.inl ⟨by rfl, ?_⟩) ?_ ?_
              rotate_left
              ·intro w'
               go_simp
               with_reducible rfl
              rotate_left
              ·simp only [Act.put, List.setIfInBounds_toArray, List.set_cons_zero, List.set_cons_succ, i64_w, i32_w]
               rfl
              refine done_ (Qcf HT_.out (by kernel_rfl)) ?_
              try go_wp2
              go_meet
              case rel => exact ⟨_, (!t398), (Zs), H', ⟨by have := HK1.out; have := HJ3.out; first | omega | exact Nat.le_refl _⟩, ⟨Zb⟩⟩
             ·rw [if_neg c18] at H
              exact absurd H (by simp)
            ·rw [if_neg c17] at H
             exact absurd H (by simp)
           ·rw [if_neg c16] at H
            exact absurd H (by simp)
          ·rw [if_neg c15] at H
           exact absurd H (by simp)
         ·rw [if_neg c13] at H
          have c13b0 : decide (0 < x3_1) = false := decide_eq_false c13
          clear c13
          (first | rw [c13b0] | (simp only [i64_w, i32_w]; rw [c13b0]) | skip)
          have H' := Aside0.mk H
          clear H
          try go_wp2
          have n0_ := Aside0.mk (Qae HB.out)
          clear HB
          have HB := n0_
          clear n0_
          refine start_ (n := 15) (S := fun w' => True) (ds := []) #[false, false, false, false, false, false, false, false, false, false, false, false, false, false, false] (by kernel_rfl) rfl rfl trivial (fun hHeld => ?_); refine Qb3 Qap.tab8 Qap.bits8 (fun HT_ HW_ => ?_)
          generalize wc.drew = w22 at HB hHeld ⊢
          refine pure_ (i := 0) (N := some 29) (v := ?_) (a' := ?_) #[true, false, false, false, false, false, false, false, false, false, false, false, false, false, false] rfl rfl (any_of HT_.out (by kernel_rfl)) (fun _ _ _ h => h) (Or.inl ⟨by rfl, ?_⟩) ?_ ?_
          rotate_left
          ·intro w'
           go_simp
           with_reducible rfl
          rotate_left
          ·simp only [Act.put, List.setIfInBounds_toArray, List.set_cons_zero, List.set_cons_succ, i64_w, i32_w]
           rfl
          refine pure_ (i := 1) (N := some 30) (v := ?_) (a' := ?_) #[true, true, false, false, false, false, false, false, false, false, false, false, false, false, false] rfl rfl (any_of HT_.out (by kernel_rfl)) (fun _ _ _ h => h) (Or.inl ⟨by rfl, ?_⟩) ?_ ?_
          rotate_left
          ·intro w'
           go_simp
           with_reducible rfl
          rotate_left
          ·simp only [Act.put, List.setIfInBounds_toArray, List.set_cons_zero, List.set_cons_succ, i64_w, i32_w]
           rfl
          refine pure_ (i := 2) (N := some 31) (v := ?_) (a' := ?_) #[true, true, true, false, false, false, false, false, false, false, false, false, false, false, false] rfl rfl (any_of HT_.out (by kernel_rfl)) (fun _ _ _ h => h) (Or.inl ⟨by rfl, ?_⟩) ?_ ?_
          rotate_left
          ·intro w'
           go_simp
           with_reducible rfl
          rotate_left
          ·simp only [Act.put, List.setIfInBounds_toArray, List.set_cons_zero, List.set_cons_succ, i64_w, i32_w]
           rfl
          refine pure_ (i := 3) (N := some 32) (v := undef) (a' := ?_) #[true, true, true, true, false, false, false, false, false, false, false, false, false, false, false] rfl rfl (any_of HT_.out (by kernel_rfl)) (fun _ _ _ h => h) (Or.inr ⟨by rfl, rfl⟩) ?_ ?_
          rotate_left
          ·simp only [Act.put, List.setIfInBounds_toArray, List.set_cons_zero, List.set_cons_succ, i64_w, i32_w]
           rfl
          refine pure_ (i := 4) (N := some 33) (v := undef) (a' := ?_) #[true, true, true, true, true, false, false, false, false, false, false, false, false, false, false] rfl rfl (any_of HT_.out (by kernel_rfl)) (fun _ _ _ h => h) (Or.inr ⟨by rfl, rfl⟩) ?_ ?_
          rotate_left
          ·simp only [Act.put, List.setIfInBounds_toArray, List.set_cons_zero, List.set_cons_succ, i64_w, i32_w]
           rfl
          refine pure_ (i := 5) (N := some 34) (v := undef) (a' := ?_) #[true, true, true, true, true, true, false, false, false, false, false, false, false, false, false] rfl rfl (any_of HT_.out (by kernel_rfl)) (fun _ _ _ h => h) (Or.inr ⟨by rfl, rfl⟩) ?_ ?_
          rotate_left
          ·simp only [Act.put, List.setIfInBounds_toArray, List.set_cons_zero, List.set_cons_succ, i64_w, i32_w]
           rfl
          refine pure_ (i := 6) (N := some 35) (v := undef) (a' := ?_) #[true, true, true, true, true, true, true, false, false, false, false, false, false, false, false] rfl rfl (any_of HT_.out (by kernel_rfl)) (fun _ _ _ h => h) (Or.inr ⟨by rfl, rfl⟩) ?_ ?_
          rotate_left
          ·simp only [Act.put, List.setIfInBounds_toArray, List.set_cons_zero, List.set_cons_succ, i64_w, i32_w]
           rfl
          refine pure_ (i := 7) (N := some 36) (v := undef) (a' := ?_) #[true, true, true, true, true, true, true, true, false, false, false, false, false, false, false] rfl rfl (any_of HT_.out (by kernel_rfl)) (fun _ _ _ h => h) (Or.inr ⟨by rfl, rfl⟩) ?_ ?_
          rotate_left
          ·simp only [Act.put, List.setIfInBounds_toArray, List.set_cons_zero, List.set_cons_succ, i64_w, i32_w]
           rfl
          refine pure_ (i := 8) (N := some 37) (v := undef) (a' := ?_) #[true, true, true, true, true, true, true, true, true, false, false, false, false, false, false] rfl rfl (any_of HT_.out (by kernel_rfl)) (fun _ _ _ h => h) (Or.inr ⟨by rfl, rfl⟩) ?_ ?_
          rotate_left
          ·simp only [Act.put, List.setIfInBounds_toArray, List.set_cons_zero, List.set_cons_succ, i64_w, i32_w]
           rfl
          refine pure_ (i := 9) (N := some 38) (v := undef) (a' := ?_) #[true, true, true, true, true, true, true, true, true, true, false, false, false, false, false] rfl rfl (any_of HT_.out (by kernel_rfl)) (fun _ _ _ h => h) (Or.inr ⟨by rfl, rfl⟩) ?_ ?_
          rotate_left
          ·simp only [Act.put, List.setIfInBounds_toArray, List.set_cons_zero, List.set_cons_succ, i64_w, i32_w]
           rfl
          refine pure_ (i := 10) (N := some 39) (v := undef) (a' := ?_) #[true, true, true, true, true, true, true, true, true, true, true, false, false, false, false] rfl rfl (any_of HT_.out (by kernel_rfl)) (fun _ _ _ h => h) (Or.inr ⟨by rfl, rfl⟩) ?_ ?_
          rotate_left
          ·simp only [Act.put, List.setIfInBounds_toArray, List.set_cons_zero, List.set_cons_succ, i64_w, i32_w]
           rfl
          refine pure_ (i := 11) (N := some 40) (v := undef) (a' := ?_) #[true, true, true, true, true, true, true, true, true, true, true, true, false, false, false] rfl rfl (any_of HT_.out (by kernel_rfl)) (fun _ _ _ h => h) (Or.inr ⟨by rfl, rfl⟩) ?_ ?_
          rotate_left
          ·simp only [Act.put, List.setIfInBounds_toArray, List.set_cons_zero, List.set_cons_succ, i64_w, i32_w]
           rfl
          refine pure_ (i := 12) (N := some 41) (v := undef) (a' := ?_) #[true, true, true, true, true, true, true, true, true, true, true, true, true, false, false] rfl rfl (any_of HT_.out (by kernel_rfl)) (fun _ _ _ h => h) (Or.inr ⟨by rfl, rfl⟩) ?_ ?_
          rotate_left
          ·simp only [Act.put, List.setIfInBounds_toArray, List.set_cons_zero, List.set_cons_succ, i64_w, i32_w]
           rfl
          refine pure_ (i := 13) (N := some 42) (v := undef) (a' := ?_) #[true, true, true, true, true, true, true, true, true, true, true, true, true, true, false] rfl rfl (any_of HT_.out (by kernel_rfl)) (fun _ _ _ h => h) (Or.inr ⟨by rfl, rfl⟩) ?_ ?_
          rotate_left
          ·simp only [Act.put, List.setIfInBounds_toArray, List.set_cons_zero, List.set_cons_succ, i64_w, i32_w]
           rfl
          refine pure_ (i := 14) (N := some 43) (v := ?_) (a' := ?_) #[true, true, true, true, true, true, true, true, true, true, true, true, true, true, true] rfl rfl (any_of HT_.out (by kernel_rfl)) (fun _ _ _ h => h) (Or.inl ⟨by rfl, ?_⟩) ?_ ?_
          rotate_left
          ·intro w'
           go_simp
           with_reducible rfl
          rotate_left
          ·simp only [Act.put, List.setIfInBounds_toArray, List.set_cons_zero, List.set_cons_succ, i64_w, i32_w]
           rfl
          refine done_ (Qcf HT_.out (by kernel_rfl)) ?_
          try go_wp2
          go_meet
          case rel => exact ⟨_, (false), (Zs), H', ⟨by have := HK1.out; have := HJ3.out; first | omega | exact Nat.le_refl _⟩, ⟨Zb⟩⟩
        case rest =>
         clear HC12
         try clear c1
         try clear c2
         try clear c2b0
         try clear c2b1
         try clear p2
         try clear c3
         try clear c3b0
         try clear p3
         try clear q3
         try clear hx3
         try clear c5
         try clear c5b0
         try clear c6
         try clear p6
         try clear c7
         try clear c9
         try clear c10
         try clear c11
         try clear c13
         try clear c13b0
         try clear c15
         try clear c15b0
         try clear c16
         try clear c16b0
         try clear c17
         try clear c17b0
         try clear c18
         try clear c18b0
         try clear hx392_0
         try clear hx392_1
         try clear hx392_2
         try clear hx392_3
         try clear hx394_0
         try clear hx394_1
         try clear hx394_2
         try clear hx394_3
         try clear hx396_0
         try clear hx396_1
         try clear hx396_2
         try clear hx396_3
         try clear hx397_0
         try clear hx397_1
         try clear hx397_2
         try clear hx397_3
         try clear p2
         try clear p3
         try clear p392
         try clear p394
         try clear p396
         try clear p397
         try clear q3
         try clear q392
         try clear q394
         try clear q396
         try clear q397
         obtain ⟨kq, x43_11, rfl, HA, HJ11, HB⟩ := hcut
         cases kq with
         | zero => exact absurd HA.out (by simp [Qap.j2])
         | succ kj11 =>
          have H := HA.out
          clear HA
          simp only [Qap.j2] at H
          by_cases c23 : x43_11 = true
          ·subst c23
           have H1 : (some 12) = some r := by rw [if_pos rfl] at H; exact H
           clear H
           have H := H1
           clear H1
           obtain rfl := Option.some.inj H
           go_wp2
           go_ret
           exact ⟨Zq, Zb⟩
          ·replace c23 := Bool.eq_false_iff.mpr c23
           subst c23
           have H1 : (if 0 ≤ x3_1 then (if x3_1 < (l0.length : Int) then ((QbQ.f ((rd_T46 l0 x3_1).f2)).bind fun t400 => (if t400 = true then (Qap.l0 kj11 l0 (wrap64 (x3_1 + 1))) else (some 18))) else (none)) else (none)) = some r := by rw [if_neg (show ¬ (false = true) by decide)] at H; exact H
           clear H
           have H := H1
           clear H1
           by_cases c24 : 0 ≤ x3_1
           ·rw [if_pos c24] at H
            have c24b0 : decide (0 ≤ x3_1) = true := decide_eq_true c24
            clear c24
            (try simp only [c24b0])
            by_cases c25 : x3_1 < (l0.length : Int)
            ·rw [if_pos c25] at H
             have c25b0 : decide (x3_1 < (l0.length : Int)) = true := decide_eq_true c25
             clear c25
             replace H := Option.bind_eq_some_iff.mp H
             obtain ⟨t400, A260, H⟩ := H
             replace H : (if t400 = true then (Qap.l0 kj11 l0 (wrap64 (x3_1 + 1))) else (some 18)) = some r := H
             have A26 := Aside0.mk A260
             clear A260
             have p399 : 0 ≤ (x3_1 : Int) := Ze
             have q399 : x3_1 < (l0.length : Int) := Ze
             obtain ⟨ad399, e399, hx399_0, hx399_1, hx399_2, hx399_3⟩ := at_T46 HR0.out x3_1 p399 q399
             cases e399
             replace hx399_0 := (HB.out.cell (World.block_lt_of_cell? w _ hx399_0)).trans hx399_0
             replace hx399_1 := (HB.out.cell (World.block_lt_of_cell? w _ hx399_1)).trans hx399_1
             replace hx399_2 := (HB.out.cell (World.block_lt_of_cell? w _ hx399_2)).trans hx399_2
             replace hx399_3 := (HB.out.cell (World.block_lt_of_cell? w _ hx399_3)).trans hx399_3
             replace p399 := eq_true p399
             replace q399 := eq_true q399
             go_upto_if 50 with (first | ((with_reducible refine Qaw (f := 101) rfl ?_); refine goesL_ (some 49) rfl rfl Try.func101 (by kernel_rfl) rfl #[.int .i64 ((rd_T46 l0 x3_1).f2)] rfl (Zl) ?_; (with_reducible refine (QbQ.calls ((rd_T46 l0 x3_1).f2) t400 _ A26.out).mono ?_); rintro e w' ⟨rfl, ⟨nd, rfl⟩⟩; refine ⟨_, rfl, ?_⟩))
             (try simp only [Act.put, List.setIfInBounds_toArray, List.set_cons_zero, List.set_cons_succ])
             by_cases c27 : t400 = true
             ·subst c27
              have H1 : (Qap.l0 kj11 l0 (wrap64 (x3_1 + 1))) = some r := by rw [if_pos rfl] at H; exact H
              clear H
              have H := H1
              clear H1
              have H' := Aside0.mk H
              clear H
              go_wp2
              go_roundg kj11
              case measure => have := HK1.out; have := HJ3.out; have := HJ11.out; omega
              case rel => exact ⟨(wrap64 (x3_1 + 1)), (Zs), H', ⟨by have := HK1.out; have := HJ3.out; have := HJ11.out; omega⟩, ⟨Zb⟩⟩
             ·replace c27 := Bool.eq_false_iff.mpr c27
              subst c27
              have H1 : (some 18) = some r := by rw [if_neg (show ¬ (false = true) by decide)] at H; exact H
              clear H
              have H := H1
              clear H1
              obtain rfl := Option.some.inj H
              go_wp2
              go_ret
              exact ⟨Zq, Zb⟩
            ·rw [if_neg c25] at H
             exact absurd H (by simp)
           ·rw [if_neg c24] at H
            exact absurd H (by simp)
    ·rw [if_neg c3] at H
     have c3b0 : decide (x3_1 < (l0.length : Int)) = false := decide_eq_false c3
     clear c3
     (try simp only [c3b0])
     obtain rfl := Option.some.inj H
     go_wp2
     go_ret
     exact ⟨Zq, Zb⟩
theorem Qcz (d : Nat) (w : World) (x0 x1 x2 x3 y0 y1 y2 y3 : Int) : (Op.equalIn (d + 2) 74 (.agg #[.int .i64 x0, .int .i64 x1, .int .i64 x2, .int .i64 x3]) (.agg #[.int .i64 y0, .int .i64 y1, .int .i64 y2, .int .i64 y3])).run Try.prog w = .ok (x0 == y0 && (x1 == y1 && (x2 == y2 && (x3 == y3)))) w := by
 have hs : (sizeOf 3 : Sem Nat).run Try.prog w = .ok 1 w := by go_simp
 have he : ∀ a b : Int, (Op.equalIn (d + 1) 3 (.int .i64 a) (.int .i64 b)).run Try.prog w = .ok (a == b) w := fun a b => by go_simp
 have p0 : ∀ (z0 z1 z2 z3 : Int), (part 3 #[.int .i64 z0, .int .i64 z1, .int .i64 z2, .int .i64 z3] 0).run Try.prog w = .ok (.int .i64 z0) w := fun z0 z1 z2 z3 => by go_simp
 have p1 : ∀ (z0 z1 z2 z3 : Int), (part 3 #[.int .i64 z0, .int .i64 z1, .int .i64 z2, .int .i64 z3] 1).run Try.prog w = .ok (.int .i64 z1) w := fun z0 z1 z2 z3 => by go_simp
 have p2 : ∀ (z0 z1 z2 z3 : Int), (part 3 #[.int .i64 z0, .int .i64 z1, .int .i64 z2, .int .i64 z3] 2).run Try.prog w = .ok (.int .i64 z2) w := fun z0 z1 z2 z3 => by go_simp
 have p3 : ∀ (z0 z1 z2 z3 : Int), (part 3 #[.int .i64 z0, .int .i64 z1, .int .i64 z2, .int .i64 z3] 3).run Try.prog w = .ok (.int .i64 z3) w := fun z0 z1 z2 z3 => by go_simp
 show (Op.equalIn ((d + 1) + 1) 74 _ _).run Try.prog w = _
 revert he
 generalize d + 1 = D
 intro he
 simp only [Op.equalIn, Sem.run_bind, run_underlying Try.underlying74, Result.andThen_ok, hs]
 simp only [Std.Legacy.Range.forIn_eq_forIn_range', Std.Legacy.Range.size, Nat.sub_zero, Nat.add_one_sub_one, Nat.div_one, List.range', List.forIn_cons, List.forIn_nil, Nat.mul_one, Nat.zero_add, Nat.reduceAdd, Sem.run_bind, p0, p1, p2, p3, he, Result.andThen_ok]
 cases h0 : (x0 == y0) <;> cases h1 : (x1 == y1) <;> cases h2 : (x2 == y2) <;> cases h3 : (x3 == y3) <;> simp [p0, p1, p2, p3, he, h0, h1, h2, h3]
attribute [local go_sem] Qcz
end Go.Proofs.Ytfcaaefdmabkhaa.Pr
