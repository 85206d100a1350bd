/- Functions' values and contracts, as the print wrote them. -/
import Derived.Test.YtgnmhfjfefgbfaaQ10EP0
import Derived.Test.YtgnmhfjfefgbfaaQ10EP5
namespace Go.Proofs.Ytgnmhfjfefgbfaa.Pr
open Go.RowKit Go.Proofs.YtgnmhfjfefgbfaaW.PrintWords Go.Proofs.YtgnmhfjfefgbfaaW.PrintLast Go.Proofs.YtgnmhfjfefgbfaaW.PrintMore
attribute [local go_sem] QaO QaQ QaU QaV QaK QaL QaP QaR   -- for this text's walks alone
set_option linter.unusedVariables false
set_option linter.unusedSimpArgs false
def Qaz.f (k : Nat)  : Option (Bool) := (QaE.f k 2600 1000 9).bind fun bt621 => ((Qak.f k (([(⟨(⟨(⟨#[111, 105, 108]⟩ : ByteArray), 1, 9, 0⟩ : S69), 1, 0⟩ : S71)] : List (S71))) 3).bind fun bt626 => (if bt621.1 = (-3) then (if bt621.2 = 0 then (if (bt626.1.length : Int) = 1 then (some (bt626.2 == 0)) else (some false)) else (some false)) else (some false)))
theorem Qaz.mono : ∀ k, LeO (Qaz.f k ) (Qaz.f (k + 1) ) := by
 intro  k
 unfold Qaz.f
 exact ZM2 QaE.mono Qak.mono
set_option maxHeartbeats 8000000 in
set_option maxRecDepth 100000 in
theorem Qaz.calls (k : Nat)  (r : Bool) (w : World) (h : Qaz.f k  = some r) :
  Calls Try.prog 22 #[] w fun e w' => e = .returned (.bool r) ∧ Below w.heap.size w w' := by
 have hu69 := Try.underlying69
 have hu71 := Try.underlying71
 have HB := Aside0.mk (Below.refl w.heap.size w)
 have H : ((QaE.f k 2600 1000 9).bind fun bt621 => ((Qak.f k (([(⟨(⟨(⟨#[111, 105, 108]⟩ : ByteArray), 1, 9, 0⟩ : S69), 1, 0⟩ : S71)] : List (S71))) 3).bind fun bt626 => (if bt621.1 = (-3) then (if bt621.2 = 0 then (if (bt626.1.length : Int) = 1 then (some (bt626.2 == 0)) else (some false)) else (some false)) else (some false)))) = some r := h
 clear h
 replace H := Option.bind_eq_some_iff.mp H
 obtain ⟨⟨t621, t622⟩, A10, H⟩ := H
 replace H : ((Qak.f k (([(⟨(⟨(⟨#[111, 105, 108]⟩ : ByteArray), 1, 9, 0⟩ : S69), 1, 0⟩ : S71)] : List (S71))) 3).bind fun bt626 => (if t621 = (-3) then (if t622 = 0 then (if (bt626.1.length : Int) = 1 then (some (bt626.2 == 0)) else (some false)) else (some false)) else (some false))) = some r := H
 have A1 := Aside0.mk A10
 clear A10
 obtain ⟨y623, hy623⟩ : ∃ y_ : List (S71), y_ = (([(⟨(⟨(⟨#[111, 105, 108]⟩ : ByteArray), 1, 9, 0⟩ : S69), 1, 0⟩ : S71)] : List (S71))) := ⟨_, rfl⟩
 replace H : ((Qak.f k y623 3).bind fun bt626 => (if t621 = (-3) then (if t622 = 0 then (if (bt626.1.length : Int) = 1 then (some (bt626.2 == 0)) else (some false)) else (some false)) else (some false))) = some r := by first | (rw [hy623]; with_reducible exact H) | (have H2_ := (Option.bind_some _ _).symm.trans H; rw [hy623]; with_reducible exact H2_) | (have H2_ := (Option.bind_some _ _).symm.trans H; with_reducible exact H2_) | with_reducible exact H | (rw [hy623]; exact H) | exact H
 have Ny623 := Aside0.mk hy623
 clear hy623
 replace H := Option.bind_eq_some_iff.mp H
 obtain ⟨⟨t626, t627⟩, A20, H⟩ := H
 replace H : (if t621 = (-3) then (if t622 = 0 then (if (t626.length : Int) = 1 then (some (t627 == 0)) else (some false)) else (some false)) else (some false)) = some r := H
 have A2 := Aside0.mk A20
 clear A20
 go_enter Try.func22, Try.ntmps22
 go_upto_region 3 with (first | ((with_reducible refine QaF (f := 70) rfl ?_); refine goesL_ (some 6) rfl rfl Try.func70 (by kernel_rfl) rfl #[.int .i64 2600, .int .i64 1000, .int .i64 9] rfl (Zl) ?_; (with_reducible refine (QaE.calls k 2600 1000 9 t621 t622 _ A1.out).mono ?_); rintro e w3 ⟨rfl, hb⟩; refine ⟨_, rfl, ?_⟩; replace HB := Aside0.mk (Qav (Zb) hb); (try clear hb); (try clear hb2); (try clear hk); (try clear hi)) | ((with_reducible refine QaX (N := 12) rfl ?_); (try (refine Qbu (by rfl) ?_; dsimp only)); refine Kd.R_lit k71 _ 71 ?hg (N := 12) ?hd (xs := ([(⟨(⟨(⟨#[111, 105, 108]⟩ : ByteArray), 1, 9, 0⟩ : S69), 1, 0⟩ : S71)] : List (S71))) (inner := [.string (⟨#[111, 105, 108]⟩ : ByteArray), .int .i64 1, .int .i64 9, .int .i64 0, .int .i64 1, .int .i64 0]) (ok := fun _ => True) (okp := fun _ => True) ?hr ?hp (fun _ hk => hk) trivial (Below.refl _ _) (Nat.le_refl _) (by simp) ?_; (case hd => rfl); (case hg => rfl); (case hr => first | (go_simp; done) | (go_simp; rfl)); (case hp => exact (Reps.c6 (show Kd.M k71 _ _ _ (⟨(⟨(⟨#[111, 105, 108]⟩ : ByteArray), 1, 9, 0⟩ : S69), 1, 0⟩ : S71) [.string (⟨#[111, 105, 108]⟩ : ByteArray), .int .i64 1, .int .i64 9, .int .i64 0, .int .i64 1, .int .i64 0] from (Qbx _ _ _ (⟨(⟨(⟨#[111, 105, 108]⟩ : ByteArray), 1, 9, 0⟩ : S69), 1, 0⟩ : S71) )) (Reps.none _ _))); intro v624 w4 ho5 hb hg_ hnew_; clear hg_ hnew_; (first | rw [← Ny623.out] at ho5 | (simp only [Int.reduceToNat] at ho5; rw [← Ny623.out] at ho5)); have HO625 := Aside0.mk (Kd.R_lower ho5 (Qau (Zb))); replace HB := Aside0.mk (Qav (Zb) hb); clear hb ho5; obtain ⟨Ao6, co6, eo6⟩ := Kd.R_slice HO625.out; subst eo6) | ((with_reducible refine QaF (f := 26) rfl ?_); refine goesL_ (some 13) rfl rfl Try.func26 (by kernel_rfl) rfl #[.slice Ao6 y623.length co6, .int .i64 3] rfl (Zl) ?_; (with_reducible refine (Qak.calls k _ _ y623 3 t626 t627 _ ?side1 ?side2 A2.out).mono ?_); (case side1 => exact Zv (Kd.R_reads' HO625.out).2.2); (case side2 => exact (Kd.R_reads' HO625.out).2.1); rintro e w7 ⟨v628, rfl, ho0, hb⟩; refine ⟨_, rfl, ?_⟩; have HO629 := Aside0.mk (Kd.S_lower (Kd.S_new' ho0 (Kd.R_lt (Zr HO625.out))) (Qau (Zb))); replace HO625 := Aside0.mk (Kd.R_below (Zr HO625.out) hb); replace HB := Aside0.mk (Qav (Zb) hb); (try clear hb); (try clear hb2); (try clear hk); (try clear hi); (try clear ho0)))
 (try simp only [Act.put, Zj, Zk, Zm])
 by_cases c8 : t621 = (-3)
 ·rw [if_pos c8] at H
  have c8b0 : (t621 == (-3)) = true := beq_iff_eq.mpr c8
  have c8b1 : (t621 != (-3)) = false := bne_eq_false_iff_eq.mpr c8
  clear c8
  (try simp only [c8b0, c8b1])
  by_cases c9 : t622 = 0
  ·rw [if_pos c9] at H
   have c9b0 : (t622 == 0) = true := beq_iff_eq.mpr c9
   have c9b1 : (t622 != 0) = false := bne_eq_false_iff_eq.mpr c9
   clear c9
   by_cases c10 : (t626.length : Int) = 1
   ·rw [if_pos c10] at H
    have c10b0 : ((t626.length : Int) == 1) = true := beq_iff_eq.mpr c10
    have c10b1 : ((t626.length : Int) != 1) = false := bne_eq_false_iff_eq.mpr c10
    clear c10
    obtain rfl := Option.some.inj H
    obtain ⟨Ao11, co11, eo11⟩ := Kd.S_slice HO629.out
    subst eo11
    go_wp2
    go_ret
    exact ⟨Zq, Zb⟩
   rw [if_neg c10] at H
   have c10b0 : ((t626.length : Int) == 1) = false := beq_eq_false_iff_ne.mpr c10
   have c10b1 : ((t626.length : Int) != 1) = true := bne_iff_ne.mpr c10
   obtain rfl := Option.some.inj H
   obtain ⟨Ao12, co12, eo12⟩ := Kd.S_slice HO629.out
   subst eo12
   go_wp2
   go_ret
   exact ⟨Zq, Zb⟩
  rw [if_neg c9] at H
  have c9b0 : (t622 == 0) = false := beq_eq_false_iff_ne.mpr c9
  have c9b1 : (t622 != 0) = true := bne_iff_ne.mpr c9
  obtain rfl := Option.some.inj H
  go_wp2
  go_ret
  exact ⟨Zq, Zb⟩
 rw [if_neg c8] at H
 have c8b0 : (t621 == (-3)) = false := beq_eq_false_iff_ne.mpr c8
 have c8b1 : (t621 != (-3)) = true := bne_iff_ne.mpr c8
 (try simp only [c8b0, c8b1])
 obtain rfl := Option.some.inj H
 go_wp2
 go_ret
 exact ⟨Zq, Zb⟩
end Go.Proofs.Ytgnmhfjfefgbfaa.Pr
