/- Functions' values and contracts, as the print wrote them. -/
import Derived.Test.YtaembbndjpebhaaQBF7P0
import Derived.Test.YtaembbndjpebhaaQBF7P1
namespace Go.Proofs.Ytaembbndjpebhaa.Pr
open Bool renaming true → T
open Bool renaming false → F
open Go.RowKit Go.Proofs.YtaembbndjpebhaaW.PrintWords Go.Proofs.YtaembbndjpebhaaW.PrintLast Go.Proofs.YtaembbndjpebhaaW.PrintMore
attribute [local go_sem] QaK QaM QaQ QaR QaI QaJ QaL QaN   -- for this text's walks alone
set_option linter.unusedVariables false
set_option linter.unusedSimpArgs false
set_option maxRecDepth 100000
set_option maxHeartbeats 8000000
attribute [local go_sem high] eqA56
def Qag.f (k : Nat)  : Option (Bool) := (some (([(⟨10, 100, T⟩ : S56), (⟨15, 0, F⟩ : S56), (⟨20, 121, T⟩ : S56)] : List (S56)) : List (S56))).bind fun y268 => ((QaC.f k y268 5 5).bind fun bt271 => ((QaC.f k y268 15 5).bind fun bt273 => ((QaC.f k y268 30 5).bind fun bt275 => ((Qau.f k y268 5).bind fun bt277 => (if bt271.1 = 100 then (if bt273.1 = 110 then (if bt275.1 = 121 then (if bt271.2 = 0 then (if bt273.2 = 0 then (if bt275.2 = 0 then (if bt277.2 = 0 then (if (bt277.1.length : Int) = 3 then (if 1 < (bt277.1.length : Int) then (some (((rd_T56 bt277.1 1).f0) == 15 && (((rd_T56 bt277.1 1).f1) == 110 && (((rd_T56 bt277.1 1).f2))))) else (none)) else (some F)) else (some F)) else (some F)) else (some F)) else (some F)) else (some F)) else (some F)) else (some F))))))
theorem Qag.mono : ∀ k, LeO (Qag.f k ) (Qag.f (k + 1) ) := by
 intro  k
 unfold Qag.f
 exact ZM2 QaC.mono Qau.mono
theorem Qag.calls (k : Nat)  (r : Bool) (w : World) (h : Qag.f k  = some r) :
  Calls Try.prog 28 #[] w fun e w' => e = .returned (.bool r) ∧ Below w.heap.size w w' := by
 have hu56 := Try.underlying56
 have HB := Aside0.mk (Below.refl w.heap.size w)
 have H : ((some (([(⟨10, 100, T⟩ : S56), (⟨15, 0, F⟩ : S56), (⟨20, 121, T⟩ : S56)] : List (S56)) : List (S56))).bind fun y268 => ((QaC.f k y268 5 5).bind fun bt271 => ((QaC.f k y268 15 5).bind fun bt273 => ((QaC.f k y268 30 5).bind fun bt275 => ((Qau.f k y268 5).bind fun bt277 => (if bt271.1 = 100 then (if bt273.1 = 110 then (if bt275.1 = 121 then (if bt271.2 = 0 then (if bt273.2 = 0 then (if bt275.2 = 0 then (if bt277.2 = 0 then (if (bt277.1.length : Int) = 3 then (if 1 < (bt277.1.length : Int) then (some (((rd_T56 bt277.1 1).f0) == 15 && (((rd_T56 bt277.1 1).f1) == 110 && (((rd_T56 bt277.1 1).f2))))) else (none)) else (some F)) else (some F)) else (some F)) else (some F)) else (some F)) else (some F)) else (some F)) else (some F))))))) = some r := h
 clear h
 obtain ⟨y268, hy268⟩ : ∃ y_ : List (S56), y_ = (([(⟨10, 100, T⟩ : S56), (⟨15, 0, F⟩ : S56), (⟨20, 121, T⟩ : S56)] : List (S56))) := ⟨_, rfl⟩
 replace H : ((QaC.f k y268 5 5).bind fun bt271 => ((QaC.f k y268 15 5).bind fun bt273 => ((QaC.f k y268 30 5).bind fun bt275 => ((Qau.f k y268 5).bind fun bt277 => (if bt271.1 = 100 then (if bt273.1 = 110 then (if bt275.1 = 121 then (if bt271.2 = 0 then (if bt273.2 = 0 then (if bt275.2 = 0 then (if bt277.2 = 0 then (if (bt277.1.length : Int) = 3 then (if 1 < (bt277.1.length : Int) then (some (((rd_T56 bt277.1 1).f0) == 15 && (((rd_T56 bt277.1 1).f1) == 110 && (((rd_T56 bt277.1 1).f2))))) else (none)) else (some F)) else (some F)) else (some F)) else (some F)) else (some F)) else (some F)) else (some F)) else (some F)))))) = some r := by first | (rw [hy268]; with_reducible exact H) | (have H2_ := (Option.bind_some _ _).symm.trans H; rw [hy268]; with_reducible exact H2_) | (have H2_ := (Option.bind_some _ _).symm.trans H; with_reducible exact H2_) | with_reducible exact H | (rw [hy268]; exact H) | exact H
 have Ny268 := Aside0.mk hy268
 clear hy268
 replace H := Option.bind_eq_some_iff.mp H
 obtain ⟨⟨t271, t272⟩, A10, H⟩ := H
 replace H : ((QaC.f k y268 15 5).bind fun bt273 => ((QaC.f k y268 30 5).bind fun bt275 => ((Qau.f k y268 5).bind fun bt277 => (if t271 = 100 then (if bt273.1 = 110 then (if bt275.1 = 121 then (if t272 = 0 then (if bt273.2 = 0 then (if bt275.2 = 0 then (if bt277.2 = 0 then (if (bt277.1.length : Int) = 3 then (if 1 < (bt277.1.length : Int) then (some (((rd_T56 bt277.1 1).f0) == 15 && (((rd_T56 bt277.1 1).f1) == 110 && (((rd_T56 bt277.1 1).f2))))) else (none)) else (some F)) else (some F)) else (some F)) else (some F)) else (some F)) else (some F)) else (some F)) else (some F))))) = some r := H
 have A1 := Aside0.mk A10
 clear A10
 replace H := Option.bind_eq_some_iff.mp H
 obtain ⟨⟨t273, t274⟩, A20, H⟩ := H
 replace H : ((QaC.f k y268 30 5).bind fun bt275 => ((Qau.f k y268 5).bind fun bt277 => (if t271 = 100 then (if t273 = 110 then (if bt275.1 = 121 then (if t272 = 0 then (if t274 = 0 then (if bt275.2 = 0 then (if bt277.2 = 0 then (if (bt277.1.length : Int) = 3 then (if 1 < (bt277.1.length : Int) then (some (((rd_T56 bt277.1 1).f0) == 15 && (((rd_T56 bt277.1 1).f1) == 110 && (((rd_T56 bt277.1 1).f2))))) else (none)) else (some F)) else (some F)) else (some F)) else (some F)) else (some F)) else (some F)) else (some F)) else (some F)))) = some r := H
 have A2 := Aside0.mk A20
 clear A20
 replace H := Option.bind_eq_some_iff.mp H
 obtain ⟨⟨t275, t276⟩, A30, H⟩ := H
 replace H : ((Qau.f k y268 5).bind fun bt277 => (if t271 = 100 then (if t273 = 110 then (if t275 = 121 then (if t272 = 0 then (if t274 = 0 then (if t276 = 0 then (if bt277.2 = 0 then (if (bt277.1.length : Int) = 3 then (if 1 < (bt277.1.length : Int) then (some (((rd_T56 bt277.1 1).f0) == 15 && (((rd_T56 bt277.1 1).f1) == 110 && (((rd_T56 bt277.1 1).f2))))) else (none)) else (some F)) else (some F)) else (some F)) else (some F)) else (some F)) else (some F)) else (some F)) else (some F))) = some r := H
 have A3 := Aside0.mk A30
 clear A30
 replace H := Option.bind_eq_some_iff.mp H
 obtain ⟨⟨t277, t278⟩, A40, H⟩ := H
 replace H : (if t271 = 100 then (if t273 = 110 then (if t275 = 121 then (if t272 = 0 then (if t274 = 0 then (if t276 = 0 then (if t278 = 0 then (if (t277.length : Int) = 3 then (if 1 < (t277.length : Int) then (some (((rd_T56 t277 1).f0) == 15 && (((rd_T56 t277 1).f1) == 110 && (((rd_T56 t277 1).f2))))) else (none)) else (some F)) else (some F)) else (some F)) else (some F)) else (some F)) else (some F)) else (some F)) else (some F)) = some r := H
 have A4 := Aside0.mk A40
 clear A40
 go_enter Try.func28, Try.ntmps28
 go_upto_region 6 with (first | ((with_reducible refine QaZ (N := 13) rfl ?_); (try (refine QbA (by rfl) ?_; dsimp only)); refine Kd.R_lit k56 _ 56 ?hg (N := 13) ?hd (xs := ([(⟨10, 100, T⟩ : S56), (⟨15, 0, F⟩ : S56), (⟨20, 121, T⟩ : S56)] : List (S56))) (inner := [.int .i64 10, .int .i64 100, .bool T, .int .i64 15, .int .i64 0, .bool F, .int .i64 20, .int .i64 121, .bool T]) (ok := fun _ => True) (okp := fun _ => True) ?hr ?hp (fun _ hk => hk) trivial (Below.refl _ _) (Nat.le_refl _) (by simp) ?_; (case hd => rfl); (case hg => rfl); (case hr => first | (go_simp; done) | (go_simp; rfl)); (case hp => exact (Reps.c3 (show Kd.M k56 _ _ _ (⟨10, 100, T⟩ : S56) [.int .i64 10, .int .i64 100, .bool T] from (Qa9 _ _ _ (⟨10, 100, T⟩ : S56) )) (Reps.c3 (show Kd.M k56 _ _ _ (⟨15, 0, F⟩ : S56) [.int .i64 15, .int .i64 0, .bool F] from (Qa9 _ _ _ (⟨15, 0, F⟩ : S56) )) (Reps.c3 (show Kd.M k56 _ _ _ (⟨20, 121, T⟩ : S56) [.int .i64 20, .int .i64 121, .bool T] from (Qa9 _ _ _ (⟨20, 121, T⟩ : S56) )) (Reps.none _ _))))); intro v269 w5 ho6 hb hg_ hnew_; clear hg_ hnew_; (first | rw [← Ny268.out] at ho6 | (simp only [Int.reduceToNat] at ho6; rw [← Ny268.out] at ho6)); have HO270 := Aside0.mk (Kd.R_lower ho6 (Qay (Zb))); replace HB := Aside0.mk (Qat (Zb) hb); clear hb ho6; obtain ⟨Ao7, co7, eo7⟩ := Kd.R_slice HO270.out; subst eo7) | ((with_reducible refine QaD (f := 29) rfl ?_); refine goesL_ (some 16) rfl rfl Try.func29 (by kernel_rfl) rfl #[.slice Ao7 y268.length co7, .int .i64 5, .int .i64 5] rfl (Zl) ?_; (with_reducible refine (QaC.calls k _ _ y268 5 5 t271 t272 _ ?side1 ?side2 A1.out).mono ?_); (case side1 => exact Zv (Kd.R_reads' HO270.out).2.2); (case side2 => exact (Kd.R_reads' HO270.out).2.1); rintro e w8 ⟨rfl, hb⟩; refine ⟨_, rfl, ?_⟩; replace HO270 := Aside0.mk (Kd.R_below (Zr HO270.out) hb); replace HB := Aside0.mk (Qat (Zb) hb); (try clear hb); (try clear hb2); (try clear hk); (try clear hi)) | ((with_reducible refine QaD (f := 29) rfl ?_); refine goesL_ (some 21) rfl rfl Try.func29 (by kernel_rfl) rfl #[.slice Ao7 y268.length co7, .int .i64 15, .int .i64 5] rfl (Zl) ?_; (with_reducible refine (QaC.calls k _ _ y268 15 5 t273 t274 _ ?side1 ?side2 A2.out).mono ?_); (case side1 => exact Zv (Kd.R_reads' HO270.out).2.2); (case side2 => exact (Kd.R_reads' HO270.out).2.1); rintro e w9 ⟨rfl, hb⟩; refine ⟨_, rfl, ?_⟩; replace HO270 := Aside0.mk (Kd.R_below (Zr HO270.out) hb); replace HB := Aside0.mk (Qat (Zb) hb); (try clear hb); (try clear hb2); (try clear hk); (try clear hi)) | ((with_reducible refine QaD (f := 29) rfl ?_); refine goesL_ (some 26) rfl rfl Try.func29 (by kernel_rfl) rfl #[.slice Ao7 y268.length co7, .int .i64 30, .int .i64 5] rfl (Zl) ?_; (with_reducible refine (QaC.calls k _ _ y268 30 5 t275 t276 _ ?side1 ?side2 A3.out).mono ?_); (case side1 => exact Zv (Kd.R_reads' HO270.out).2.2); (case side2 => exact (Kd.R_reads' HO270.out).2.1); rintro e w10 ⟨rfl, hb⟩; refine ⟨_, rfl, ?_⟩; replace HO270 := Aside0.mk (Kd.R_below (Zr HO270.out) hb); replace HB := Aside0.mk (Qat (Zb) hb); (try clear hb); (try clear hb2); (try clear hk); (try clear hi)) | ((with_reducible refine QaD (f := 35) rfl ?_); refine goesL_ (some 31) rfl rfl Try.func35 (by kernel_rfl) rfl #[.slice Ao7 y268.length co7, .int .i64 5] rfl (Zl) ?_; (with_reducible refine (Qau.calls k _ _ y268 5 t277 t278 _ ?side1 ?side2 A4.out).mono ?_); (case side1 => exact Zv (Kd.R_reads' HO270.out).2.2); (case side2 => exact (Kd.R_reads' HO270.out).2.1); rintro e w11 ⟨v279, rfl, ho0, hb⟩; refine ⟨_, rfl, ?_⟩; have HO280 := Aside0.mk (Kd.R_lower (Kd.R_new' ho0 (Kd.R_lt (Zr HO270.out))) (Qay (Zb))); replace HO270 := Aside0.mk (Kd.R_elder' (Zr HO270.out) (Kd.R_base ho0) hb); replace HB := Aside0.mk (Qat (Zb) hb); (try clear hb); (try clear hb2); (try clear hk); (try clear hi); (try clear ho0)))
 (try simp only [Act.put, Zj, Zk, Zm])
 by_cases c12 : t271 = 100
 ·rw [if_pos c12] at H
  have c12b0 : (t271 == 100) = T := beq_iff_eq.mpr c12
  have c12b1 : (t271 != 100) = F := bne_eq_false_iff_eq.mpr c12
  clear c12
  (try simp only [c12b0, c12b1])
  by_cases c13 : t273 = 110
  ·rw [if_pos c13] at H
   have c13b0 : (t273 == 110) = T := beq_iff_eq.mpr c13
   have c13b1 : (t273 != 110) = F := bne_eq_false_iff_eq.mpr c13
   clear c13
   by_cases c14 : t275 = 121
   ·rw [if_pos c14] at H
    have c14b0 : (t275 == 121) = T := beq_iff_eq.mpr c14
    have c14b1 : (t275 != 121) = F := bne_eq_false_iff_eq.mpr c14
    clear c14
    by_cases c15 : t272 = 0
    ·rw [if_pos c15] at H
     have c15b0 : (t272 == 0) = T := beq_iff_eq.mpr c15
     have c15b1 : (t272 != 0) = F := bne_eq_false_iff_eq.mpr c15
     clear c15
     by_cases c16 : t274 = 0
     ·rw [if_pos c16] at H
      have c16b0 : (t274 == 0) = T := beq_iff_eq.mpr c16
      have c16b1 : (t274 != 0) = F := bne_eq_false_iff_eq.mpr c16
      clear c16
      by_cases c17 : t276 = 0
      ·rw [if_pos c17] at H
       have c17b0 : (t276 == 0) = T := beq_iff_eq.mpr c17
       have c17b1 : (t276 != 0) = F := bne_eq_false_iff_eq.mpr c17
       clear c17
       by_cases c18 : t278 = 0
       ·rw [if_pos c18] at H
        have c18b0 : (t278 == 0) = T := beq_iff_eq.mpr c18
        have c18b1 : (t278 != 0) = F := bne_eq_false_iff_eq.mpr c18
        clear c18
        by_cases c19 : (t277.length : Int) = 3
        ·rw [if_pos c19] at H
         have c19b0 : ((t277.length : Int) == 3) = T := beq_iff_eq.mpr c19
         have c19b1 : ((t277.length : Int) != 3) = F := bne_eq_false_iff_eq.mpr c19
         clear c19
         by_cases c20 : 1 < (t277.length : Int)
         ·rw [if_pos c20] at H
          have c20b0 : decide (1 < (t277.length : Int)) = T := decide_eq_true c20
          have c20b1 : decide (1 < t277.length) = T := decide_eq_true (by omega)
          clear c20
          obtain rfl := Option.some.inj H
          obtain ⟨Ao21, co21, eo21⟩ := Kd.R_slice HO280.out
          subst eo21
          have p281 : 0 ≤ (1 : Int) := (by omega)
          have q281 : 1 < (t277.length : Int) := Ze
          obtain ⟨ad281, e281, hx281_0, hx281_1, hx281_2⟩ := at_T56 (Kd.R_reads' HO280.out).2.2 1 p281 q281
          cases e281
          (try simp only [show (1 : Int).toNat = 1 from rfl, Nat.reduceMul, Nat.reduceEqDiff, Go.Addr.add, ↓reduceIte] at hx281_0)
          (try simp only [show (1 : Int).toNat = 1 from rfl, Nat.reduceMul, Nat.reduceEqDiff, Go.Addr.add, ↓reduceIte] at hx281_1)
          (try simp only [show (1 : Int).toNat = 1 from rfl, Nat.reduceMul, Nat.reduceEqDiff, Go.Addr.add, ↓reduceIte] at hx281_2)
          have qi281 : (1 < t277.length) = True := eq_true (by omega)
          (try rw [show ((1 : Int)).toNat = 1 from rfl] at hx281_0)
          (try rw [show 1 * 3 = 3 from rfl] at hx281_0)
          (try rw [show ((1 : Int)).toNat = 1 from rfl] at hx281_1)
          (try rw [show 1 * 3 = 3 from rfl] at hx281_1)
          (try rw [show ((1 : Int)).toNat = 1 from rfl] at hx281_2)
          (try rw [show 1 * 3 = 3 from rfl] at hx281_2)
          replace p281 := eq_true p281
          replace q281 := eq_true q281
          go_wp2
          go_ret
          exact ⟨Zq, Zb⟩
         rw [if_neg c20] at H
         exact absurd H (by simp)
        rw [if_neg c19] at H
        have c19b0 : ((t277.length : Int) == 3) = F := beq_eq_false_iff_ne.mpr c19
        have c19b1 : ((t277.length : Int) != 3) = T := bne_iff_ne.mpr c19
        obtain rfl := Option.some.inj H
        obtain ⟨Ao22, co22, eo22⟩ := Kd.R_slice HO280.out
        subst eo22
        go_wp2
        go_ret
        exact ⟨Zq, Zb⟩
       rw [if_neg c18] at H
       have c18b0 : (t278 == 0) = F := beq_eq_false_iff_ne.mpr c18
       have c18b1 : (t278 != 0) = T := bne_iff_ne.mpr c18
       obtain rfl := Option.some.inj H
       go_wp2
       go_ret
       exact ⟨Zq, Zb⟩
      rw [if_neg c17] at H
      have c17b0 : (t276 == 0) = F := beq_eq_false_iff_ne.mpr c17
      have c17b1 : (t276 != 0) = T := bne_iff_ne.mpr c17
      obtain rfl := Option.some.inj H
      go_wp2
      go_ret
      exact ⟨Zq, Zb⟩
     rw [if_neg c16] at H
     have c16b0 : (t274 == 0) = F := beq_eq_false_iff_ne.mpr c16
     have c16b1 : (t274 != 0) = T := bne_iff_ne.mpr c16
     obtain rfl := Option.some.inj H
     go_wp2
     go_ret
     exact ⟨Zq, Zb⟩
    rw [if_neg c15] at H
    have c15b0 : (t272 == 0) = F := beq_eq_false_iff_ne.mpr c15
    have c15b1 : (t272 != 0) = T := bne_iff_ne.mpr c15
    obtain rfl := Option.some.inj H
    go_wp2
    go_ret
    exact ⟨Zq, Zb⟩
   rw [if_neg c14] at H
   have c14b0 : (t275 == 121) = F := beq_eq_false_iff_ne.mpr c14
   have c14b1 : (t275 != 121) = T := bne_iff_ne.mpr c14
   obtain rfl := Option.some.inj H
   go_wp2
   go_ret
   exact ⟨Zq, Zb⟩
  rw [if_neg c13] at H
  have c13b0 : (t273 == 110) = F := beq_eq_false_iff_ne.mpr c13
  have c13b1 : (t273 != 110) = T := bne_iff_ne.mpr c13
  obtain rfl := Option.some.inj H
  go_wp2
  go_ret
  exact ⟨Zq, Zb⟩
 rw [if_neg c12] at H
 have c12b0 : (t271 == 100) = F := beq_eq_false_iff_ne.mpr c12
 have c12b1 : (t271 != 100) = T := bne_iff_ne.mpr c12
 (try simp only [c12b0, c12b1])
 obtain rfl := Option.some.inj H
 go_wp2
 go_ret
 exact ⟨Zq, Zb⟩
def Qae.l0 : Nat → List (S56) → List (S56) → Int → Option (Bool)
 | 0, _, _, _ => none
 | k + 1, x0, x1, x5 => if x5 < (x0.length : Int) then (if 0 ≤ x5 then (if x5 < (x1.length : Int) then (if (!(((rd_T56 x0 x5).f0) == ((rd_T56 x1 x5).f0)) || (!(((rd_T56 x0 x5).f1) == ((rd_T56 x1 x5).f1)) || (!(((rd_T56 x0 x5).f2) == ((rd_T56 x1 x5).f2))))) = T then (some F) else (Qae.l0 k x0 x1 (wrap64 (x5 + 1)))) else (none)) else (none)) else (some T)
def Qae.f (k : Nat) (l0 : List (S56)) (l1 : List (S56)) : Option (Bool) := if (l0.length : Int) = (l1.length : Int) then (Qae.l0 k l0 l1 0) else (some F)
theorem Qae.mono_l : ∀ k, (∀ y0 y1 y2, LeO (Qae.l0 k y0 y1 y2) (Qae.l0 (k + 1) y0 y1 y2))
 | 0 => fun _ _ _ r h => by simp [Qae.l0] at h
 | k + 1 => by
  have ih0 := Qae.mono_l k
  intro y0 y1 y2
  unfold Qae.l0
  exact ZM1 ih0
theorem Qae.mono : ∀ a0 a1 k, LeO (Qae.f k a0 a1) (Qae.f (k + 1) a0 a1) := by
 intro a0 a1 k
 have ih0 := Qae.mono_l k
 unfold Qae.f
 exact ZM1 ih0
theorem Qae.calls (k : Nat) (A0 : Option Addr) (c0 : Nat) (l0 : List (S56)) (A1 : Option Addr) (c1 : Nat) (l1 : List (S56)) (r : Bool) (w : World) (hr0 : Kd.C k56 w A0 l0.length l0) (hc0 : l0.length ≤ c0) (hr1 : Kd.C k56 w A1 l1.length l1) (hc1 : l1.length ≤ c1) (h : Qae.f k l0 l1 = some r) :
  Calls Try.prog 33 #[.slice A0 l0.length c0, .slice A1 l1.length c1] w fun e w' => e = .returned (.bool r) ∧ Drawn0 w w' := by
 have hu56 := Try.underlying56
 have HR0 := Aside0.mk hr0
 have HC0 := Aside0.mk hc0
 clear hr0 hc0
 have HR1 := Aside0.mk hr1
 have HC1 := Aside0.mk hc1
 clear hr1 hc1
 have H : (if (l0.length : Int) = (l1.length : Int) then (Qae.l0 k l0 l1 0) else (some F)) = some r := h
 clear h
 by_cases c3 : (l0.length : Int) = (l1.length : Int)
 ·rw [if_pos c3] at H
  have c3b0 : ((l0.length : Int) == (l1.length : Int)) = T := beq_iff_eq.mpr c3
  have c3b1 : ((l0.length : Int) != (l1.length : Int)) = F := bne_eq_false_iff_eq.mpr c3
  have c3b2 : (l0.length == l1.length) = T := by first | simpa using c3 | (simp at c3 ⊢; omega)
  clear c3
  have H' := Aside0.mk H
  clear H
  go_enter Try.func33, Try.ntmps33
  go_wp2
  repeat (go_quiet (fail); try go_wp2)
  go_loopg [5] k (fun kq v5 w' => ∃ (x5_1 : Int), v5 = .int .i64 x5_1 ∧ Aside0 (Qae.l0 kq l0 l1 x5_1 = some r) ∧ Aside0 (kq ≤ k) ∧ Drawn0 w w')
  case atStart => exact ⟨(0), (Zs), H', ⟨Nat.le_refl _⟩, Zd⟩
  case round =>
   clear H'
   try clear c1
   try clear p2
   try clear c3
   try clear c3b0
   try clear c3b1
   try clear c3b2
   obtain ⟨x5_1, rfl, HA, HK1, ⟨m1, rfl⟩⟩ := hrel
   cases gk with
   | zero => exact absurd HA.out (by simp [Qae.l0])
   | succ k1 =>
    have H := HA.out
    clear HA
    simp only [Qae.l0] at H
    by_cases c4 : x5_1 < (l0.length : Int)
    ·rw [if_pos c4] at H
     have c4b0 : decide (x5_1 < (l0.length : Int)) = T := decide_eq_true c4
     clear c4
     (try simp only [c4b0])
     by_cases c5 : 0 ≤ x5_1
     ·rw [if_pos c5] at H
      have c5b0 : decide (0 ≤ x5_1) = T := decide_eq_true c5
      clear c5
      by_cases c6 : x5_1 < (l1.length : Int)
      ·rw [if_pos c6] at H
       have c6b0 : decide (x5_1 < (l1.length : Int)) = T := decide_eq_true c6
       clear c6
       have p307 : 0 ≤ (x5_1 : Int) := Ze
       have q307 : x5_1 < (l0.length : Int) := Ze
       obtain ⟨ad307, e307, hx307_0, hx307_1, hx307_2⟩ := at_T56 HR0.out x5_1 p307 q307
       cases e307
       replace p307 := eq_true p307
       replace q307 := eq_true q307
       have p308 : 0 ≤ (x5_1 : Int) := Ze
       have q308 : x5_1 < (l1.length : Int) := Ze
       obtain ⟨ad308, e308, hx308_0, hx308_1, hx308_2⟩ := at_T56 HR1.out x5_1 p308 q308
       cases e308
       replace p308 := eq_true p308
       replace q308 := eq_true q308
       go_upto_if 25 with (fail)
       repeat (go_quiet (fail); go_upto_if 25 with (fail))
       by_cases c7 : (!(((rd_T56 l0 x5_1).f0) == ((rd_T56 l1 x5_1).f0)) || (!(((rd_T56 l0 x5_1).f1) == ((rd_T56 l1 x5_1).f1)) || (!(((rd_T56 l0 x5_1).f2) == ((rd_T56 l1 x5_1).f2))))) = T
       ·rw [if_pos c7] at H
        have c7b0 : (!(((rd_T56 l0 x5_1).f0) == ((rd_T56 l1 x5_1).f0)) || (!(((rd_T56 l0 x5_1).f1) == ((rd_T56 l1 x5_1).f1)) || (!(((rd_T56 l0 x5_1).f2) == ((rd_T56 l1 x5_1).f2))))) = T := c7
        clear c7
        (try simp only [c7b0])
        obtain rfl := Option.some.inj H
        go_wp2
        repeat (go_quiet (fail); try go_wp2)
        go_ret
        exact ⟨Zs, Zd⟩
       rw [if_neg c7] at H
       have c7b0 : (!(((rd_T56 l0 x5_1).f0) == ((rd_T56 l1 x5_1).f0)) || (!(((rd_T56 l0 x5_1).f1) == ((rd_T56 l1 x5_1).f1)) || (!(((rd_T56 l0 x5_1).f2) == ((rd_T56 l1 x5_1).f2))))) = F := by simpa using c7
       clear c7
       (try simp only [c7b0])
       have H' := Aside0.mk H
       clear H
       go_wp2
       repeat (go_quiet (fail); try go_wp2)
       go_roundg k1
       case measure => have := HK1.out; omega
       case rel => exact ⟨(wrap64 (x5_1 + 1)), (Zs), H', ⟨by have := HK1.out; omega⟩, Zd⟩
      rw [if_neg c6] at H
      exact absurd H (by simp)
     rw [if_neg c5] at H
     exact absurd H (by simp)
    rw [if_neg c4] at H
    have c4b0 : decide (x5_1 < (l0.length : Int)) = F := decide_eq_false c4
    clear c4
    (try simp only [c4b0])
    obtain rfl := Option.some.inj H
    go_wp2
    repeat (go_quiet (fail); try go_wp2)
    go_ret
    exact ⟨Zs, Zd⟩
 rw [if_neg c3] at H
 have c3b0 : ((l0.length : Int) == (l1.length : Int)) = F := beq_eq_false_iff_ne.mpr c3
 have c3b1 : ((l0.length : Int) != (l1.length : Int)) = T := bne_iff_ne.mpr c3
 have c3b2 : (l0.length == l1.length) = F := by first | simpa using c3 | (simp at c3 ⊢; omega)
 obtain rfl := Option.some.inj H
 go_enter Try.func33, Try.ntmps33
 go_wp2
 repeat (go_quiet (fail); try go_wp2)
 go_ret
 exact ⟨Zs, Zd⟩
end Go.Proofs.Ytaembbndjpebhaa.Pr
