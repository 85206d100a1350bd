/- Functions' values and contracts, as the print wrote them. -/
import Derived.Test.YtggbflplbblgbaaQ962P0
import Derived.Test.YtggbflplbblgbaaQ962P1
namespace Go.Proofs.Ytggbflplbblgbaa.Pr
open Bool renaming true → T
open Bool renaming false → F
open Go.RowKit Go.Proofs.YtggbflplbblgbaaW.PrintWords Go.Proofs.YtggbflplbblgbaaW.PrintLast Go.Proofs.YtggbflplbblgbaaW.PrintMore
attribute [local go_sem] QaD QaF QaJ QaK QaB QaC QaE QaG   -- for this text's walks alone
set_option linter.unusedVariables false
set_option linter.unusedSimpArgs false
set_option maxRecDepth 100000
set_option maxHeartbeats 8000000
def Qaw.l0 : Nat → List (S91) → Int → List Int → List Int → Int → Int → Option (Int × List Int × Int)
 | 0, _, _, _, _, _, _ => none
 | k + 1, x2, x6, x7, x25, x26, x27 => if x27 < x26 then (if 0 ≤ x27 then (if x27 < (x25.length : Int) then (if x27 < (x2.length : Int) then ((Qaz.f k (rd x25 x27) ((rd_T91 x2 x27).f2)).bind fun bt564 => (if bt564.2 = 0 then ((Qbs.f x6 bt564.1).bind fun bt566 => (if bt566.2 = 0 then (Qaw.l0 k x2 bt566.1 x7 x25 x26 (wrap64 (x27 + 1))) else (some (0, ([] : List Int), 3)))) else (some (0, ([] : List Int), 3)))) else (none)) else (none)) else (none)) else (some (x6, x7, 0))
def Qaw.f (k : Nat) (l0 : List Int) (l1 : List Int) (l2 : List (S91)) : Option (Int × List Int × Int) := (Qae.f k l0 l1 l2).bind fun bt555 => (if bt555.2.2 = 0 then (Qaw.l0 k l2 0 bt555.2.1 bt555.1 (bt555.1.length : Int) 0) else (some (0, ([] : List Int), bt555.2.2)))
theorem Qaw.mono_l : ∀ k, (∀ y0 y1 y2 y3 y4 y5, LeO (Qaw.l0 k y0 y1 y2 y3 y4 y5) (Qaw.l0 (k + 1) y0 y1 y2 y3 y4 y5))
 | 0 => fun _ _ _ _ _ _ r h => by simp [Qaw.l0] at h
 | k + 1 => by
  have ih0 := Qaw.mono_l k
  intro y0 y1 y2 y3 y4 y5
  unfold Qaw.l0
  exact ZM3 ih0 Qaz.mono Qae.mono
theorem Qaw.mono : ∀ a0 a1 a2 k, LeO (Qaw.f k a0 a1 a2) (Qaw.f (k + 1) a0 a1 a2) := by
 intro a0 a1 a2 k
 have ih0 := Qaw.mono_l k
 unfold Qaw.f
 exact ZM3 ih0 Qaz.mono Qae.mono
theorem Qaw.calls (k : Nat) (A0 : Option Addr) (c0 : Nat) (l0 : List Int) (A1 : Option Addr) (c1 : Nat) (l1 : List Int) (A2 : Option Addr) (c2 : Nat) (l2 : List (S91)) (r1 : Int) (r2 : List Int) (r3 : Int) (w : World) (hr0 : Kd.C (Kd.int .i64) w A0 l0.length l0) (hc0 : l0.length ≤ c0) (hr1 : Kd.C (Kd.int .i64) w A1 l1.length l1) (hc1 : l1.length ≤ c1) (hr2 : Kd.C k91 w A2 l2.length l2) (hc2 : l2.length ≤ c2) (h : Qaw.f k l0 l1 l2 = some (r1, r2, r3)) :
  Calls Try.prog 35 #[.slice A0 l0.length c0, .slice A1 l1.length c1, .slice A2 l2.length c2] w fun e w' => ∃ v1_ : Value, e = .returned (.tuple #[.int .i64 r1, v1_, .int .i64 r3]) ∧ Kd.R (Kd.int .i64) 3 w' w.heap.size (fun _ => True) v1_ r2 ∧ Below w.heap.size w w' := by
 have HR0 := Aside0.mk hr0
 have HC0 := Aside0.mk hc0
 clear hr0 hc0
 have HR1 := Aside0.mk hr1
 have HC1 := Aside0.mk hc1
 clear hr1 hc1
 have HR2 := Aside0.mk hr2
 have HC2 := Aside0.mk hc2
 clear hr2 hc2
 have HB := Aside0.mk (Below.refl w.heap.size w)
 have H : ((Qae.f k l0 l1 l2).bind fun bt555 => (if bt555.2.2 = 0 then (Qaw.l0 k l2 0 bt555.2.1 bt555.1 (bt555.1.length : Int) 0) else (some (0, ([] : List Int), bt555.2.2)))) = some (r1, r2, r3) := h
 clear h
 replace H := Option.bind_eq_some_iff.mp H
 obtain ⟨⟨t555, t556, t557⟩, A40, H⟩ := H
 replace H : (if t557 = 0 then (Qaw.l0 k l2 0 t556 t555 (t555.length : Int) 0) else (some (0, ([] : List Int), t557))) = some (r1, r2, r3) := H
 have A4 := Aside0.mk A40
 clear A40
 go_enter Try.func35, Try.ntmps35
 go_upto_if 23 with (first | ((with_reducible refine Qat (f := 33) rfl ?_); refine goesL_ (some 18) rfl rfl Try.func33 (by kernel_rfl) rfl #[.slice A0 l0.length c0, .slice A1 l1.length c1, .slice A2 l2.length c2] rfl (Zl) ?_; (with_reducible refine (Qae.calls k _ _ l0 _ _ l1 _ _ l2 t555 t556 t557 _ ?side1 ?side2 ?side3 ?side4 ?side5 ?side6 A4.out).mono ?_); (case side1 => exact Zv HR0.out); (case side2 => exact HC0.out); (case side3 => exact Zv HR1.out); (case side4 => exact HC1.out); (case side5 => exact Zv HR2.out); (case side6 => exact HC2.out); rintro e w5 ⟨v558, v560, rfl, ho0, ho1, hb⟩; refine ⟨_, rfl, ?_⟩; have HO559 := Aside0.mk (Kd.R_lower ho0 (Qay (Zb))); have HO561 := Aside0.mk (Kd.R_lower ho1 (Qay (Zb))); replace HB := Aside0.mk (Qax (Zb) hb); (try clear hb); (try clear hb2); (try clear hk); (try clear hi); (try clear ho0); (try clear ho1)))
 (try simp only [Act.put, Zj, Zk, Zm])
 by_cases c6 : t557 = 0
 ·rw [if_pos c6] at H
  have c6b0 : (t557 == 0) = T := beq_iff_eq.mpr c6
  have c6b1 : (t557 != 0) = F := bne_eq_false_iff_eq.mpr c6
  clear c6
  (try simp only [c6b0, c6b1])
  have H' := Aside0.mk H
  clear H
  obtain ⟨Ao7, co7, eo7⟩ := Kd.R_slice HO559.out
  subst eo7
  go_wp2
  go_loopg [6, 7, 27] k (fun kq v6 v7 v27 w' => ∃ (x6_1 : Int) (x7_1 : List Int) (x27_1 : Int), v6 = .int .i64 x6_1 ∧ v27 = .int .i64 x27_1 ∧ Aside0 (Qaw.l0 kq l2 x6_1 x7_1 t555 (t555.length : Int) x27_1 = some (r1, r2, r3)) ∧ Aside0 (kq ≤ k) ∧ Aside0 (Kd.R (Kd.int .i64) 3 w' w.heap.size (fun k_ => some k_ ≠ ((.slice Ao7 t555.length co7) : Value).ownBlock) v7 x7_1) ∧ Aside0 (Kd.R (Kd.int .i64) 3 w' w.heap.size (fun k_ => some k_ ≠ (v7 : Value).ownBlock) (.slice Ao7 t555.length co7) t555) ∧ Aside0 (Below w.heap.size w w'))
  case atStart => exact ⟨(0), (t556), (0), (Zs), (Zs), H', ⟨Nat.le_refl _⟩, ⟨Zr HO561.out⟩, ⟨Zr HO559.out⟩, ⟨Zb⟩⟩
  case round =>
   clear H'
   try clear c1
   try clear c2
   try clear p2
   try clear c3
   try clear c6
   try clear c6b0
   try clear c6b1
   obtain ⟨x6_1, x7_1, x27_1, rfl, rfl, HA, HK1, HO_7, HO_25, HB⟩ := hrel
   cases gk with
   | zero => exact absurd HA.out (by simp [Qaw.l0])
   | succ k1 =>
    have H := HA.out
    clear HA
    simp only [Qaw.l0] at H
    by_cases c8 : x27_1 < (t555.length : Int)
    ·rw [if_pos c8] at H
     have c8b0 : decide (x27_1 < (t555.length : Int)) = T := decide_eq_true c8
     clear c8
     (try simp only [c8b0])
     by_cases c9 : 0 ≤ x27_1
     ·rw [if_pos c9] at H
      have c9b0 : decide (0 ≤ x27_1) = T := decide_eq_true c9
      clear c9
      by_cases c10 : x27_1 < (t555.length : Int)
      ·rw [if_pos c10] at H
       have c10b0 : decide (x27_1 < (t555.length : Int)) = T := decide_eq_true c10
       clear c10
       by_cases c11 : x27_1 < (l2.length : Int)
       ·rw [if_pos c11] at H
        have c11b0 : decide (x27_1 < (l2.length : Int)) = T := decide_eq_true c11
        clear c11
        replace H := Option.bind_eq_some_iff.mp H
        obtain ⟨⟨t564, t565⟩, A120, H⟩ := H
        replace H : (if t565 = 0 then ((Qbs.f x6_1 t564).bind fun bt566 => (if bt566.2 = 0 then (Qaw.l0 k1 l2 bt566.1 x7_1 t555 (t555.length : Int) (wrap64 (x27_1 + 1))) else (some (0, ([] : List Int), 3)))) else (some (0, ([] : List Int), 3))) = some (r1, r2, r3) := H
        have A12 := Aside0.mk A120
        clear A120
        have p562 : 0 ≤ (x27_1 : Int) := Ze
        have q562 : x27_1 < (t555.length : Int) := Ze
        obtain ⟨ad562, e562, hx562_0⟩ := Kd.at_int (Kd.R_reads' HO_25.out).2.2 x27_1 p562 q562
        cases e562
        replace p562 := eq_true p562
        replace q562 := eq_true q562
        have p563 : 0 ≤ (x27_1 : Int) := Ze
        have q563 : x27_1 < (l2.length : Int) := Ze
        obtain ⟨ad563, e563, hx563_0, hx563_1, hx563_2⟩ := at_T91 HR2.out x27_1 p563 q563
        cases e563
        replace hx563_0 := Zx HB.out hx563_0
        replace hx563_1 := Zx HB.out hx563_1
        replace hx563_2 := Zx HB.out hx563_2
        replace p563 := eq_true p563
        replace q563 := eq_true q563
        go_upto_if 43 with (first | ((with_reducible refine Qat (f := 68) rfl ?_); refine goesL_ (some 39) rfl rfl Try.func68 (by kernel_rfl) rfl #[.int .i64 (rd t555 x27_1), .int .i64 ((rd_T91 l2 x27_1).f2)] rfl (Zl) ?_; (with_reducible refine (Qaz.calls k1 (rd t555 x27_1) ((rd_T91 l2 x27_1).f2) t564 t565 _ A12.out).mono ?_); rintro e w' ⟨rfl, ⟨nd, rfl⟩⟩; refine ⟨_, rfl, ?_⟩))
        (try simp only [Act.put, Zj, Zk, Zm])
        by_cases c13 : t565 = 0
        ·rw [if_pos c13] at H
         have c13b0 : (t565 == 0) = T := beq_iff_eq.mpr c13
         have c13b1 : (t565 != 0) = F := bne_eq_false_iff_eq.mpr c13
         clear c13
         (try simp only [c13b0, c13b1])
         replace H := Option.bind_eq_some_iff.mp H
         obtain ⟨⟨t566, t567⟩, A140, H⟩ := H
         replace H : (if t567 = 0 then (Qaw.l0 k1 l2 t566 x7_1 t555 (t555.length : Int) (wrap64 (x27_1 + 1))) else (some (0, ([] : List Int), 3))) = some (r1, r2, r3) := H
         have A14 := Aside0.mk A140
         clear A140
         go_upto_if 51 with (first | ((with_reducible refine Qat (f := 69) rfl ?_); refine goesL_ (some 47) rfl rfl Try.func69 (by kernel_rfl) rfl #[.int .i64 x6_1, .int .i64 t564] rfl (Zl) ?_; (with_reducible refine (Qbs.calls x6_1 t564 t566 t567 _ A14.out).mono ?_); rintro e w' ⟨rfl, ⟨nd, rfl⟩⟩; refine ⟨_, rfl, ?_⟩))
         (try simp only [Act.put, Zj, Zk, Zm])
         by_cases c15 : t567 = 0
         ·rw [if_pos c15] at H
          have c15b0 : (t567 == 0) = T := beq_iff_eq.mpr c15
          have c15b1 : (t567 != 0) = F := bne_eq_false_iff_eq.mpr c15
          clear c15
          (try simp only [c15b0, c15b1])
          have H' := Aside0.mk H
          clear H
          go_wp2
          go_roundg k1
          case measure => have := HK1.out; omega
          case rel => exact ⟨(t566), (x7_1), (wrap64 (x27_1 + 1)), (Zs), (Zs), H', ⟨by have := HK1.out; omega⟩, ⟨Zr HO_7.out⟩, ⟨Zr HO_25.out⟩, ⟨Zb⟩⟩
         rw [if_neg c15] at H
         have c15b0 : (t567 == 0) = F := beq_eq_false_iff_ne.mpr c15
         have c15b1 : (t567 != 0) = T := bne_iff_ne.mpr c15
         (try simp only [c15b0, c15b1])
         simp only [Option.some.injEq, Prod.mk.injEq] at H
         obtain ⟨rfl, rfl, rfl⟩ := H
         go_wp2
         go_ret3
         exact ⟨_, Zq, by first | exact Kd.R_nil _ _ _ _ _ | exact Kd.N_nil _ _ _ _ _ | exact Kd.V_nil _ _ _ _ _ | exact Kd.Q_nil _ _ _ _ _ | exact Kd.S_nil _ _ _ _ _, Zb⟩
        rw [if_neg c13] at H
        have c13b0 : (t565 == 0) = F := beq_eq_false_iff_ne.mpr c13
        have c13b1 : (t565 != 0) = T := bne_iff_ne.mpr c13
        (try simp only [c13b0, c13b1])
        simp only [Option.some.injEq, Prod.mk.injEq] at H
        obtain ⟨rfl, rfl, rfl⟩ := H
        go_wp2
        go_ret3
        exact ⟨_, Zq, by first | exact Kd.R_nil _ _ _ _ _ | exact Kd.N_nil _ _ _ _ _ | exact Kd.V_nil _ _ _ _ _ | exact Kd.Q_nil _ _ _ _ _ | exact Kd.S_nil _ _ _ _ _, Zb⟩
       rw [if_neg c11] at H
       exact absurd H (by simp)
      rw [if_neg c10] at H
      exact absurd H (by simp)
     rw [if_neg c9] at H
     exact absurd H (by simp)
    rw [if_neg c8] at H
    have c8b0 : decide (x27_1 < (t555.length : Int)) = F := decide_eq_false c8
    clear c8
    (try simp only [c8b0])
    simp only [Option.some.injEq, Prod.mk.injEq] at H
    obtain ⟨rfl, rfl, rfl⟩ := H
    go_wp2
    go_ret3
    exact ⟨_, Zq, by (with_reducible repeat (first | apply Kd.R_alloc | apply Kd.R_drewN | apply Kd.R_drew)); exact Kd.R_mono HO_7.out (fun _ hk => trivial), Zb⟩
 rw [if_neg c6] at H
 have c6b0 : (t557 == 0) = F := beq_eq_false_iff_ne.mpr c6
 have c6b1 : (t557 != 0) = T := bne_iff_ne.mpr c6
 (try simp only [c6b0, c6b1])
 simp only [Option.some.injEq, Prod.mk.injEq] at H
 obtain ⟨rfl, rfl, rfl⟩ := H
 go_wp2
 go_ret3
 exact ⟨_, Zq, by first | exact Kd.R_nil _ _ _ _ _ | exact Kd.N_nil _ _ _ _ _ | exact Kd.V_nil _ _ _ _ _ | exact Kd.Q_nil _ _ _ _ _ | exact Kd.S_nil _ _ _ _ _, Zb⟩
def Qai.f (k : Nat)  : Option (Bool) := (some (([10, 20, 30] : List Int) : List Int)).bind fun y580 => ((some (([2500, (-1200), (-4000)] : List Int) : List Int)).bind fun y583 => ((some (([(⟨10, 20, 7⟩ : S91), (⟨10, 30, 9⟩ : S91)] : List (S91)) : List (S91))).bind fun y586 => ((Qae.f k y580 y583 y586).bind fun bt589 => ((Qaw.f k y580 y583 y586).bind fun bt596 => ((Qap.f k (([500, (-200), (-3000)] : List Int)) 10).bind fun bt604 => (if bt589.2.2 = 0 then (if bt596.2.2 = 0 then (if bt604.2 = 0 then (if bt596.1 = 16 then (if bt604.1 = 30 then ((Qaf.f k bt589.1 (([1, 1] : List Int))).bind fun t609 => (if t609 = T then ((Qaf.f k bt589.2.1 (([500, (-200), (-3000)] : List Int))).bind fun t613 => (some t613)) else (some F))) else (some F)) else (some F)) else (some F)) else (some F)) else (some F)))))))
theorem Qai.mono : ∀ k, LeO (Qai.f k ) (Qai.f (k + 1) ) := by
 intro  k
 unfold Qai.f
 exact ZM4 Qaf.mono Qaw.mono Qae.mono Qap.mono
theorem Qai.calls (k : Nat)  (r : Bool) (w : World) (h : Qai.f k  = some r) :
  Calls Try.prog 32 #[] w fun e w' => e = .returned (.bool r) ∧ Below w.heap.size w w' := by
 have hu91 := Try.underlying91
 have HB := Aside0.mk (Below.refl w.heap.size w)
 have H : ((some (([10, 20, 30] : List Int) : List Int)).bind fun y580 => ((some (([2500, (-1200), (-4000)] : List Int) : List Int)).bind fun y583 => ((some (([(⟨10, 20, 7⟩ : S91), (⟨10, 30, 9⟩ : S91)] : List (S91)) : List (S91))).bind fun y586 => ((Qae.f k y580 y583 y586).bind fun bt589 => ((Qaw.f k y580 y583 y586).bind fun bt596 => ((Qap.f k (([500, (-200), (-3000)] : List Int)) 10).bind fun bt604 => (if bt589.2.2 = 0 then (if bt596.2.2 = 0 then (if bt604.2 = 0 then (if bt596.1 = 16 then (if bt604.1 = 30 then ((Qaf.f k bt589.1 (([1, 1] : List Int))).bind fun t609 => (if t609 = T then ((Qaf.f k bt589.2.1 (([500, (-200), (-3000)] : List Int))).bind fun t613 => (some t613)) else (some F))) else (some F)) else (some F)) else (some F)) else (some F)) else (some F)))))))) = some r := h
 clear h
 obtain ⟨y580, hy580⟩ : ∃ y_ : List Int, y_ = (([10, 20, 30] : List Int)) := ⟨_, rfl⟩
 replace H : ((some (([2500, (-1200), (-4000)] : List Int) : List Int)).bind fun y583 => ((some (([(⟨10, 20, 7⟩ : S91), (⟨10, 30, 9⟩ : S91)] : List (S91)) : List (S91))).bind fun y586 => ((Qae.f k y580 y583 y586).bind fun bt589 => ((Qaw.f k y580 y583 y586).bind fun bt596 => ((Qap.f k (([500, (-200), (-3000)] : List Int)) 10).bind fun bt604 => (if bt589.2.2 = 0 then (if bt596.2.2 = 0 then (if bt604.2 = 0 then (if bt596.1 = 16 then (if bt604.1 = 30 then ((Qaf.f k bt589.1 (([1, 1] : List Int))).bind fun t609 => (if t609 = T then ((Qaf.f k bt589.2.1 (([500, (-200), (-3000)] : List Int))).bind fun t613 => (some t613)) else (some F))) else (some F)) else (some F)) else (some F)) else (some F)) else (some F))))))) = some r := by first | (rw [hy580]; with_reducible exact H) | (have H2_ := (Option.bind_some _ _).symm.trans H; rw [hy580]; with_reducible exact H2_) | (have H2_ := (Option.bind_some _ _).symm.trans H; with_reducible exact H2_) | with_reducible exact H | (rw [hy580]; exact H) | exact H
 have Ny580 := Aside0.mk hy580
 clear hy580
 obtain ⟨y583, hy583⟩ : ∃ y_ : List Int, y_ = (([2500, (-1200), (-4000)] : List Int)) := ⟨_, rfl⟩
 replace H : ((some (([(⟨10, 20, 7⟩ : S91), (⟨10, 30, 9⟩ : S91)] : List (S91)) : List (S91))).bind fun y586 => ((Qae.f k y580 y583 y586).bind fun bt589 => ((Qaw.f k y580 y583 y586).bind fun bt596 => ((Qap.f k (([500, (-200), (-3000)] : List Int)) 10).bind fun bt604 => (if bt589.2.2 = 0 then (if bt596.2.2 = 0 then (if bt604.2 = 0 then (if bt596.1 = 16 then (if bt604.1 = 30 then ((Qaf.f k bt589.1 (([1, 1] : List Int))).bind fun t609 => (if t609 = T then ((Qaf.f k bt589.2.1 (([500, (-200), (-3000)] : List Int))).bind fun t613 => (some t613)) else (some F))) else (some F)) else (some F)) else (some F)) else (some F)) else (some F)))))) = some r := by first | (rw [hy583]; with_reducible exact H) | (have H2_ := (Option.bind_some _ _).symm.trans H; rw [hy583]; with_reducible exact H2_) | (have H2_ := (Option.bind_some _ _).symm.trans H; with_reducible exact H2_) | with_reducible exact H | (rw [hy583]; exact H) | exact H
 have Ny583 := Aside0.mk hy583
 clear hy583
 obtain ⟨y586, hy586⟩ : ∃ y_ : List (S91), y_ = (([(⟨10, 20, 7⟩ : S91), (⟨10, 30, 9⟩ : S91)] : List (S91))) := ⟨_, rfl⟩
 replace H : ((Qae.f k y580 y583 y586).bind fun bt589 => ((Qaw.f k y580 y583 y586).bind fun bt596 => ((Qap.f k (([500, (-200), (-3000)] : List Int)) 10).bind fun bt604 => (if bt589.2.2 = 0 then (if bt596.2.2 = 0 then (if bt604.2 = 0 then (if bt596.1 = 16 then (if bt604.1 = 30 then ((Qaf.f k bt589.1 (([1, 1] : List Int))).bind fun t609 => (if t609 = T then ((Qaf.f k bt589.2.1 (([500, (-200), (-3000)] : List Int))).bind fun t613 => (some t613)) else (some F))) else (some F)) else (some F)) else (some F)) else (some F)) else (some F))))) = some r := by first | (rw [hy586]; with_reducible exact H) | (have H2_ := (Option.bind_some _ _).symm.trans H; rw [hy586]; with_reducible exact H2_) | (have H2_ := (Option.bind_some _ _).symm.trans H; with_reducible exact H2_) | with_reducible exact H | (rw [hy586]; exact H) | exact H
 have Ny586 := Aside0.mk hy586
 clear hy586
 replace H := Option.bind_eq_some_iff.mp H
 obtain ⟨⟨t589, t590, t591⟩, A10, H⟩ := H
 replace H : ((Qaw.f k y580 y583 y586).bind fun bt596 => ((Qap.f k (([500, (-200), (-3000)] : List Int)) 10).bind fun bt604 => (if t591 = 0 then (if bt596.2.2 = 0 then (if bt604.2 = 0 then (if bt596.1 = 16 then (if bt604.1 = 30 then ((Qaf.f k t589 (([1, 1] : List Int))).bind fun t609 => (if t609 = T then ((Qaf.f k t590 (([500, (-200), (-3000)] : List Int))).bind fun t613 => (some t613)) else (some F))) else (some F)) else (some F)) else (some F)) else (some F)) else (some F)))) = some r := H
 have A1 := Aside0.mk A10
 clear A10
 replace H := Option.bind_eq_some_iff.mp H
 obtain ⟨⟨t596, t597, t598⟩, A20, H⟩ := H
 replace H : ((Qap.f k (([500, (-200), (-3000)] : List Int)) 10).bind fun bt604 => (if t591 = 0 then (if t598 = 0 then (if bt604.2 = 0 then (if t596 = 16 then (if bt604.1 = 30 then ((Qaf.f k t589 (([1, 1] : List Int))).bind fun t609 => (if t609 = T then ((Qaf.f k t590 (([500, (-200), (-3000)] : List Int))).bind fun t613 => (some t613)) else (some F))) else (some F)) else (some F)) else (some F)) else (some F)) else (some F))) = some r := H
 have A2 := Aside0.mk A20
 clear A20
 obtain ⟨y601, hy601⟩ : ∃ y_ : List Int, y_ = (([500, (-200), (-3000)] : List Int)) := ⟨_, rfl⟩
 replace H : ((Qap.f k y601 10).bind fun bt604 => (if t591 = 0 then (if t598 = 0 then (if bt604.2 = 0 then (if t596 = 16 then (if bt604.1 = 30 then ((Qaf.f k t589 (([1, 1] : List Int))).bind fun t609 => (if t609 = T then ((Qaf.f k t590 (([500, (-200), (-3000)] : List Int))).bind fun t613 => (some t613)) else (some F))) else (some F)) else (some F)) else (some F)) else (some F)) else (some F))) = some r := by first | (rw [hy601]; with_reducible exact H) | (have H2_ := (Option.bind_some _ _).symm.trans H; rw [hy601]; with_reducible exact H2_) | (have H2_ := (Option.bind_some _ _).symm.trans H; with_reducible exact H2_) | with_reducible exact H | (rw [hy601]; exact H) | exact H
 have Ny601 := Aside0.mk hy601
 clear hy601
 replace H := Option.bind_eq_some_iff.mp H
 obtain ⟨⟨t604, t605⟩, A30, H⟩ := H
 replace H : (if t591 = 0 then (if t598 = 0 then (if t605 = 0 then (if t596 = 16 then (if t604 = 30 then ((Qaf.f k t589 (([1, 1] : List Int))).bind fun t609 => (if t609 = T then ((Qaf.f k t590 (([500, (-200), (-3000)] : List Int))).bind fun t613 => (some t613)) else (some F))) else (some F)) else (some F)) else (some F)) else (some F)) else (some F)) = some r := H
 have A3 := Aside0.mk A30
 clear A30
 go_enter Try.func32, Try.ntmps32
 go_upto_region 6 with (first | ((with_reducible refine Qbi (N := 12) rfl ?_); (try (refine Qbp (by rfl) ?_; dsimp only)); refine Kd.R_lit (Kd.int .i64) _ 3 ?hg (N := 12) ?hd (xs := ([10, 20, 30] : List Int)) (inner := [.int .i64 10, .int .i64 20, .int .i64 30]) (ok := fun _ => True) (okp := fun _ => True) ?hr ?hp (fun _ hk => hk) trivial (Below.refl _ _) (Nat.le_refl _) (by simp) ?_; (case hd => rfl); (case hg => rfl); (case hr => first | (go_simp; done) | (go_simp; rfl)); (case hp => exact (Reps.one (show Kd.M (Kd.int .i64) _ _ _ 10 [.int .i64 10] from rfl) (Reps.one (show Kd.M (Kd.int .i64) _ _ _ 20 [.int .i64 20] from rfl) (Reps.one (show Kd.M (Kd.int .i64) _ _ _ 30 [.int .i64 30] from rfl) (Reps.none _ _))))); intro v581 w4 ho5 hb hg_ hnew_; clear hg_ hnew_; (first | rw [← Ny580.out] at ho5 | (simp only [Int.reduceToNat] at ho5; rw [← Ny580.out] at ho5)); have HO582 := Aside0.mk (Kd.R_lower ho5 (Qay (Zb))); replace HB := Aside0.mk (Qax (Zb) hb); clear hb ho5) | ((with_reducible refine Qbi (N := 13) rfl ?_); (try (refine Qbp (by rfl) ?_; dsimp only)); refine Kd.R_lit (Kd.int .i64) _ 3 ?hg (N := 13) ?hd (xs := ([2500, (-1200), (-4000)] : List Int)) (inner := [.int .i64 2500, .int .i64 (-1200), .int .i64 (-4000)]) (ok := fun _ => True) (okp := fun _ => True) ?hr ?hp (fun _ hk => hk) trivial (Below.refl _ _) (Nat.le_refl _) (by simp) ?_; (case hd => rfl); (case hg => rfl); (case hr => first | (go_simp; done) | (go_simp; rfl)); (case hp => exact (Reps.one (show Kd.M (Kd.int .i64) _ _ _ 2500 [.int .i64 2500] from rfl) (Reps.one (show Kd.M (Kd.int .i64) _ _ _ (-1200) [.int .i64 (-1200)] from rfl) (Reps.one (show Kd.M (Kd.int .i64) _ _ _ (-4000) [.int .i64 (-4000)] from rfl) (Reps.none _ _))))); intro v584 w6 ho7 hb hg_ hnew_; clear hg_ hnew_; (first | rw [← Ny583.out] at ho7 | (simp only [Int.reduceToNat] at ho7; rw [← Ny583.out] at ho7)); have HO585 := Aside0.mk (Kd.R_lower (Kd.R_new' ho7 (Kd.R_lt (Zr HO582.out))) (Qay (Zb))); replace HO582 := Aside0.mk (Kd.R_elder' (Zr HO582.out) (Kd.R_base ho7) hb); replace HB := Aside0.mk (Qax (Zb) hb); clear hb ho7) | ((with_reducible refine Qbi (N := 16) rfl ?_); (try (refine Qbp (by rfl) ?_; dsimp only)); refine Kd.R_lit k91 _ 91 ?hg (N := 16) ?hd (xs := ([(⟨10, 20, 7⟩ : S91), (⟨10, 30, 9⟩ : S91)] : List (S91))) (inner := [.int .i64 10, .int .i64 20, .int .i64 7, .int .i64 10, .int .i64 30, .int .i64 9]) (ok := fun _ => True) (okp := fun _ => True) ?hr ?hp (fun _ hk => hk) trivial (Below.refl _ _) (Nat.le_refl _) (by simp) ?_; (case hd => rfl); (case hg => rfl); (case hr => first | (go_simp; done) | (go_simp; rfl)); (case hp => exact (Reps.c3 (show Kd.M k91 _ _ _ (⟨10, 20, 7⟩ : S91) [.int .i64 10, .int .i64 20, .int .i64 7] from (Qc0 _ _ _ (⟨10, 20, 7⟩ : S91) )) (Reps.c3 (show Kd.M k91 _ _ _ (⟨10, 30, 9⟩ : S91) [.int .i64 10, .int .i64 30, .int .i64 9] from (Qc0 _ _ _ (⟨10, 30, 9⟩ : S91) )) (Reps.none _ _)))); intro v587 w8 ho9 hb hg_ hnew_; clear hg_ hnew_; (first | rw [← Ny586.out] at ho9 | (simp only [Int.reduceToNat] at ho9; rw [← Ny586.out] at ho9)); have HO588 := Aside0.mk (Kd.R_lower ho9 (Qay (Zb))); replace HO582 := Aside0.mk (Kd.R_below (Zr HO582.out) hb); replace HO585 := Aside0.mk (Kd.R_below (Zr HO585.out) hb); replace HB := Aside0.mk (Qax (Zb) hb); clear hb ho9; obtain ⟨Ao10, co10, eo10⟩ := Kd.R_slice HO582.out; subst eo10; obtain ⟨Ao11, co11, eo11⟩ := Kd.R_slice HO585.out; subst eo11; obtain ⟨Ao12, co12, eo12⟩ := Kd.R_slice HO588.out; subst eo12) | ((with_reducible refine Qat (f := 33) rfl ?_); refine goesL_ (some 21) rfl rfl Try.func33 (by kernel_rfl) rfl #[.slice Ao10 y580.length co10, .slice Ao11 y583.length co11, .slice Ao12 y586.length co12] rfl (Zl) ?_; (with_reducible refine (Qae.calls k _ _ y580 _ _ y583 _ _ y586 t589 t590 t591 _ ?side1 ?side2 ?side3 ?side4 ?side5 ?side6 A1.out).mono ?_); (case side1 => exact Zv (Kd.R_reads' HO582.out).2.2); (case side2 => exact (Kd.R_reads' HO582.out).2.1); (case side3 => exact Zv (Kd.R_reads' HO585.out).2.2); (case side4 => exact (Kd.R_reads' HO585.out).2.1); (case side5 => exact Zv (Kd.R_reads' HO588.out).2.2); (case side6 => exact (Kd.R_reads' HO588.out).2.1); rintro e w13 ⟨v592, v594, rfl, ho0, ho1, hb⟩; refine ⟨_, rfl, ?_⟩; have HO593 := Aside0.mk (Kd.R_lower (Kd.R_new' (Kd.R_new' ho0 (Kd.R_lt (Zr HO582.out))) (Kd.R_lt (Zr HO585.out))) (Qay (Zb))); have HO595 := Aside0.mk (Kd.R_lower (Kd.R_new' (Kd.R_new' ho1 (Kd.R_lt (Zr HO582.out))) (Kd.R_lt (Zr HO585.out))) (Qay (Zb))); replace HO582 := Aside0.mk (Kd.R_mono (Kd.R_told (Kd.R_told (Kd.R_old (Zr HO582.out) hb) (Kd.R_base ho0)) (Kd.R_base ho1)) (fun _ h_ => h_.1)); replace HO585 := Aside0.mk (Kd.R_mono (Kd.R_told (Kd.R_told (Kd.R_old (Zr HO585.out) hb) (Kd.R_base ho0)) (Kd.R_base ho1)) (fun _ h_ => h_.1)); replace HO588 := Aside0.mk (Kd.R_below (Zr HO588.out) hb); replace HB := Aside0.mk (Qax (Zb) hb); (try clear hb); (try clear hb2); (try clear hk); (try clear hi); (try clear ho0); (try clear ho1)) | ((with_reducible refine Qat (f := 35) rfl ?_); refine goesL_ (some 29) rfl rfl Try.func35 (by kernel_rfl) rfl #[.slice Ao10 y580.length co10, .slice Ao11 y583.length co11, .slice Ao12 y586.length co12] rfl (Zl) ?_; (with_reducible refine (Qaw.calls k _ _ y580 _ _ y583 _ _ y586 t596 t597 t598 _ ?side1 ?side2 ?side3 ?side4 ?side5 ?side6 A2.out).mono ?_); (case side1 => exact Zv (Kd.R_reads' HO582.out).2.2); (case side2 => exact (Kd.R_reads' HO582.out).2.1); (case side3 => exact Zv (Kd.R_reads' HO585.out).2.2); (case side4 => exact (Kd.R_reads' HO585.out).2.1); (case side5 => exact Zv (Kd.R_reads' HO588.out).2.2); (case side6 => exact (Kd.R_reads' HO588.out).2.1); rintro e w14 ⟨v599, rfl, ho0, hb⟩; refine ⟨_, rfl, ?_⟩; have HO600 := Aside0.mk (Kd.R_lower (Kd.R_new' (Kd.R_new' (Kd.R_new' (Kd.R_new' ho0 (Kd.R_lt (Zr HO582.out))) (Kd.R_lt (Zr HO585.out))) (Kd.R_lt (Zr HO593.out))) (Kd.R_lt (Zr HO595.out))) (Qay (Zb))); replace HO582 := Aside0.mk (Kd.R_elder' (Zr HO582.out) (Kd.R_base ho0) hb); replace HO585 := Aside0.mk (Kd.R_elder' (Zr HO585.out) (Kd.R_base ho0) hb); replace HO588 := Aside0.mk (Kd.R_below (Zr HO588.out) hb); replace HO593 := Aside0.mk (Kd.R_elder' (Zr HO593.out) (Kd.R_base ho0) hb); replace HO595 := Aside0.mk (Kd.R_elder' (Zr HO595.out) (Kd.R_base ho0) hb); replace HB := Aside0.mk (Qax (Zb) hb); (try clear hb); (try clear hb2); (try clear hk); (try clear hi); (try clear ho0)) | ((with_reducible refine Qbi (N := 34) rfl ?_); (try (refine Qbp (by rfl) ?_; dsimp only)); refine Kd.R_lit (Kd.int .i64) _ 3 ?hg (N := 34) ?hd (xs := ([500, (-200), (-3000)] : List Int)) (inner := [.int .i64 500, .int .i64 (-200), .int .i64 (-3000)]) (ok := fun _ => True) (okp := fun _ => True) ?hr ?hp (fun _ hk => hk) trivial (Below.refl _ _) (Nat.le_refl _) (by simp) ?_; (case hd => rfl); (case hg => rfl); (case hr => first | (go_simp; done) | (go_simp; rfl)); (case hp => exact (Reps.one (show Kd.M (Kd.int .i64) _ _ _ 500 [.int .i64 500] from rfl) (Reps.one (show Kd.M (Kd.int .i64) _ _ _ (-200) [.int .i64 (-200)] from rfl) (Reps.one (show Kd.M (Kd.int .i64) _ _ _ (-3000) [.int .i64 (-3000)] from rfl) (Reps.none _ _))))); intro v602 w15 ho16 hb hg_ hnew_; clear hg_ hnew_; (first | rw [← Ny601.out] at ho16 | (simp only [Int.reduceToNat] at ho16; rw [← Ny601.out] at ho16)); have HO603 := Aside0.mk (Kd.R_lower (Kd.R_new' (Kd.R_new' (Kd.R_new' (Kd.R_new' (Kd.R_new' ho16 (Kd.R_lt (Zr HO582.out))) (Kd.R_lt (Zr HO585.out))) (Kd.R_lt (Zr HO593.out))) (Kd.R_lt (Zr HO595.out))) (Kd.R_lt (Zr HO600.out))) (Qay (Zb))); replace HO582 := Aside0.mk (Kd.R_elder' (Zr HO582.out) (Kd.R_base ho16) hb); replace HO585 := Aside0.mk (Kd.R_elder' (Zr HO585.out) (Kd.R_base ho16) hb); replace HO588 := Aside0.mk (Kd.R_below (Zr HO588.out) hb); replace HO593 := Aside0.mk (Kd.R_elder' (Zr HO593.out) (Kd.R_base ho16) hb); replace HO595 := Aside0.mk (Kd.R_elder' (Zr HO595.out) (Kd.R_base ho16) hb); replace HO600 := Aside0.mk (Kd.R_elder' (Zr HO600.out) (Kd.R_base ho16) hb); replace HB := Aside0.mk (Qax (Zb) hb); clear hb ho16; obtain ⟨Ao17, co17, eo17⟩ := Kd.R_slice HO603.out; subst eo17) | ((with_reducible refine Qat (f := 40) rfl ?_); refine goesL_ (some 35) rfl rfl Try.func40 (by kernel_rfl) rfl #[.slice Ao17 y601.length co17, .int .i64 10] rfl (Zl) ?_; (with_reducible refine (Qap.calls k _ _ y601 10 t604 t605 _ ?side1 ?side2 A3.out).mono ?_); (case side1 => exact Zv (Kd.R_reads' HO603.out).2.2); (case side2 => exact (Kd.R_reads' HO603.out).2.1); rintro e w18 ⟨rfl, hb⟩; refine ⟨_, rfl, ?_⟩; replace HO582 := Aside0.mk (Kd.R_below (Zr HO582.out) hb); replace HO585 := Aside0.mk (Kd.R_below (Zr HO585.out) hb); replace HO588 := Aside0.mk (Kd.R_below (Zr HO588.out) hb); replace HO593 := Aside0.mk (Kd.R_below (Zr HO593.out) hb); replace HO595 := Aside0.mk (Kd.R_below (Zr HO595.out) hb); replace HO600 := Aside0.mk (Kd.R_below (Zr HO600.out) hb); replace HO603 := Aside0.mk (Kd.R_below (Zr HO603.out) hb); replace HB := Aside0.mk (Qax (Zb) hb); (try clear hb); (try clear hb2); (try clear hk); (try clear hi)))
 (try simp only [Act.put, Zj, Zk, Zm])
 by_cases c19 : t591 = 0
 ·rw [if_pos c19] at H
  have c19b0 : (t591 == 0) = T := beq_iff_eq.mpr c19
  have c19b1 : (t591 != 0) = F := bne_eq_false_iff_eq.mpr c19
  clear c19
  (try simp only [c19b0, c19b1])
  by_cases c20 : t598 = 0
  ·rw [if_pos c20] at H
   have c20b0 : (t598 == 0) = T := beq_iff_eq.mpr c20
   have c20b1 : (t598 != 0) = F := bne_eq_false_iff_eq.mpr c20
   clear c20
   by_cases c21 : t605 = 0
   ·rw [if_pos c21] at H
    have c21b0 : (t605 == 0) = T := beq_iff_eq.mpr c21
    have c21b1 : (t605 != 0) = F := bne_eq_false_iff_eq.mpr c21
    clear c21
    by_cases c22 : t596 = 16
    ·rw [if_pos c22] at H
     have c22b0 : (t596 == 16) = T := beq_iff_eq.mpr c22
     have c22b1 : (t596 != 16) = F := bne_eq_false_iff_eq.mpr c22
     clear c22
     by_cases c23 : t604 = 30
     ·rw [if_pos c23] at H
      have c23b0 : (t604 == 30) = T := beq_iff_eq.mpr c23
      have c23b1 : (t604 != 30) = F := bne_eq_false_iff_eq.mpr c23
      clear c23
      obtain ⟨y606, hy606⟩ : ∃ y_ : List Int, y_ = (([1, 1] : List Int)) := ⟨_, rfl⟩
      replace H : ((Qaf.f k t589 y606).bind fun t609 => (if t609 = T then ((Qaf.f k t590 (([500, (-200), (-3000)] : List Int))).bind fun t613 => (some t613)) else (some F))) = some r := by first | (rw [hy606]; with_reducible exact H) | (have H2_ := (Option.bind_some _ _).symm.trans H; rw [hy606]; with_reducible exact H2_) | (have H2_ := (Option.bind_some _ _).symm.trans H; with_reducible exact H2_) | with_reducible exact H | (rw [hy606]; exact H) | exact H
      have Ny606 := Aside0.mk hy606
      clear hy606
      replace H := Option.bind_eq_some_iff.mp H
      obtain ⟨t609, A240, H⟩ := H
      replace H : (if t609 = T then ((Qaf.f k t590 (([500, (-200), (-3000)] : List Int))).bind fun t613 => (some t613)) else (some F)) = some r := H
      have A24 := Aside0.mk A240
      clear A240
      by_cases c25 : t609 = T
      ·subst c25
       have H1 : ((Qaf.f k t590 (([500, (-200), (-3000)] : List Int))).bind fun t613 => (some t613)) = some r := by rw [if_pos rfl] at H; exact H
       clear H
       have H := H1
       clear H1
       obtain ⟨y610, hy610⟩ : ∃ y_ : List Int, y_ = (([500, (-200), (-3000)] : List Int)) := ⟨_, rfl⟩
       replace H : ((Qaf.f k t590 y610).bind fun t613 => (some t613)) = some r := by first | (rw [hy610]; with_reducible exact H) | (have H2_ := (Option.bind_some _ _).symm.trans H; rw [hy610]; with_reducible exact H2_) | (have H2_ := (Option.bind_some _ _).symm.trans H; with_reducible exact H2_) | with_reducible exact H | (rw [hy610]; exact H) | exact H
       have Ny610 := Aside0.mk hy610
       clear hy610
       replace H := Option.bind_eq_some_iff.mp H
       obtain ⟨t613, A260, H⟩ := H
       replace H : (some t613) = some r := H
       have A26 := Aside0.mk A260
       clear A260
       obtain rfl := Option.some.inj H
       go_wp2_with (first | ((with_reducible refine Qbi (N := 58) rfl ?_); (try (refine Qbp (by rfl) ?_; dsimp only)); refine Kd.R_lit (Kd.int .i64) _ 3 ?hg (N := 58) ?hd (xs := ([1, 1] : List Int)) (inner := [.int .i64 1, .int .i64 1]) (ok := fun _ => True) (okp := fun _ => True) ?hr ?hp (fun _ hk => hk) trivial (Below.refl _ _) (Nat.le_refl _) (by simp) ?_; (case hd => rfl); (case hg => rfl); (case hr => first | (go_simp; done) | (go_simp; rfl)); (case hp => exact (Reps.one (show Kd.M (Kd.int .i64) _ _ _ 1 [.int .i64 1] from rfl) (Reps.one (show Kd.M (Kd.int .i64) _ _ _ 1 [.int .i64 1] from rfl) (Reps.none _ _)))); intro v607 w27 ho28 hb hg_ hnew_; clear hg_ hnew_; (first | rw [← Ny606.out] at ho28 | (simp only [Int.reduceToNat] at ho28; rw [← Ny606.out] at ho28)); have HO608 := Aside0.mk (Kd.R_lower (Kd.R_new' (Kd.R_new' (Kd.R_new' (Kd.R_new' (Kd.R_new' (Kd.R_new' ho28 (Kd.R_lt (Zr HO582.out))) (Kd.R_lt (Zr HO585.out))) (Kd.R_lt (Zr HO593.out))) (Kd.R_lt (Zr HO595.out))) (Kd.R_lt (Zr HO600.out))) (Kd.R_lt (Zr HO603.out))) (Qay (Zb))); replace HO582 := Aside0.mk (Kd.R_elder' (Zr HO582.out) (Kd.R_base ho28) hb); replace HO585 := Aside0.mk (Kd.R_elder' (Zr HO585.out) (Kd.R_base ho28) hb); replace HO588 := Aside0.mk (Kd.R_below (Zr HO588.out) hb); replace HO593 := Aside0.mk (Kd.R_elder' (Zr HO593.out) (Kd.R_base ho28) hb); replace HO595 := Aside0.mk (Kd.R_elder' (Zr HO595.out) (Kd.R_base ho28) hb); replace HO600 := Aside0.mk (Kd.R_elder' (Zr HO600.out) (Kd.R_base ho28) hb); replace HO603 := Aside0.mk (Kd.R_elder' (Zr HO603.out) (Kd.R_base ho28) hb); replace HB := Aside0.mk (Qax (Zb) hb); clear hb ho28; obtain ⟨Ao29, co29, eo29⟩ := Kd.R_slice HO593.out; subst eo29; obtain ⟨Ao30, co30, eo30⟩ := Kd.R_slice HO608.out; subst eo30) | (go_at_call 37; (with_reducible refine (Qaf.calls k _ _ t589 _ _ y606 T _ ?side1 ?side2 ?side3 ?side4 A24.out).mono ?_); (case side1 => exact Zv (Kd.R_reads' HO593.out).2.2); (case side2 => exact (Kd.R_reads' HO593.out).2.1); (case side3 => exact Zv (Kd.R_reads' HO608.out).2.2); (case side4 => exact (Kd.R_reads' HO608.out).2.1); rintro e w' ⟨rfl, ⟨nd, rfl⟩⟩) | ((with_reducible refine Qbi (N := 63) rfl ?_); (try (refine Qbp (by rfl) ?_; dsimp only)); refine Kd.R_lit (Kd.int .i64) _ 3 ?hg (N := 63) ?hd (xs := ([500, (-200), (-3000)] : List Int)) (inner := [.int .i64 500, .int .i64 (-200), .int .i64 (-3000)]) (ok := fun _ => True) (okp := fun _ => True) ?hr ?hp (fun _ hk => hk) trivial (Below.refl _ _) (Nat.le_refl _) (by simp) ?_; (case hd => rfl); (case hg => rfl); (case hr => first | (go_simp; done) | (go_simp; rfl)); (case hp => exact (Reps.one (show Kd.M (Kd.int .i64) _ _ _ 500 [.int .i64 500] from rfl) (Reps.one (show Kd.M (Kd.int .i64) _ _ _ (-200) [.int .i64 (-200)] from rfl) (Reps.one (show Kd.M (Kd.int .i64) _ _ _ (-3000) [.int .i64 (-3000)] from rfl) (Reps.none _ _))))); intro v611 w31 ho32 hb hg_ hnew_; clear hg_ hnew_; (first | rw [← Ny610.out] at ho32 | (simp only [Int.reduceToNat] at ho32; rw [← Ny610.out] at ho32)); have HO612 := Aside0.mk (Kd.R_lower (Kd.R_new' (Kd.R_new' (Kd.R_new' (Kd.R_new' (Kd.R_new' (Kd.R_new' (Kd.R_new' ho32 (Kd.R_lt (Zr HO582.out))) (Kd.R_lt (Zr HO585.out))) (Kd.R_lt (Zr HO593.out))) (Kd.R_lt (Zr HO595.out))) (Kd.R_lt (Zr HO600.out))) (Kd.R_lt (Zr HO603.out))) (Kd.R_lt (Zr HO608.out))) (Qay (Zb))); replace HO582 := Aside0.mk (Kd.R_elder' (Zr HO582.out) (Kd.R_base ho32) hb); replace HO585 := Aside0.mk (Kd.R_elder' (Zr HO585.out) (Kd.R_base ho32) hb); replace HO588 := Aside0.mk (Kd.R_below (Zr HO588.out) hb); replace HO593 := Aside0.mk (Kd.R_elder' (Zr HO593.out) (Kd.R_base ho32) hb); replace HO595 := Aside0.mk (Kd.R_elder' (Zr HO595.out) (Kd.R_base ho32) hb); replace HO600 := Aside0.mk (Kd.R_elder' (Zr HO600.out) (Kd.R_base ho32) hb); replace HO603 := Aside0.mk (Kd.R_elder' (Zr HO603.out) (Kd.R_base ho32) hb); replace HO608 := Aside0.mk (Kd.R_elder' (Zr HO608.out) (Kd.R_base ho32) hb); replace HB := Aside0.mk (Qax (Zb) hb); clear hb ho32; obtain ⟨Ao33, co33, eo33⟩ := Kd.R_slice HO595.out; subst eo33; obtain ⟨Ao34, co34, eo34⟩ := Kd.R_slice HO612.out; subst eo34) | (go_at_call 37; (with_reducible refine (Qaf.calls k _ _ t590 _ _ y610 t613 _ ?side1 ?side2 ?side3 ?side4 A26.out).mono ?_); (case side1 => exact Zv (Kd.R_reads' HO595.out).2.2); (case side2 => exact (Kd.R_reads' HO595.out).2.1); (case side3 => exact Zv (Kd.R_reads' HO612.out).2.2); (case side4 => exact (Kd.R_reads' HO612.out).2.1); rintro e w' ⟨rfl, ⟨nd, rfl⟩⟩))
       go_ret
       exact ⟨Zq, Zb⟩
      replace c25 := Bool.eq_false_iff.mpr c25
      subst c25
      have H1 : (some F) = some r := by rw [if_neg (show ¬ (F = T) by decide)] at H; exact H
      clear H
      have H := H1
      clear H1
      obtain rfl := Option.some.inj H
      go_wp2_with (first | ((with_reducible refine Qbi (N := 58) rfl ?_); (try (refine Qbp (by rfl) ?_; dsimp only)); refine Kd.R_lit (Kd.int .i64) _ 3 ?hg (N := 58) ?hd (xs := ([1, 1] : List Int)) (inner := [.int .i64 1, .int .i64 1]) (ok := fun _ => True) (okp := fun _ => True) ?hr ?hp (fun _ hk => hk) trivial (Below.refl _ _) (Nat.le_refl _) (by simp) ?_; (case hd => rfl); (case hg => rfl); (case hr => first | (go_simp; done) | (go_simp; rfl)); (case hp => exact (Reps.one (show Kd.M (Kd.int .i64) _ _ _ 1 [.int .i64 1] from rfl) (Reps.one (show Kd.M (Kd.int .i64) _ _ _ 1 [.int .i64 1] from rfl) (Reps.none _ _)))); intro v607 w35 ho36 hb hg_ hnew_; clear hg_ hnew_; (first | rw [← Ny606.out] at ho36 | (simp only [Int.reduceToNat] at ho36; rw [← Ny606.out] at ho36)); have HO608 := Aside0.mk (Kd.R_lower (Kd.R_new' (Kd.R_new' (Kd.R_new' (Kd.R_new' (Kd.R_new' (Kd.R_new' ho36 (Kd.R_lt (Zr HO582.out))) (Kd.R_lt (Zr HO585.out))) (Kd.R_lt (Zr HO593.out))) (Kd.R_lt (Zr HO595.out))) (Kd.R_lt (Zr HO600.out))) (Kd.R_lt (Zr HO603.out))) (Qay (Zb))); replace HO582 := Aside0.mk (Kd.R_elder' (Zr HO582.out) (Kd.R_base ho36) hb); replace HO585 := Aside0.mk (Kd.R_elder' (Zr HO585.out) (Kd.R_base ho36) hb); replace HO588 := Aside0.mk (Kd.R_below (Zr HO588.out) hb); replace HO593 := Aside0.mk (Kd.R_elder' (Zr HO593.out) (Kd.R_base ho36) hb); replace HO595 := Aside0.mk (Kd.R_elder' (Zr HO595.out) (Kd.R_base ho36) hb); replace HO600 := Aside0.mk (Kd.R_elder' (Zr HO600.out) (Kd.R_base ho36) hb); replace HO603 := Aside0.mk (Kd.R_elder' (Zr HO603.out) (Kd.R_base ho36) hb); replace HB := Aside0.mk (Qax (Zb) hb); clear hb ho36; obtain ⟨Ao37, co37, eo37⟩ := Kd.R_slice HO593.out; subst eo37; obtain ⟨Ao38, co38, eo38⟩ := Kd.R_slice HO608.out; subst eo38) | (go_at_call 37; (with_reducible refine (Qaf.calls k _ _ t589 _ _ y606 F _ ?side1 ?side2 ?side3 ?side4 A24.out).mono ?_); (case side1 => exact Zv (Kd.R_reads' HO593.out).2.2); (case side2 => exact (Kd.R_reads' HO593.out).2.1); (case side3 => exact Zv (Kd.R_reads' HO608.out).2.2); (case side4 => exact (Kd.R_reads' HO608.out).2.1); rintro e w' ⟨rfl, ⟨nd, rfl⟩⟩))
      go_ret
      exact ⟨Zq, Zb⟩
     rw [if_neg c23] at H
     have c23b0 : (t604 == 30) = F := beq_eq_false_iff_ne.mpr c23
     have c23b1 : (t604 != 30) = T := bne_iff_ne.mpr c23
     obtain rfl := Option.some.inj H
     go_wp2
     go_ret
     exact ⟨Zq, Zb⟩
    rw [if_neg c22] at H
    have c22b0 : (t596 == 16) = F := beq_eq_false_iff_ne.mpr c22
    have c22b1 : (t596 != 16) = T := bne_iff_ne.mpr c22
    obtain rfl := Option.some.inj H
    go_wp2
    go_ret
    exact ⟨Zq, Zb⟩
   rw [if_neg c21] at H
   have c21b0 : (t605 == 0) = F := beq_eq_false_iff_ne.mpr c21
   have c21b1 : (t605 != 0) = T := bne_iff_ne.mpr c21
   obtain rfl := Option.some.inj H
   go_wp2
   go_ret
   exact ⟨Zq, Zb⟩
  rw [if_neg c20] at H
  have c20b0 : (t598 == 0) = F := beq_eq_false_iff_ne.mpr c20
  have c20b1 : (t598 != 0) = T := bne_iff_ne.mpr c20
  obtain rfl := Option.some.inj H
  go_wp2
  go_ret
  exact ⟨Zq, Zb⟩
 rw [if_neg c19] at H
 have c19b0 : (t591 == 0) = F := beq_eq_false_iff_ne.mpr c19
 have c19b1 : (t591 != 0) = T := bne_iff_ne.mpr c19
 (try simp only [c19b0, c19b1])
 obtain rfl := Option.some.inj H
 go_wp2
 go_ret
 exact ⟨Zq, Zb⟩
def contangolaw24_TierOutright.f (k : Nat) (l0 : List Int) (a1 : Int) : Option (Bool) := (Qap.f k l0 a1).bind fun bt717 => ((Qag.f k l0 a1).bind fun bt719 => (if bt717.1 = bt719.1 then (if bt717.2 = bt719.2 then ((Qai.f k).bind fun t721 => (some t721)) else (some F)) else (some F)))
theorem contangolaw24_TierOutright.mono : ∀ a0 a1 k, LeO (contangolaw24_TierOutright.f k a0 a1) (contangolaw24_TierOutright.f (k + 1) a0 a1) := by
 intro a0 a1 k
 unfold contangolaw24_TierOutright.f
 exact ZM3 Qai.mono Qag.mono Qap.mono
theorem contangolaw24_TierOutright.calls (k : Nat) (A0 : Option Addr) (c0 : Nat) (l0 : List Int) (a1 : Int) (r : Bool) (w : World) (hr0 : Kd.C (Kd.int .i64) w A0 l0.length l0) (hc0 : l0.length ≤ c0) (h : contangolaw24_TierOutright.f k l0 a1 = some r) :
  Calls Try.prog 8 #[.slice A0 l0.length c0, .int .i64 a1] w fun e w' => e = .returned (.bool r) ∧ Below w.heap.size w w' := by
 have HR0 := Aside0.mk hr0
 have HC0 := Aside0.mk hc0
 clear hr0 hc0
 have HB := Aside0.mk (Below.refl w.heap.size w)
 have H : ((Qap.f k l0 a1).bind fun bt717 => ((Qag.f k l0 a1).bind fun bt719 => (if bt717.1 = bt719.1 then (if bt717.2 = bt719.2 then ((Qai.f k).bind fun t721 => (some t721)) else (some F)) else (some F)))) = some r := h
 clear h
 replace H := Option.bind_eq_some_iff.mp H
 obtain ⟨⟨t717, t718⟩, A30, H⟩ := H
 replace H : ((Qag.f k l0 a1).bind fun bt719 => (if t717 = bt719.1 then (if t718 = bt719.2 then ((Qai.f k).bind fun t721 => (some t721)) else (some F)) else (some F))) = some r := H
 have A3 := Aside0.mk A30
 clear A30
 replace H := Option.bind_eq_some_iff.mp H
 obtain ⟨⟨t719, t720⟩, A40, H⟩ := H
 replace H : (if t717 = t719 then (if t718 = t720 then ((Qai.f k).bind fun t721 => (some t721)) else (some F)) else (some F)) = some r := H
 have A4 := Aside0.mk A40
 clear A40
 go_enter Try.func8, Try.ntmps8
 go_upto_region 3 with (first | ((with_reducible refine Qat (f := 40) rfl ?_); refine goesL_ (some 12) rfl rfl Try.func40 (by kernel_rfl) rfl #[.slice A0 l0.length c0, .int .i64 a1] rfl (Zl) ?_; (with_reducible refine (Qap.calls k _ _ l0 a1 t717 t718 _ ?side1 ?side2 A3.out).mono ?_); (case side1 => exact Zv HR0.out); (case side2 => exact HC0.out); rintro e w5 ⟨rfl, hb⟩; refine ⟨_, rfl, ?_⟩; replace HB := Aside0.mk (Qax (Zb) hb); (try clear hb); (try clear hb2); (try clear hk); (try clear hi)) | ((with_reducible refine Qat (f := 41) rfl ?_); refine goesL_ (some 18) rfl rfl Try.func41 (by kernel_rfl) rfl #[.slice A0 l0.length c0, .int .i64 a1] rfl (Zl) ?_; (with_reducible refine (Qag.calls k _ _ l0 a1 t719 t720 _ ?side1 ?side2 A4.out).mono ?_); (case side1 => exact Zv (Kd.C_below HR0.out HB.out)); (case side2 => exact HC0.out); rintro e w' ⟨rfl, ⟨nd, rfl⟩⟩; refine ⟨_, rfl, ?_⟩))
 (try simp only [Act.put, Zj, Zk, Zm])
 by_cases c6 : t717 = t719
 ·rw [if_pos c6] at H
  have c6b0 : (t717 == t719) = T := beq_iff_eq.mpr c6
  have c6b1 : (t717 != t719) = F := bne_eq_false_iff_eq.mpr c6
  clear c6
  (try simp only [c6b0, c6b1])
  by_cases c7 : t718 = t720
  ·rw [if_pos c7] at H
   have c7b0 : (t718 == t720) = T := beq_iff_eq.mpr c7
   have c7b1 : (t718 != t720) = F := bne_eq_false_iff_eq.mpr c7
   clear c7
   replace H := Option.bind_eq_some_iff.mp H
   obtain ⟨t721, A80, H⟩ := H
   replace H : (some t721) = some r := H
   have A8 := Aside0.mk A80
   clear A80
   obtain rfl := Option.some.inj H
   go_wp2_with (first | (go_at_call 32; (with_reducible refine (Qai.calls k  t721 _ A8.out).mono ?_); rintro e w9 ⟨rfl, hb⟩; replace HB := Aside0.mk (Qax (Zb) hb); (try clear hb); (try clear hb2); (try clear hk); (try clear hi)))
   go_ret
   exact ⟨Zq, Zb⟩
  rw [if_neg c7] at H
  have c7b0 : (t718 == t720) = F := beq_eq_false_iff_ne.mpr c7
  have c7b1 : (t718 != t720) = T := bne_iff_ne.mpr c7
  obtain rfl := Option.some.inj H
  go_wp2
  go_ret
  exact ⟨Zq, Zb⟩
 rw [if_neg c6] at H
 have c6b0 : (t717 == t719) = F := beq_eq_false_iff_ne.mpr c6
 have c6b1 : (t717 != t719) = T := bne_iff_ne.mpr c6
 (try simp only [c6b0, c6b1])
 obtain rfl := Option.some.inj H
 go_wp2
 go_ret
 exact ⟨Zq, Zb⟩
mutual
def contangolaw24_TierKeeps.j0 : Nat → List Int → List Int → List (S91) → Bool → Option (Bool)
 | 0, _, _, _, _ => none
 | k + 1, x0, x1, x2, x25 => if x25 = T then ((Qai.f k).bind fun t722 => (some t722)) else ((Qae.f k x0 x1 x2).bind fun bt723 => (if bt723.2.2 = 0 then (if (bt723.2.1.length : Int) = (x1.length : Int) then (contangolaw24_TierKeeps.j1 k x1 bt723.2.1 0 0 ((bt723.1.length : Int) != (x2.length : Int))) else (contangolaw24_TierKeeps.j1 k x1 bt723.2.1 0 0 T)) else (if (wrap64 ((bt723.1.length : Int) + (bt723.2.1.length : Int))) = 0 then ((Qai.f k).bind fun t730 => (some t730)) else (some F))))
def contangolaw24_TierKeeps.j1 : Nat → List Int → List Int → Int → Int → Bool → Option (Bool)
 | 0, _, _, _, _, _ => none
 | k + 1, x1, x8, x10, x11, x57 => if x57 = T then (some F) else (contangolaw24_TierKeeps.l0 k x1 x8 x10 x11 0)
def contangolaw24_TierKeeps.l0 : Nat → List Int → List Int → Int → Int → Int → Option (Bool)
 | 0, _, _, _, _, _ => none
 | k + 1, x1, x8, x10, x11, x12 => if x12 < (x8.length : Int) then (if 0 ≤ x12 then (if x12 < (x1.length : Int) then (if (Int.tmod (wrap64 ((rd x1 x12) - (rd x8 x12))) 1000) = 0 then (if (rd x1 x12) ≥ 0 then (if (rd x8 x12) < 0 then (some F) else (if (rd x8 x12) > (rd x1 x12) then (some F) else (if (rd x1 x12) ≤ 0 then (if (rd x8 x12) > 0 then (some F) else (if (rd x8 x12) < (rd x1 x12) then (some F) else (contangolaw24_TierKeeps.l0 k x1 x8 (wrap64 (x10 + (rd x1 x12))) (wrap64 (x11 + (rd x8 x12))) (wrap64 (x12 + 1))))) else (contangolaw24_TierKeeps.l0 k x1 x8 (wrap64 (x10 + (rd x1 x12))) (wrap64 (x11 + (rd x8 x12))) (wrap64 (x12 + 1)))))) else (if (rd x1 x12) ≤ 0 then (if (rd x8 x12) > 0 then (some F) else (if (rd x8 x12) < (rd x1 x12) then (some F) else (contangolaw24_TierKeeps.l0 k x1 x8 (wrap64 (x10 + (rd x1 x12))) (wrap64 (x11 + (rd x8 x12))) (wrap64 (x12 + 1))))) else (contangolaw24_TierKeeps.l0 k x1 x8 (wrap64 (x10 + (rd x1 x12))) (wrap64 (x11 + (rd x8 x12))) (wrap64 (x12 + 1))))) else (some F)) else (none)) else (none)) else (if x10 = x11 then ((Qai.f k).bind fun t747 => (some t747)) else (some F))
end
def contangolaw24_TierKeeps.f (k : Nat) (l0 : List Int) (l1 : List Int) (l2 : List (S91)) : Option (Bool) := if (l0.length : Int) > 200 then (contangolaw24_TierKeeps.j0 k l0 l1 l2 T) else (if (l1.length : Int) > 200 then (contangolaw24_TierKeeps.j0 k l0 l1 l2 T) else (contangolaw24_TierKeeps.j0 k l0 l1 l2 (decide ((l2.length : Int) > 1100))))
theorem contangolaw24_TierKeeps.mono_l : ∀ k, (∀ y0 y1 y2 y3, LeO (contangolaw24_TierKeeps.j0 k y0 y1 y2 y3) (contangolaw24_TierKeeps.j0 (k + 1) y0 y1 y2 y3)) ∧ (∀ y0 y1 y2 y3 y4, LeO (contangolaw24_TierKeeps.j1 k y0 y1 y2 y3 y4) (contangolaw24_TierKeeps.j1 (k + 1) y0 y1 y2 y3 y4)) ∧ (∀ y0 y1 y2 y3 y4, LeO (contangolaw24_TierKeeps.l0 k y0 y1 y2 y3 y4) (contangolaw24_TierKeeps.l0 (k + 1) y0 y1 y2 y3 y4))
 | 0 => ⟨fun _ _ _ _ r h => by simp [contangolaw24_TierKeeps.j0] at h, fun _ _ _ _ _ r h => by simp [contangolaw24_TierKeeps.j1] at h, fun _ _ _ _ _ r h => by simp [contangolaw24_TierKeeps.l0] at h⟩
 | k + 1 => by
  obtain ⟨ih0, ih1, ih2⟩ := contangolaw24_TierKeeps.mono_l k
  refine ⟨?_, ?_, ?_⟩
  ·intro y0 y1 y2 y3
   unfold contangolaw24_TierKeeps.j0
   exact ZM5 ih0 ih1 ih2 Qai.mono Qae.mono
  ·intro y0 y1 y2 y3 y4
   unfold contangolaw24_TierKeeps.j1
   exact ZM5 ih0 ih1 ih2 Qai.mono Qae.mono
  intro y0 y1 y2 y3 y4
  unfold contangolaw24_TierKeeps.l0
  exact ZM5 ih0 ih1 ih2 Qai.mono Qae.mono
theorem contangolaw24_TierKeeps.mono : ∀ a0 a1 a2 k, LeO (contangolaw24_TierKeeps.f k a0 a1 a2) (contangolaw24_TierKeeps.f (k + 1) a0 a1 a2) := by
 intro a0 a1 a2 k
 obtain ⟨ih0, ih1, ih2⟩ := contangolaw24_TierKeeps.mono_l k
 unfold contangolaw24_TierKeeps.f
 exact ZM5 ih0 ih1 ih2 Qai.mono Qae.mono
theorem contangolaw24_TierKeeps.calls (k : Nat) (A0 : Option Addr) (c0 : Nat) (l0 : List Int) (A1 : Option Addr) (c1 : Nat) (l1 : List Int) (A2 : Option Addr) (c2 : Nat) (l2 : List (S91)) (r : Bool) (w : World) (hr0 : Kd.C (Kd.int .i64) w A0 l0.length l0) (hc0 : l0.length ≤ c0) (hr1 : Kd.C (Kd.int .i64) w A1 l1.length l1) (hc1 : l1.length ≤ c1) (hr2 : Kd.C k91 w A2 l2.length l2) (hc2 : l2.length ≤ c2) (h : contangolaw24_TierKeeps.f k l0 l1 l2 = some r) :
  Calls Try.prog 9 #[.slice A0 l0.length c0, .slice A1 l1.length c1, .slice A2 l2.length c2] w fun e w' => e = .returned (.bool r) ∧ Below w.heap.size w w' := by
 have HR0 := Aside0.mk hr0
 have HC0 := Aside0.mk hc0
 clear hr0 hc0
 have HR1 := Aside0.mk hr1
 have HC1 := Aside0.mk hc1
 clear hr1 hc1
 have HR2 := Aside0.mk hr2
 have HC2 := Aside0.mk hc2
 clear hr2 hc2
 have HB := Aside0.mk (Below.refl w.heap.size w)
 have H : (if (l0.length : Int) > 200 then (contangolaw24_TierKeeps.j0 k l0 l1 l2 T) else (if (l1.length : Int) > 200 then (contangolaw24_TierKeeps.j0 k l0 l1 l2 T) else (contangolaw24_TierKeeps.j0 k l0 l1 l2 (decide ((l2.length : Int) > 1100))))) = some r := h
 clear h
 have HC4 := Aside0.mk H
 clear H
 go_enter Try.func9, Try.ntmps9
 go_upto_region 1 with (fail)
 repeat (go_quiet (fail); go_upto_region 1 with (fail))
 go_cut [25] (fun v25 wc => ∃ (kq : Nat) (x25_3 : Bool), v25 = .bool x25_3 ∧ Aside0 (contangolaw24_TierKeeps.j0 kq l0 l1 l2 x25_3 = some r) ∧ Aside0 (kq ≤ k) ∧ Aside0 (Below w.heap.size w wc))
 case first =>
  have H := HC4.out
  clear HC4
  by_cases c5 : (l0.length : Int) > 200
  ·rw [if_pos c5] at H
   have c5b0 : decide (200 < (l0.length : Int)) = T := decide_eq_true c5
   have c5b1 : decide (200 < l0.length) = T := decide_eq_true (by omega)
   clear c5
   have H' := Aside0.mk H
   clear H
   go_wp2
   repeat (go_quiet (fail); try go_wp2)
   go_meet
   case rel => exact ⟨_, (T), (Zs), H', ⟨by first | omega | exact Nat.le_refl _⟩, ⟨Zb⟩⟩
  rw [if_neg c5] at H
  have c5b0 : decide (200 < (l0.length : Int)) = F := decide_eq_false c5
  have c5b1 : decide (200 < l0.length) = F := decide_eq_false (by omega)
  clear c5
  by_cases c6 : (l1.length : Int) > 200
  ·rw [if_pos c6] at H
   have c6b0 : decide (200 < (l1.length : Int)) = T := decide_eq_true c6
   have c6b1 : decide (200 < l1.length) = T := decide_eq_true (by omega)
   clear c6
   have H' := Aside0.mk H
   clear H
   go_wp2
   repeat (go_quiet (fail); try go_wp2)
   go_meet
   case rel => exact ⟨_, (T), (Zs), H', ⟨by first | omega | exact Nat.le_refl _⟩, ⟨Zb⟩⟩
  rw [if_neg c6] at H
  have c6b0 : decide (200 < (l1.length : Int)) = F := decide_eq_false c6
  have c6b1 : decide (200 < l1.length) = F := decide_eq_false (by omega)
  clear c6
  have H' := Aside0.mk H
  clear H
  go_wp2
  repeat (go_quiet (fail); try go_wp2)
  go_meet
  case rel => exact ⟨_, (decide ((l2.length : Int) > 1100)), (Zs), H', ⟨by first | omega | exact Nat.le_refl _⟩, ⟨Zb⟩⟩
 case rest =>
  clear HC4
  try clear c1
  try clear c2
  try clear p2
  try clear c5
  try clear c5b0
  try clear c5b1
  try clear c6
  try clear c6b0
  try clear c6b1
  obtain ⟨kq, x25_3, rfl, HA, HJ3, HB⟩ := hcut
  cases kq with
  | zero => exact absurd HA.out (by simp [contangolaw24_TierKeeps.j0])
  | succ kj3 =>
   have H := HA.out
   clear HA
   simp only [contangolaw24_TierKeeps.j0] at H
   by_cases c7 : x25_3 = T
   ·subst c7
    have H1 : ((Qai.f kj3).bind fun t722 => (some t722)) = some r := by rw [if_pos rfl] at H; exact H
    clear H
    have H := H1
    clear H1
    replace H := Option.bind_eq_some_iff.mp H
    obtain ⟨t722, A80, H⟩ := H
    replace H : (some t722) = some r := H
    have A8 := Aside0.mk A80
    clear A80
    obtain rfl := Option.some.inj H
    go_wp2_with (first | (go_at_call 32; (with_reducible refine (Qai.calls kj3  t722 _ A8.out).mono ?_); rintro e w9 ⟨rfl, hb⟩; replace HB := Aside0.mk (Qax (Zb) hb); (try clear hb); (try clear hb2); (try clear hk); (try clear hi)))
    repeat (go_quiet (first | (go_at_call 32; (with_reducible refine (Qai.calls kj3  t722 _ A8.out).mono ?_); rintro e w9 ⟨rfl, hb⟩; replace HB := Aside0.mk (Qax (Zb) hb); (try clear hb); (try clear hb2); (try clear hk); (try clear hi))); try go_wp2_with (first | (go_at_call 32; (with_reducible refine (Qai.calls kj3  t722 _ A8.out).mono ?_); rintro e w9 ⟨rfl, hb⟩; replace HB := Aside0.mk (Qax (Zb) hb); (try clear hb); (try clear hb2); (try clear hk); (try clear hi))))
    go_ret
    exact ⟨Zq, Zb⟩
   replace c7 := Bool.eq_false_iff.mpr c7
   subst c7
   have H1 : ((Qae.f kj3 l0 l1 l2).bind fun bt723 => (if bt723.2.2 = 0 then (if (bt723.2.1.length : Int) = (l1.length : Int) then (contangolaw24_TierKeeps.j1 kj3 l1 bt723.2.1 0 0 ((bt723.1.length : Int) != (l2.length : Int))) else (contangolaw24_TierKeeps.j1 kj3 l1 bt723.2.1 0 0 T)) else (if (wrap64 ((bt723.1.length : Int) + (bt723.2.1.length : Int))) = 0 then ((Qai.f kj3).bind fun t730 => (some t730)) else (some F)))) = some r := by rw [if_neg (show ¬ (F = T) by decide)] at H; exact H
   clear H
   have H := H1
   clear H1
   replace H := Option.bind_eq_some_iff.mp H
   obtain ⟨⟨t723, t724, t725⟩, A100, H⟩ := H
   replace H : (if t725 = 0 then (if (t724.length : Int) = (l1.length : Int) then (contangolaw24_TierKeeps.j1 kj3 l1 t724 0 0 ((t723.length : Int) != (l2.length : Int))) else (contangolaw24_TierKeeps.j1 kj3 l1 t724 0 0 T)) else (if (wrap64 ((t723.length : Int) + (t724.length : Int))) = 0 then ((Qai.f kj3).bind fun t730 => (some t730)) else (some F))) = some r := H
   have A10 := Aside0.mk A100
   clear A100
   go_upto_if 36 with (first | (go_at_call 33; (with_reducible refine (Qae.calls kj3 _ _ l0 _ _ l1 _ _ l2 t723 t724 t725 _ ?side1 ?side2 ?side3 ?side4 ?side5 ?side6 A10.out).mono ?_); (case side1 => exact Zv (Kd.C_below HR0.out HB.out)); (case side2 => exact HC0.out); (case side3 => exact Zv (Kd.C_below HR1.out HB.out)); (case side4 => exact HC1.out); (case side5 => exact Zv (Kd.C_below HR2.out HB.out)); (case side6 => exact HC2.out); rintro e w11 ⟨v726, v728, rfl, ho0, ho1, hb⟩; have HO727 := Aside0.mk (Kd.R_lower ho0 (Qay (Zb))); have HO729 := Aside0.mk (Kd.R_lower ho1 (Qay (Zb))); replace HB := Aside0.mk (Qax (Zb) hb); (try clear hb); (try clear hb2); (try clear hk); (try clear hi); (try clear ho0); (try clear ho1)))
   repeat (go_quiet (first | (go_at_call 33; (with_reducible refine (Qae.calls kj3 _ _ l0 _ _ l1 _ _ l2 t723 t724 t725 _ ?side1 ?side2 ?side3 ?side4 ?side5 ?side6 A10.out).mono ?_); (case side1 => exact Zv (Kd.C_below HR0.out HB.out)); (case side2 => exact HC0.out); (case side3 => exact Zv (Kd.C_below HR1.out HB.out)); (case side4 => exact HC1.out); (case side5 => exact Zv (Kd.C_below HR2.out HB.out)); (case side6 => exact HC2.out); rintro e w11 ⟨v726, v728, rfl, ho0, ho1, hb⟩; have HO727 := Aside0.mk (Kd.R_lower ho0 (Qay (Zb))); have HO729 := Aside0.mk (Kd.R_lower ho1 (Qay (Zb))); replace HB := Aside0.mk (Qax (Zb) hb); (try clear hb); (try clear hb2); (try clear hk); (try clear hi); (try clear ho0); (try clear ho1))); go_upto_if 36 with (first | (go_at_call 33; (with_reducible refine (Qae.calls kj3 _ _ l0 _ _ l1 _ _ l2 t723 t724 t725 _ ?side1 ?side2 ?side3 ?side4 ?side5 ?side6 A10.out).mono ?_); (case side1 => exact Zv (Kd.C_below HR0.out HB.out)); (case side2 => exact HC0.out); (case side3 => exact Zv (Kd.C_below HR1.out HB.out)); (case side4 => exact HC1.out); (case side5 => exact Zv (Kd.C_below HR2.out HB.out)); (case side6 => exact HC2.out); rintro e w11 ⟨v726, v728, rfl, ho0, ho1, hb⟩; have HO727 := Aside0.mk (Kd.R_lower ho0 (Qay (Zb))); have HO729 := Aside0.mk (Kd.R_lower ho1 (Qay (Zb))); replace HB := Aside0.mk (Qax (Zb) hb); (try clear hb); (try clear hb2); (try clear hk); (try clear hi); (try clear ho0); (try clear ho1))))
   (try simp only [Act.put, Zj, Zk, Zm])
   by_cases c12 : t725 = 0
   ·rw [if_pos c12] at H
    have c12b0 : (t725 == 0) = T := beq_iff_eq.mpr c12
    have c12b1 : (t725 != 0) = F := bne_eq_false_iff_eq.mpr c12
    clear c12
    (try simp only [c12b0, c12b1])
    have HC13 := Aside0.mk H
    clear H
    go_upto_region 7 with (fail)
    repeat (go_quiet (fail); go_upto_region 7 with (fail))
    go_cut [57] (fun v57 wc => ∃ (kq : Nat) (x57_12 : Bool), v57 = .bool x57_12 ∧ Aside0 (contangolaw24_TierKeeps.j1 kq l1 t724 0 0 x57_12 = some r) ∧ Aside0 (kq ≤ kj3) ∧ Aside0 (Kd.R (Kd.int .i64) 3 wc w.heap.size (fun _ => True) v728 t724) ∧ Aside0 (Below w.heap.size w wc))
    case first =>
     have H := HC13.out
     clear HC13
     by_cases c14 : (t724.length : Int) = (l1.length : Int)
     ·rw [if_pos c14] at H
      have c14b0 : ((t724.length : Int) == (l1.length : Int)) = T := beq_iff_eq.mpr c14
      have c14b1 : ((t724.length : Int) != (l1.length : Int)) = F := bne_eq_false_iff_eq.mpr c14
      have c14b2 : (t724.length == l1.length) = T := by first | simpa using c14 | (simp at c14 ⊢; omega)
      clear c14
      have H' := Aside0.mk H
      clear H
      obtain ⟨Ao15, co15, eo15⟩ := Kd.R_slice HO729.out
      subst eo15
      obtain ⟨Ao16, co16, eo16⟩ := Kd.R_slice HO727.out
      subst eo16
      go_wp2
      repeat (go_quiet (fail); try go_wp2)
      go_meet
      case rel => exact ⟨_, (((t723.length : Int) != (l2.length : Int))), (Zs), H', ⟨by have := HJ3.out; first | omega | exact Nat.le_refl _⟩, ⟨by (with_reducible repeat (first | apply Kd.R_alloc | apply Kd.R_drewN | apply Kd.R_drew)); exact Kd.R_mono HO729.out (fun _ hk => trivial)⟩, ⟨Zb⟩⟩
     rw [if_neg c14] at H
     have c14b0 : ((t724.length : Int) == (l1.length : Int)) = F := beq_eq_false_iff_ne.mpr c14
     have c14b1 : ((t724.length : Int) != (l1.length : Int)) = T := bne_iff_ne.mpr c14
     have c14b2 : (t724.length == l1.length) = F := by first | simpa using c14 | (simp at c14 ⊢; omega)
     have H' := Aside0.mk H
     clear H
     obtain ⟨Ao17, co17, eo17⟩ := Kd.R_slice HO729.out
     subst eo17
     go_wp2
     repeat (go_quiet (fail); try go_wp2)
     go_meet
     case rel => exact ⟨_, (T), (Zs), H', ⟨by have := HJ3.out; first | omega | exact Nat.le_refl _⟩, ⟨by (with_reducible repeat (first | apply Kd.R_alloc | apply Kd.R_drewN | apply Kd.R_drew)); exact Kd.R_mono HO729.out (fun _ hk => trivial)⟩, ⟨Zb⟩⟩
    case rest =>
     clear HC13
     try clear c1
     try clear c2
     try clear p2
     try clear c5
     try clear c5b0
     try clear c5b1
     try clear c6
     try clear c6b0
     try clear c6b1
     try clear p6
     try clear c7
     try clear c9
     try clear c12
     try clear c12b0
     try clear c12b1
     try clear c14
     try clear c14b0
     try clear c14b1
     try clear c14b2
     try clear p2
     obtain ⟨kq, x57_12, rfl, HA, HJ12, HO_8, HB⟩ := hcut
     cases kq with
     | zero => exact absurd HA.out (by simp [contangolaw24_TierKeeps.j1])
     | succ kj12 =>
      have H := HA.out
      clear HA
      simp only [contangolaw24_TierKeeps.j1] at H
      by_cases c18 : x57_12 = T
      ·subst c18
       have H1 : (some F) = some r := by rw [if_pos rfl] at H; exact H
       clear H
       have H := H1
       clear H1
       obtain rfl := Option.some.inj H
       go_wp2
       repeat (go_quiet (fail); try go_wp2)
       go_ret
       exact ⟨Zq, Zb⟩
      replace c18 := Bool.eq_false_iff.mpr c18
      subst c18
      have H1 : (contangolaw24_TierKeeps.l0 kj12 l1 t724 0 0 0) = some r := by rw [if_neg (show ¬ (F = T) by decide)] at H; exact H
      clear H
      have H := H1
      clear H1
      have H' := Aside0.mk H
      clear H
      go_wp2
      repeat (go_quiet (fail); try go_wp2)
      go_loopg [10, 11, 12] kj12 (fun kq v10 v11 v12 w' => ∃ (x10_3 : Int) (x11_3 : Int) (x12_3 : Int), v10 = .int .i64 x10_3 ∧ v11 = .int .i64 x11_3 ∧ v12 = .int .i64 x12_3 ∧ Aside0 (contangolaw24_TierKeeps.l0 kq l1 t724 x10_3 x11_3 x12_3 = some r) ∧ Aside0 (kq ≤ kj12) ∧ Aside0 (Kd.R (Kd.int .i64) 3 w' w.heap.size (fun _ => True) v728 t724) ∧ Aside0 (Below w.heap.size w w'))
      case atStart => exact ⟨(0), (0), (0), (Zs), (Zs), (Zs), H', ⟨Nat.le_refl _⟩, ⟨Zr HO_8.out⟩, ⟨Zb⟩⟩
      case round =>
       clear H'
       try clear c1
       try clear c2
       try clear p2
       try clear c5
       try clear c5b0
       try clear c5b1
       try clear c6
       try clear c6b0
       try clear c6b1
       try clear p6
       try clear c7
       try clear c9
       try clear c12
       try clear c12b0
       try clear c12b1
       try clear c14
       try clear c14b0
       try clear c14b1
       try clear c14b2
       try clear c18
       try clear p2
       try clear p6
       obtain ⟨x10_3, x11_3, x12_3, rfl, rfl, rfl, HA, HK3, HO_8, HB⟩ := hrel
       cases gk with
       | zero => exact absurd HA.out (by simp [contangolaw24_TierKeeps.l0])
       | succ k3 =>
        have H := HA.out
        clear HA
        simp only [contangolaw24_TierKeeps.l0] at H
        obtain ⟨Ao19, co19, eo19⟩ := Kd.R_slice HO_8.out
        subst eo19
        go_upto_if 61 with (fail)
        repeat (go_quiet (fail); go_upto_if 61 with (fail))
        by_cases c20 : x12_3 < (t724.length : Int)
        ·rw [if_pos c20] at H
         have c20b0 : decide (x12_3 < (t724.length : Int)) = T := decide_eq_true c20
         clear c20
         (try simp only [c20b0])
         by_cases c21 : 0 ≤ x12_3
         ·rw [if_pos c21] at H
          have c21b0 : decide (0 ≤ x12_3) = T := decide_eq_true c21
          clear c21
          by_cases c22 : x12_3 < (l1.length : Int)
          ·rw [if_pos c22] at H
           have c22b0 : decide (x12_3 < (l1.length : Int)) = T := decide_eq_true c22
           clear c22
           have p731 : 0 ≤ (x12_3 : Int) := Ze
           have q731 : x12_3 < (l1.length : Int) := Ze
           obtain ⟨ad731, e731, hx731_0⟩ := Kd.at_int HR1.out x12_3 p731 q731
           cases e731
           replace hx731_0 := Zx HB.out hx731_0
           replace p731 := eq_true p731
           replace q731 := eq_true q731
           have p732 : 0 ≤ (x12_3 : Int) := Ze
           have q732 : x12_3 < (t724.length : Int) := Ze
           obtain ⟨ad732, e732, hx732_0⟩ := Kd.at_int (Kd.R_reads' HO_8.out).2.2 x12_3 p732 q732
           cases e732
           replace p732 := eq_true p732
           replace q732 := eq_true q732
           go_upto_region 13 with (fail)
           repeat (go_quiet (fail); go_upto_region 13 with (fail))
           by_cases c23 : (Int.tmod (wrap64 ((rd l1 x12_3) - (rd t724 x12_3))) 1000) = 0
           ·rw [if_pos c23] at H
            have c23b0 : ((Int.tmod (wrap64 ((rd l1 x12_3) - (rd t724 x12_3))) 1000) == 0) = T := beq_iff_eq.mpr c23
            have c23b1 : ((Int.tmod (wrap64 ((rd l1 x12_3) - (rd t724 x12_3))) 1000) != 0) = F := bne_eq_false_iff_eq.mpr c23
            clear c23
            (try simp only [c23b0, c23b1])
            by_cases c24 : (rd l1 x12_3) ≥ 0
            ·rw [if_pos c24] at H
             have c24b0 : decide (0 ≤ (rd l1 x12_3)) = T := decide_eq_true c24
             clear c24
             by_cases c25 : (rd t724 x12_3) < 0
             ·rw [if_pos c25] at H
              have c25b0 : decide ((rd t724 x12_3) < 0) = T := decide_eq_true c25
              clear c25
              obtain rfl := Option.some.inj H
              have p733 : 0 ≤ (x12_3 : Int) := Ze
              have q733 : x12_3 < (l1.length : Int) := Ze
              obtain ⟨ad733, e733, hx733_0⟩ := Kd.at_int HR1.out x12_3 p733 q733
              obtain rfl : ad731 = ad733 := (by injection e733)
              replace hx733_0 := Zx HB.out hx733_0
              replace p733 := eq_true p733
              replace q733 := eq_true q733
              have p734 : 0 ≤ (x12_3 : Int) := Ze
              have q734 : x12_3 < (t724.length : Int) := Ze
              obtain ⟨ad734, e734, hx734_0⟩ := Kd.at_int (Kd.R_reads' HO_8.out).2.2 x12_3 p734 q734
              obtain rfl : ad732 = ad734 := (by injection e734)
              replace p734 := eq_true p734
              replace q734 := eq_true q734
              have p735 : 0 ≤ (x12_3 : Int) := Ze
              have q735 : x12_3 < (l1.length : Int) := Ze
              obtain ⟨ad735, e735, hx735_0⟩ := Kd.at_int HR1.out x12_3 p735 q735
              obtain rfl : ad731 = ad735 := (by injection e735)
              replace hx735_0 := Zx HB.out hx735_0
              replace p735 := eq_true p735
              replace q735 := eq_true q735
              have p736 : 0 ≤ (x12_3 : Int) := Ze
              have q736 : x12_3 < (t724.length : Int) := Ze
              obtain ⟨ad736, e736, hx736_0⟩ := Kd.at_int (Kd.R_reads' HO_8.out).2.2 x12_3 p736 q736
              obtain rfl : ad732 = ad736 := (by injection e736)
              replace p736 := eq_true p736
              replace q736 := eq_true q736
              go_wp2
              repeat (go_quiet (fail); try go_wp2)
              go_ret
              exact ⟨Zq, Zb⟩
             rw [if_neg c25] at H
             have c25b0 : decide ((rd t724 x12_3) < 0) = F := decide_eq_false c25
             clear c25
             by_cases c26 : (rd t724 x12_3) > (rd l1 x12_3)
             ·rw [if_pos c26] at H
              have c26b0 : decide ((rd l1 x12_3) < (rd t724 x12_3)) = T := decide_eq_true c26
              clear c26
              obtain rfl := Option.some.inj H
              have p733 : 0 ≤ (x12_3 : Int) := Ze
              have q733 : x12_3 < (l1.length : Int) := Ze
              obtain ⟨ad733, e733, hx733_0⟩ := Kd.at_int HR1.out x12_3 p733 q733
              obtain rfl : ad731 = ad733 := (by injection e733)
              replace hx733_0 := Zx HB.out hx733_0
              replace p733 := eq_true p733
              replace q733 := eq_true q733
              have p734 : 0 ≤ (x12_3 : Int) := Ze
              have q734 : x12_3 < (t724.length : Int) := Ze
              obtain ⟨ad734, e734, hx734_0⟩ := Kd.at_int (Kd.R_reads' HO_8.out).2.2 x12_3 p734 q734
              obtain rfl : ad732 = ad734 := (by injection e734)
              replace p734 := eq_true p734
              replace q734 := eq_true q734
              have p735 : 0 ≤ (x12_3 : Int) := Ze
              have q735 : x12_3 < (l1.length : Int) := Ze
              obtain ⟨ad735, e735, hx735_0⟩ := Kd.at_int HR1.out x12_3 p735 q735
              obtain rfl : ad731 = ad735 := (by injection e735)
              replace hx735_0 := Zx HB.out hx735_0
              replace p735 := eq_true p735
              replace q735 := eq_true q735
              have p736 : 0 ≤ (x12_3 : Int) := Ze
              have q736 : x12_3 < (t724.length : Int) := Ze
              obtain ⟨ad736, e736, hx736_0⟩ := Kd.at_int (Kd.R_reads' HO_8.out).2.2 x12_3 p736 q736
              obtain rfl : ad732 = ad736 := (by injection e736)
              replace p736 := eq_true p736
              replace q736 := eq_true q736
              have p737 : 0 ≤ (x12_3 : Int) := Ze
              have q737 : x12_3 < (t724.length : Int) := Ze
              obtain ⟨ad737, e737, hx737_0⟩ := Kd.at_int (Kd.R_reads' HO_8.out).2.2 x12_3 p737 q737
              obtain rfl : ad732 = ad737 := (by injection e737)
              replace p737 := eq_true p737
              replace q737 := eq_true q737
              have p738 : 0 ≤ (x12_3 : Int) := Ze
              have q738 : x12_3 < (l1.length : Int) := Ze
              obtain ⟨ad738, e738, hx738_0⟩ := Kd.at_int HR1.out x12_3 p738 q738
              obtain rfl : ad731 = ad738 := (by injection e738)
              replace hx738_0 := Zx HB.out hx738_0
              replace p738 := eq_true p738
              replace q738 := eq_true q738
              go_wp2
              repeat (go_quiet (fail); try go_wp2)
              go_ret
              exact ⟨Zq, Zb⟩
             rw [if_neg c26] at H
             have c26b0 : decide ((rd l1 x12_3) < (rd t724 x12_3)) = F := decide_eq_false c26
             clear c26
             by_cases c27 : (rd l1 x12_3) ≤ 0
             ·rw [if_pos c27] at H
              have c27b0 : decide ((rd l1 x12_3) ≤ 0) = T := decide_eq_true c27
              clear c27
              by_cases c28 : (rd t724 x12_3) > 0
              ·rw [if_pos c28] at H
               have c28b0 : decide (0 < (rd t724 x12_3)) = T := decide_eq_true c28
               clear c28
               obtain rfl := Option.some.inj H
               have p733 : 0 ≤ (x12_3 : Int) := Ze
               have q733 : x12_3 < (l1.length : Int) := Ze
               obtain ⟨ad733, e733, hx733_0⟩ := Kd.at_int HR1.out x12_3 p733 q733
               obtain rfl : ad731 = ad733 := (by injection e733)
               replace hx733_0 := Zx HB.out hx733_0
               replace p733 := eq_true p733
               replace q733 := eq_true q733
               have p734 : 0 ≤ (x12_3 : Int) := Ze
               have q734 : x12_3 < (t724.length : Int) := Ze
               obtain ⟨ad734, e734, hx734_0⟩ := Kd.at_int (Kd.R_reads' HO_8.out).2.2 x12_3 p734 q734
               obtain rfl : ad732 = ad734 := (by injection e734)
               replace p734 := eq_true p734
               replace q734 := eq_true q734
               have p735 : 0 ≤ (x12_3 : Int) := Ze
               have q735 : x12_3 < (l1.length : Int) := Ze
               obtain ⟨ad735, e735, hx735_0⟩ := Kd.at_int HR1.out x12_3 p735 q735
               obtain rfl : ad731 = ad735 := (by injection e735)
               replace hx735_0 := Zx HB.out hx735_0
               replace p735 := eq_true p735
               replace q735 := eq_true q735
               have p736 : 0 ≤ (x12_3 : Int) := Ze
               have q736 : x12_3 < (t724.length : Int) := Ze
               obtain ⟨ad736, e736, hx736_0⟩ := Kd.at_int (Kd.R_reads' HO_8.out).2.2 x12_3 p736 q736
               obtain rfl : ad732 = ad736 := (by injection e736)
               replace p736 := eq_true p736
               replace q736 := eq_true q736
               have p737 : 0 ≤ (x12_3 : Int) := Ze
               have q737 : x12_3 < (t724.length : Int) := Ze
               obtain ⟨ad737, e737, hx737_0⟩ := Kd.at_int (Kd.R_reads' HO_8.out).2.2 x12_3 p737 q737
               obtain rfl : ad732 = ad737 := (by injection e737)
               replace p737 := eq_true p737
               replace q737 := eq_true q737
               have p738 : 0 ≤ (x12_3 : Int) := Ze
               have q738 : x12_3 < (l1.length : Int) := Ze
               obtain ⟨ad738, e738, hx738_0⟩ := Kd.at_int HR1.out x12_3 p738 q738
               obtain rfl : ad731 = ad738 := (by injection e738)
               replace hx738_0 := Zx HB.out hx738_0
               replace p738 := eq_true p738
               replace q738 := eq_true q738
               have p739 : 0 ≤ (x12_3 : Int) := Ze
               have q739 : x12_3 < (l1.length : Int) := Ze
               obtain ⟨ad739, e739, hx739_0⟩ := Kd.at_int HR1.out x12_3 p739 q739
               obtain rfl : ad731 = ad739 := (by injection e739)
               replace hx739_0 := Zx HB.out hx739_0
               replace p739 := eq_true p739
               replace q739 := eq_true q739
               have p740 : 0 ≤ (x12_3 : Int) := Ze
               have q740 : x12_3 < (t724.length : Int) := Ze
               obtain ⟨ad740, e740, hx740_0⟩ := Kd.at_int (Kd.R_reads' HO_8.out).2.2 x12_3 p740 q740
               obtain rfl : ad732 = ad740 := (by injection e740)
               replace p740 := eq_true p740
               replace q740 := eq_true q740
               go_wp2
               repeat (go_quiet (fail); try go_wp2)
               go_ret
               exact ⟨Zq, Zb⟩
              rw [if_neg c28] at H
              have c28b0 : decide (0 < (rd t724 x12_3)) = F := decide_eq_false c28
              clear c28
              have p733 : 0 ≤ (x12_3 : Int) := Ze
              have q733 : x12_3 < (l1.length : Int) := Ze
              obtain ⟨ad733, e733, hx733_0⟩ := Kd.at_int HR1.out x12_3 p733 q733
              obtain rfl : ad731 = ad733 := (by injection e733)
              replace hx733_0 := Zx HB.out hx733_0
              replace p733 := eq_true p733
              replace q733 := eq_true q733
              have p734 : 0 ≤ (x12_3 : Int) := Ze
              have q734 : x12_3 < (t724.length : Int) := Ze
              obtain ⟨ad734, e734, hx734_0⟩ := Kd.at_int (Kd.R_reads' HO_8.out).2.2 x12_3 p734 q734
              obtain rfl : ad732 = ad734 := (by injection e734)
              replace p734 := eq_true p734
              replace q734 := eq_true q734
              have p735 : 0 ≤ (x12_3 : Int) := Ze
              have q735 : x12_3 < (l1.length : Int) := Ze
              obtain ⟨ad735, e735, hx735_0⟩ := Kd.at_int HR1.out x12_3 p735 q735
              obtain rfl : ad731 = ad735 := (by injection e735)
              replace hx735_0 := Zx HB.out hx735_0
              replace p735 := eq_true p735
              replace q735 := eq_true q735
              have p736 : 0 ≤ (x12_3 : Int) := Ze
              have q736 : x12_3 < (t724.length : Int) := Ze
              obtain ⟨ad736, e736, hx736_0⟩ := Kd.at_int (Kd.R_reads' HO_8.out).2.2 x12_3 p736 q736
              obtain rfl : ad732 = ad736 := (by injection e736)
              replace p736 := eq_true p736
              replace q736 := eq_true q736
              have p737 : 0 ≤ (x12_3 : Int) := Ze
              have q737 : x12_3 < (t724.length : Int) := Ze
              obtain ⟨ad737, e737, hx737_0⟩ := Kd.at_int (Kd.R_reads' HO_8.out).2.2 x12_3 p737 q737
              obtain rfl : ad732 = ad737 := (by injection e737)
              replace p737 := eq_true p737
              replace q737 := eq_true q737
              have p738 : 0 ≤ (x12_3 : Int) := Ze
              have q738 : x12_3 < (l1.length : Int) := Ze
              obtain ⟨ad738, e738, hx738_0⟩ := Kd.at_int HR1.out x12_3 p738 q738
              obtain rfl : ad731 = ad738 := (by injection e738)
              replace hx738_0 := Zx HB.out hx738_0
              replace p738 := eq_true p738
              replace q738 := eq_true q738
              have p739 : 0 ≤ (x12_3 : Int) := Ze
              have q739 : x12_3 < (l1.length : Int) := Ze
              obtain ⟨ad739, e739, hx739_0⟩ := Kd.at_int HR1.out x12_3 p739 q739
              obtain rfl : ad731 = ad739 := (by injection e739)
              replace hx739_0 := Zx HB.out hx739_0
              replace p739 := eq_true p739
              replace q739 := eq_true q739
              have p740 : 0 ≤ (x12_3 : Int) := Ze
              have q740 : x12_3 < (t724.length : Int) := Ze
              obtain ⟨ad740, e740, hx740_0⟩ := Kd.at_int (Kd.R_reads' HO_8.out).2.2 x12_3 p740 q740
              obtain rfl : ad732 = ad740 := (by injection e740)
              replace p740 := eq_true p740
              replace q740 := eq_true q740
              have p741 : 0 ≤ (x12_3 : Int) := Ze
              have q741 : x12_3 < (t724.length : Int) := Ze
              obtain ⟨ad741, e741, hx741_0⟩ := Kd.at_int (Kd.R_reads' HO_8.out).2.2 x12_3 p741 q741
              obtain rfl : ad732 = ad741 := (by injection e741)
              replace p741 := eq_true p741
              replace q741 := eq_true q741
              have p742 : 0 ≤ (x12_3 : Int) := Ze
              have q742 : x12_3 < (l1.length : Int) := Ze
              obtain ⟨ad742, e742, hx742_0⟩ := Kd.at_int HR1.out x12_3 p742 q742
              obtain rfl : ad731 = ad742 := (by injection e742)
              replace hx742_0 := Zx HB.out hx742_0
              replace p742 := eq_true p742
              replace q742 := eq_true q742
              go_upto_if 136 with (fail)
              repeat (go_quiet (fail); go_upto_if 136 with (fail))
              by_cases c29 : (rd t724 x12_3) < (rd l1 x12_3)
              ·rw [if_pos c29] at H
               have c29b0 : decide ((rd t724 x12_3) < (rd l1 x12_3)) = T := decide_eq_true c29
               clear c29
               (try simp only [c29b0])
               obtain rfl := Option.some.inj H
               go_wp2
               repeat (go_quiet (fail); try go_wp2)
               go_ret
               exact ⟨Zq, Zb⟩
              rw [if_neg c29] at H
              have c29b0 : decide ((rd t724 x12_3) < (rd l1 x12_3)) = F := decide_eq_false c29
              clear c29
              (try simp only [c29b0])
              have H' := Aside0.mk H
              clear H
              go_wp2
              repeat (go_quiet (fail); try go_wp2)
              go_roundg k3
              case measure => have := HJ3.out; have := HJ12.out; have := HK3.out; omega
              case rel => exact ⟨(wrap64 (x10_3 + (rd l1 x12_3))), (wrap64 (x11_3 + (rd t724 x12_3))), (wrap64 (x12_3 + 1)), (Zs), (Zs), (Zs), H', ⟨by have := HJ3.out; have := HJ12.out; have := HK3.out; omega⟩, ⟨Zr HO_8.out⟩, ⟨Zb⟩⟩
             rw [if_neg c27] at H
             have c27b0 : decide ((rd l1 x12_3) ≤ 0) = F := decide_eq_false c27
             clear c27
             have H' := Aside0.mk H
             clear H
             have p733 : 0 ≤ (x12_3 : Int) := Ze
             have q733 : x12_3 < (l1.length : Int) := Ze
             obtain ⟨ad733, e733, hx733_0⟩ := Kd.at_int HR1.out x12_3 p733 q733
             obtain rfl : ad731 = ad733 := (by injection e733)
             replace hx733_0 := Zx HB.out hx733_0
             replace p733 := eq_true p733
             replace q733 := eq_true q733
             have p734 : 0 ≤ (x12_3 : Int) := Ze
             have q734 : x12_3 < (t724.length : Int) := Ze
             obtain ⟨ad734, e734, hx734_0⟩ := Kd.at_int (Kd.R_reads' HO_8.out).2.2 x12_3 p734 q734
             obtain rfl : ad732 = ad734 := (by injection e734)
             replace p734 := eq_true p734
             replace q734 := eq_true q734
             have p735 : 0 ≤ (x12_3 : Int) := Ze
             have q735 : x12_3 < (l1.length : Int) := Ze
             obtain ⟨ad735, e735, hx735_0⟩ := Kd.at_int HR1.out x12_3 p735 q735
             obtain rfl : ad731 = ad735 := (by injection e735)
             replace hx735_0 := Zx HB.out hx735_0
             replace p735 := eq_true p735
             replace q735 := eq_true q735
             have p736 : 0 ≤ (x12_3 : Int) := Ze
             have q736 : x12_3 < (t724.length : Int) := Ze
             obtain ⟨ad736, e736, hx736_0⟩ := Kd.at_int (Kd.R_reads' HO_8.out).2.2 x12_3 p736 q736
             obtain rfl : ad732 = ad736 := (by injection e736)
             replace p736 := eq_true p736
             replace q736 := eq_true q736
             have p737 : 0 ≤ (x12_3 : Int) := Ze
             have q737 : x12_3 < (t724.length : Int) := Ze
             obtain ⟨ad737, e737, hx737_0⟩ := Kd.at_int (Kd.R_reads' HO_8.out).2.2 x12_3 p737 q737
             obtain rfl : ad732 = ad737 := (by injection e737)
             replace p737 := eq_true p737
             replace q737 := eq_true q737
             have p738 : 0 ≤ (x12_3 : Int) := Ze
             have q738 : x12_3 < (l1.length : Int) := Ze
             obtain ⟨ad738, e738, hx738_0⟩ := Kd.at_int HR1.out x12_3 p738 q738
             obtain rfl : ad731 = ad738 := (by injection e738)
             replace hx738_0 := Zx HB.out hx738_0
             replace p738 := eq_true p738
             replace q738 := eq_true q738
             have p739 : 0 ≤ (x12_3 : Int) := Ze
             have q739 : x12_3 < (l1.length : Int) := Ze
             obtain ⟨ad739, e739, hx739_0⟩ := Kd.at_int HR1.out x12_3 p739 q739
             obtain rfl : ad731 = ad739 := (by injection e739)
             replace hx739_0 := Zx HB.out hx739_0
             replace p739 := eq_true p739
             replace q739 := eq_true q739
             go_wp2
             repeat (go_quiet (fail); try go_wp2)
             go_roundg k3
             case measure => have := HJ3.out; have := HJ12.out; have := HK3.out; omega
             case rel => exact ⟨(wrap64 (x10_3 + (rd l1 x12_3))), (wrap64 (x11_3 + (rd t724 x12_3))), (wrap64 (x12_3 + 1)), (Zs), (Zs), (Zs), H', ⟨by have := HJ3.out; have := HJ12.out; have := HK3.out; omega⟩, ⟨Zr HO_8.out⟩, ⟨Zb⟩⟩
            rw [if_neg c24] at H
            have c24b0 : decide (0 ≤ (rd l1 x12_3)) = F := decide_eq_false c24
            clear c24
            by_cases c30 : (rd l1 x12_3) ≤ 0
            ·rw [if_pos c30] at H
             have c30b0 : decide ((rd l1 x12_3) ≤ 0) = T := decide_eq_true c30
             clear c30
             by_cases c31 : (rd t724 x12_3) > 0
             ·rw [if_pos c31] at H
              have c31b0 : decide (0 < (rd t724 x12_3)) = T := decide_eq_true c31
              clear c31
              obtain rfl := Option.some.inj H
              have p733 : 0 ≤ (x12_3 : Int) := Ze
              have q733 : x12_3 < (l1.length : Int) := Ze
              obtain ⟨ad733, e733, hx733_0⟩ := Kd.at_int HR1.out x12_3 p733 q733
              obtain rfl : ad731 = ad733 := (by injection e733)
              replace hx733_0 := Zx HB.out hx733_0
              replace p733 := eq_true p733
              replace q733 := eq_true q733
              have p734 : 0 ≤ (x12_3 : Int) := Ze
              have q734 : x12_3 < (t724.length : Int) := Ze
              obtain ⟨ad734, e734, hx734_0⟩ := Kd.at_int (Kd.R_reads' HO_8.out).2.2 x12_3 p734 q734
              obtain rfl : ad732 = ad734 := (by injection e734)
              replace p734 := eq_true p734
              replace q734 := eq_true q734
              have p735 : 0 ≤ (x12_3 : Int) := Ze
              have q735 : x12_3 < (l1.length : Int) := Ze
              obtain ⟨ad735, e735, hx735_0⟩ := Kd.at_int HR1.out x12_3 p735 q735
              obtain rfl : ad731 = ad735 := (by injection e735)
              replace hx735_0 := Zx HB.out hx735_0
              replace p735 := eq_true p735
              replace q735 := eq_true q735
              have p743 : 0 ≤ (x12_3 : Int) := Ze
              have q743 : x12_3 < (l1.length : Int) := Ze
              obtain ⟨ad743, e743, hx743_0⟩ := Kd.at_int HR1.out x12_3 p743 q743
              obtain rfl : ad731 = ad743 := (by injection e743)
              replace hx743_0 := Zx HB.out hx743_0
              replace p743 := eq_true p743
              replace q743 := eq_true q743
              have p744 : 0 ≤ (x12_3 : Int) := Ze
              have q744 : x12_3 < (t724.length : Int) := Ze
              obtain ⟨ad744, e744, hx744_0⟩ := Kd.at_int (Kd.R_reads' HO_8.out).2.2 x12_3 p744 q744
              obtain rfl : ad732 = ad744 := (by injection e744)
              replace p744 := eq_true p744
              replace q744 := eq_true q744
              go_wp2
              repeat (go_quiet (fail); try go_wp2)
              go_ret
              exact ⟨Zq, Zb⟩
             rw [if_neg c31] at H
             have c31b0 : decide (0 < (rd t724 x12_3)) = F := decide_eq_false c31
             clear c31
             have p733 : 0 ≤ (x12_3 : Int) := Ze
             have q733 : x12_3 < (l1.length : Int) := Ze
             obtain ⟨ad733, e733, hx733_0⟩ := Kd.at_int HR1.out x12_3 p733 q733
             obtain rfl : ad731 = ad733 := (by injection e733)
             replace hx733_0 := Zx HB.out hx733_0
             replace p733 := eq_true p733
             replace q733 := eq_true q733
             have p734 : 0 ≤ (x12_3 : Int) := Ze
             have q734 : x12_3 < (t724.length : Int) := Ze
             obtain ⟨ad734, e734, hx734_0⟩ := Kd.at_int (Kd.R_reads' HO_8.out).2.2 x12_3 p734 q734
             obtain rfl : ad732 = ad734 := (by injection e734)
             replace p734 := eq_true p734
             replace q734 := eq_true q734
             have p735 : 0 ≤ (x12_3 : Int) := Ze
             have q735 : x12_3 < (l1.length : Int) := Ze
             obtain ⟨ad735, e735, hx735_0⟩ := Kd.at_int HR1.out x12_3 p735 q735
             obtain rfl : ad731 = ad735 := (by injection e735)
             replace hx735_0 := Zx HB.out hx735_0
             replace p735 := eq_true p735
             replace q735 := eq_true q735
             have p743 : 0 ≤ (x12_3 : Int) := Ze
             have q743 : x12_3 < (l1.length : Int) := Ze
             obtain ⟨ad743, e743, hx743_0⟩ := Kd.at_int HR1.out x12_3 p743 q743
             obtain rfl : ad731 = ad743 := (by injection e743)
             replace hx743_0 := Zx HB.out hx743_0
             replace p743 := eq_true p743
             replace q743 := eq_true q743
             have p744 : 0 ≤ (x12_3 : Int) := Ze
             have q744 : x12_3 < (t724.length : Int) := Ze
             obtain ⟨ad744, e744, hx744_0⟩ := Kd.at_int (Kd.R_reads' HO_8.out).2.2 x12_3 p744 q744
             obtain rfl : ad732 = ad744 := (by injection e744)
             replace p744 := eq_true p744
             replace q744 := eq_true q744
             have p745 : 0 ≤ (x12_3 : Int) := Ze
             have q745 : x12_3 < (t724.length : Int) := Ze
             obtain ⟨ad745, e745, hx745_0⟩ := Kd.at_int (Kd.R_reads' HO_8.out).2.2 x12_3 p745 q745
             obtain rfl : ad732 = ad745 := (by injection e745)
             replace p745 := eq_true p745
             replace q745 := eq_true q745
             have p746 : 0 ≤ (x12_3 : Int) := Ze
             have q746 : x12_3 < (l1.length : Int) := Ze
             obtain ⟨ad746, e746, hx746_0⟩ := Kd.at_int HR1.out x12_3 p746 q746
             obtain rfl : ad731 = ad746 := (by injection e746)
             replace hx746_0 := Zx HB.out hx746_0
             replace p746 := eq_true p746
             replace q746 := eq_true q746
             go_upto_if 136 with (fail)
             repeat (go_quiet (fail); go_upto_if 136 with (fail))
             by_cases c32 : (rd t724 x12_3) < (rd l1 x12_3)
             ·rw [if_pos c32] at H
              have c32b0 : decide ((rd t724 x12_3) < (rd l1 x12_3)) = T := decide_eq_true c32
              clear c32
              (try simp only [c32b0])
              obtain rfl := Option.some.inj H
              go_wp2
              repeat (go_quiet (fail); try go_wp2)
              go_ret
              exact ⟨Zq, Zb⟩
             rw [if_neg c32] at H
             have c32b0 : decide ((rd t724 x12_3) < (rd l1 x12_3)) = F := decide_eq_false c32
             clear c32
             (try simp only [c32b0])
             have H' := Aside0.mk H
             clear H
             go_wp2
             repeat (go_quiet (fail); try go_wp2)
             go_roundg k3
             case measure => have := HJ3.out; have := HJ12.out; have := HK3.out; omega
             case rel => exact ⟨(wrap64 (x10_3 + (rd l1 x12_3))), (wrap64 (x11_3 + (rd t724 x12_3))), (wrap64 (x12_3 + 1)), (Zs), (Zs), (Zs), H', ⟨by have := HJ3.out; have := HJ12.out; have := HK3.out; omega⟩, ⟨Zr HO_8.out⟩, ⟨Zb⟩⟩
            rw [if_neg c30] at H
            have c30b0 : decide ((rd l1 x12_3) ≤ 0) = F := decide_eq_false c30
            clear c30
            have H' := Aside0.mk H
            clear H
            have p733 : 0 ≤ (x12_3 : Int) := Ze
            have q733 : x12_3 < (l1.length : Int) := Ze
            obtain ⟨ad733, e733, hx733_0⟩ := Kd.at_int HR1.out x12_3 p733 q733
            obtain rfl : ad731 = ad733 := (by injection e733)
            replace hx733_0 := Zx HB.out hx733_0
            replace p733 := eq_true p733
            replace q733 := eq_true q733
            have p734 : 0 ≤ (x12_3 : Int) := Ze
            have q734 : x12_3 < (t724.length : Int) := Ze
            obtain ⟨ad734, e734, hx734_0⟩ := Kd.at_int (Kd.R_reads' HO_8.out).2.2 x12_3 p734 q734
            obtain rfl : ad732 = ad734 := (by injection e734)
            replace p734 := eq_true p734
            replace q734 := eq_true q734
            have p735 : 0 ≤ (x12_3 : Int) := Ze
            have q735 : x12_3 < (l1.length : Int) := Ze
            obtain ⟨ad735, e735, hx735_0⟩ := Kd.at_int HR1.out x12_3 p735 q735
            obtain rfl : ad731 = ad735 := (by injection e735)
            replace hx735_0 := Zx HB.out hx735_0
            replace p735 := eq_true p735
            replace q735 := eq_true q735
            have p743 : 0 ≤ (x12_3 : Int) := Ze
            have q743 : x12_3 < (l1.length : Int) := Ze
            obtain ⟨ad743, e743, hx743_0⟩ := Kd.at_int HR1.out x12_3 p743 q743
            obtain rfl : ad731 = ad743 := (by injection e743)
            replace hx743_0 := Zx HB.out hx743_0
            replace p743 := eq_true p743
            replace q743 := eq_true q743
            go_wp2
            repeat (go_quiet (fail); try go_wp2)
            go_roundg k3
            case measure => have := HJ3.out; have := HJ12.out; have := HK3.out; omega
            case rel => exact ⟨(wrap64 (x10_3 + (rd l1 x12_3))), (wrap64 (x11_3 + (rd t724 x12_3))), (wrap64 (x12_3 + 1)), (Zs), (Zs), (Zs), H', ⟨by have := HJ3.out; have := HJ12.out; have := HK3.out; omega⟩, ⟨Zr HO_8.out⟩, ⟨Zb⟩⟩
           rw [if_neg c23] at H
           have c23b0 : ((Int.tmod (wrap64 ((rd l1 x12_3) - (rd t724 x12_3))) 1000) == 0) = F := beq_eq_false_iff_ne.mpr c23
           have c23b1 : ((Int.tmod (wrap64 ((rd l1 x12_3) - (rd t724 x12_3))) 1000) != 0) = T := bne_iff_ne.mpr c23
           (try simp only [c23b0, c23b1])
           obtain rfl := Option.some.inj H
           have p733 : 0 ≤ (x12_3 : Int) := Ze
           have q733 : x12_3 < (l1.length : Int) := Ze
           obtain ⟨ad733, e733, hx733_0⟩ := Kd.at_int HR1.out x12_3 p733 q733
           obtain rfl : ad731 = ad733 := (by injection e733)
           replace hx733_0 := Zx HB.out hx733_0
           replace p733 := eq_true p733
           replace q733 := eq_true q733
           have p734 : 0 ≤ (x12_3 : Int) := Ze
           have q734 : x12_3 < (t724.length : Int) := Ze
           obtain ⟨ad734, e734, hx734_0⟩ := Kd.at_int (Kd.R_reads' HO_8.out).2.2 x12_3 p734 q734
           obtain rfl : ad732 = ad734 := (by injection e734)
           replace p734 := eq_true p734
           replace q734 := eq_true q734
           go_wp2
           repeat (go_quiet (fail); try go_wp2)
           go_ret
           exact ⟨Zq, Zb⟩
          rw [if_neg c22] at H
          exact absurd H (by simp)
         rw [if_neg c21] at H
         exact absurd H (by simp)
        rw [if_neg c20] at H
        have c20b0 : decide (x12_3 < (t724.length : Int)) = F := decide_eq_false c20
        clear c20
        (try simp only [c20b0])
        by_cases c33 : x10_3 = x11_3
        ·rw [if_pos c33] at H
         have c33b0 : (x10_3 == x11_3) = T := beq_iff_eq.mpr c33
         have c33b1 : (x10_3 != x11_3) = F := bne_eq_false_iff_eq.mpr c33
         clear c33
         replace H := Option.bind_eq_some_iff.mp H
         obtain ⟨t747, A340, H⟩ := H
         replace H : (some t747) = some r := H
         have A34 := Aside0.mk A340
         clear A340
         obtain rfl := Option.some.inj H
         go_wp2_with (first | (go_at_call 32; (with_reducible refine (Qai.calls k3  t747 _ A34.out).mono ?_); rintro e w35 ⟨rfl, hb⟩; replace HO_8 := Aside0.mk (Kd.R_below (Zr HO_8.out) hb); replace HB := Aside0.mk (Qax (Zb) hb); (try clear hb); (try clear hb2); (try clear hk); (try clear hi)))
         repeat (go_quiet (first | (go_at_call 32; (with_reducible refine (Qai.calls k3  t747 _ A34.out).mono ?_); rintro e w35 ⟨rfl, hb⟩; replace HO_8 := Aside0.mk (Kd.R_below (Zr HO_8.out) hb); replace HB := Aside0.mk (Qax (Zb) hb); (try clear hb); (try clear hb2); (try clear hk); (try clear hi))); try go_wp2_with (first | (go_at_call 32; (with_reducible refine (Qai.calls k3  t747 _ A34.out).mono ?_); rintro e w35 ⟨rfl, hb⟩; replace HO_8 := Aside0.mk (Kd.R_below (Zr HO_8.out) hb); replace HB := Aside0.mk (Qax (Zb) hb); (try clear hb); (try clear hb2); (try clear hk); (try clear hi))))
         go_ret
         exact ⟨Zq, Zb⟩
        rw [if_neg c33] at H
        have c33b0 : (x10_3 == x11_3) = F := beq_eq_false_iff_ne.mpr c33
        have c33b1 : (x10_3 != x11_3) = T := bne_iff_ne.mpr c33
        obtain rfl := Option.some.inj H
        go_wp2
        repeat (go_quiet (fail); try go_wp2)
        go_ret
        exact ⟨Zq, Zb⟩
   rw [if_neg c12] at H
   have c12b0 : (t725 == 0) = F := beq_eq_false_iff_ne.mpr c12
   have c12b1 : (t725 != 0) = T := bne_iff_ne.mpr c12
   (try simp only [c12b0, c12b1])
   by_cases c36 : (wrap64 ((t723.length : Int) + (t724.length : Int))) = 0
   ·rw [if_pos c36] at H
    have c36b0 : ((wrap64 ((t723.length : Int) + (t724.length : Int))) == 0) = T := beq_iff_eq.mpr c36
    have c36b1 : ((wrap64 ((t723.length : Int) + (t724.length : Int))) != 0) = F := bne_eq_false_iff_eq.mpr c36
    clear c36
    replace H := Option.bind_eq_some_iff.mp H
    obtain ⟨t730, A370, H⟩ := H
    replace H : (some t730) = some r := H
    have A37 := Aside0.mk A370
    clear A370
    obtain rfl := Option.some.inj H
    obtain ⟨Ao38, co38, eo38⟩ := Kd.R_slice HO727.out
    subst eo38
    obtain ⟨Ao39, co39, eo39⟩ := Kd.R_slice HO729.out
    subst eo39
    go_wp2_with (first | (go_at_call 32; (with_reducible refine (Qai.calls kj3  t730 _ A37.out).mono ?_); rintro e w40 ⟨rfl, hb⟩; replace HO727 := Aside0.mk (Kd.R_below (Zr HO727.out) hb); replace HO729 := Aside0.mk (Kd.R_below (Zr HO729.out) hb); replace HB := Aside0.mk (Qax (Zb) hb); (try clear hb); (try clear hb2); (try clear hk); (try clear hi)))
    repeat (go_quiet (first | (go_at_call 32; (with_reducible refine (Qai.calls kj3  t730 _ A37.out).mono ?_); rintro e w40 ⟨rfl, hb⟩; replace HO727 := Aside0.mk (Kd.R_below (Zr HO727.out) hb); replace HO729 := Aside0.mk (Kd.R_below (Zr HO729.out) hb); replace HB := Aside0.mk (Qax (Zb) hb); (try clear hb); (try clear hb2); (try clear hk); (try clear hi))); try go_wp2_with (first | (go_at_call 32; (with_reducible refine (Qai.calls kj3  t730 _ A37.out).mono ?_); rintro e w40 ⟨rfl, hb⟩; replace HO727 := Aside0.mk (Kd.R_below (Zr HO727.out) hb); replace HO729 := Aside0.mk (Kd.R_below (Zr HO729.out) hb); replace HB := Aside0.mk (Qax (Zb) hb); (try clear hb); (try clear hb2); (try clear hk); (try clear hi))))
    go_ret
    exact ⟨Zq, Zb⟩
   rw [if_neg c36] at H
   have c36b0 : ((wrap64 ((t723.length : Int) + (t724.length : Int))) == 0) = F := beq_eq_false_iff_ne.mpr c36
   have c36b1 : ((wrap64 ((t723.length : Int) + (t724.length : Int))) != 0) = T := bne_iff_ne.mpr c36
   obtain rfl := Option.some.inj H
   obtain ⟨Ao41, co41, eo41⟩ := Kd.R_slice HO727.out
   subst eo41
   obtain ⟨Ao42, co42, eo42⟩ := Kd.R_slice HO729.out
   subst eo42
   go_wp2
   repeat (go_quiet (fail); try go_wp2)
   go_ret
   exact ⟨Zq, Zb⟩
mutual
def contangolaw24_TierDone.j0 : Nat → List Int → List Int → List (S91) → Bool → Option (Bool)
 | 0, _, _, _, _ => none
 | k + 1, x0, x1, x2, x26 => if x26 = T then ((Qai.f k).bind fun t748 => (some t748)) else ((Qae.f k x0 x1 x2).bind fun bt749 => (if bt749.2.2 = 0 then ((Qae.f k x0 bt749.2.1 x2).bind fun bt757 => (contangolaw24_TierDone.l0 k x2 bt749.2.1 bt757.1 bt757.2.1 bt757.2.2 0)) else ((Qai.f k).bind fun t756 => (some t756))))
def contangolaw24_TierDone.l0 : Nat → List (S91) → List Int → List Int → List Int → Int → Int → Option (Bool)
 | 0, _, _, _, _, _, _ => none
 | k + 1, x2, x8, x10, x11, x12, x13 => if x13 < (x10.length : Int) then (if 0 ≤ x13 then (if (rd x10 x13) = 0 then (contangolaw24_TierDone.l0 k x2 x8 x10 x11 x12 (wrap64 (x13 + 1))) else (some F)) else (none)) else (if x12 = 0 then ((Qaf.f k x11 x8).bind fun t765 => (if t765 = T then (if (x10.length : Int) = (x2.length : Int) then ((Qai.f k).bind fun t766 => (some t766)) else (some F)) else (some F))) else (some F))
end
def contangolaw24_TierDone.f (k : Nat) (l0 : List Int) (l1 : List Int) (l2 : List (S91)) : Option (Bool) := if (l0.length : Int) > 200 then (contangolaw24_TierDone.j0 k l0 l1 l2 T) else (if (l1.length : Int) > 200 then (contangolaw24_TierDone.j0 k l0 l1 l2 T) else (contangolaw24_TierDone.j0 k l0 l1 l2 (decide ((l2.length : Int) > 1100))))
theorem contangolaw24_TierDone.mono_l : ∀ k, (∀ y0 y1 y2 y3, LeO (contangolaw24_TierDone.j0 k y0 y1 y2 y3) (contangolaw24_TierDone.j0 (k + 1) y0 y1 y2 y3)) ∧ (∀ y0 y1 y2 y3 y4 y5, LeO (contangolaw24_TierDone.l0 k y0 y1 y2 y3 y4 y5) (contangolaw24_TierDone.l0 (k + 1) y0 y1 y2 y3 y4 y5))
 | 0 => ⟨fun _ _ _ _ r h => by simp [contangolaw24_TierDone.j0] at h, fun _ _ _ _ _ _ r h => by simp [contangolaw24_TierDone.l0] at h⟩
 | k + 1 => by
  obtain ⟨ih0, ih1⟩ := contangolaw24_TierDone.mono_l k
  refine ⟨?_, ?_⟩
  ·intro y0 y1 y2 y3
   unfold contangolaw24_TierDone.j0
   exact ZM5 ih0 ih1 Qai.mono Qaf.mono Qae.mono
  intro y0 y1 y2 y3 y4 y5
  unfold contangolaw24_TierDone.l0
  exact ZM5 ih0 ih1 Qai.mono Qaf.mono Qae.mono
theorem contangolaw24_TierDone.mono : ∀ a0 a1 a2 k, LeO (contangolaw24_TierDone.f k a0 a1 a2) (contangolaw24_TierDone.f (k + 1) a0 a1 a2) := by
 intro a0 a1 a2 k
 obtain ⟨ih0, ih1⟩ := contangolaw24_TierDone.mono_l k
 unfold contangolaw24_TierDone.f
 exact ZM5 ih0 ih1 Qai.mono Qaf.mono Qae.mono
theorem contangolaw24_TierDone.calls (k : Nat) (A0 : Option Addr) (c0 : Nat) (l0 : List Int) (A1 : Option Addr) (c1 : Nat) (l1 : List Int) (A2 : Option Addr) (c2 : Nat) (l2 : List (S91)) (r : Bool) (w : World) (hr0 : Kd.C (Kd.int .i64) w A0 l0.length l0) (hc0 : l0.length ≤ c0) (hr1 : Kd.C (Kd.int .i64) w A1 l1.length l1) (hc1 : l1.length ≤ c1) (hr2 : Kd.C k91 w A2 l2.length l2) (hc2 : l2.length ≤ c2) (h : contangolaw24_TierDone.f k l0 l1 l2 = some r) :
  Calls Try.prog 10 #[.slice A0 l0.length c0, .slice A1 l1.length c1, .slice A2 l2.length c2] w fun e w' => e = .returned (.bool r) ∧ Below w.heap.size w w' := by
 have HR0 := Aside0.mk hr0
 have HC0 := Aside0.mk hc0
 clear hr0 hc0
 have HR1 := Aside0.mk hr1
 have HC1 := Aside0.mk hc1
 clear hr1 hc1
 have HR2 := Aside0.mk hr2
 have HC2 := Aside0.mk hc2
 clear hr2 hc2
 have HB := Aside0.mk (Below.refl w.heap.size w)
 have H : (if (l0.length : Int) > 200 then (contangolaw24_TierDone.j0 k l0 l1 l2 T) else (if (l1.length : Int) > 200 then (contangolaw24_TierDone.j0 k l0 l1 l2 T) else (contangolaw24_TierDone.j0 k l0 l1 l2 (decide ((l2.length : Int) > 1100))))) = some r := h
 clear h
 have HC4 := Aside0.mk H
 clear H
 go_enter Try.func10, Try.ntmps10
 go_upto_region 1 with (fail)
 go_cut [26] (fun v26 wc => ∃ (kq : Nat) (x26_3 : Bool), v26 = .bool x26_3 ∧ Aside0 (contangolaw24_TierDone.j0 kq l0 l1 l2 x26_3 = some r) ∧ Aside0 (kq ≤ k) ∧ Aside0 (Below w.heap.size w wc))
 case first =>
  have H := HC4.out
  clear HC4
  by_cases c5 : (l0.length : Int) > 200
  ·rw [if_pos c5] at H
   have c5b0 : decide (200 < (l0.length : Int)) = T := decide_eq_true c5
   have c5b1 : decide (200 < l0.length) = T := decide_eq_true (by omega)
   clear c5
   have H' := Aside0.mk H
   clear H
   go_wp2
   go_meet
   case rel => exact ⟨_, (T), (Zs), H', ⟨by first | omega | exact Nat.le_refl _⟩, ⟨Zb⟩⟩
  rw [if_neg c5] at H
  have c5b0 : decide (200 < (l0.length : Int)) = F := decide_eq_false c5
  have c5b1 : decide (200 < l0.length) = F := decide_eq_false (by omega)
  clear c5
  by_cases c6 : (l1.length : Int) > 200
  ·rw [if_pos c6] at H
   have c6b0 : decide (200 < (l1.length : Int)) = T := decide_eq_true c6
   have c6b1 : decide (200 < l1.length) = T := decide_eq_true (by omega)
   clear c6
   have H' := Aside0.mk H
   clear H
   go_wp2
   go_meet
   case rel => exact ⟨_, (T), (Zs), H', ⟨by first | omega | exact Nat.le_refl _⟩, ⟨Zb⟩⟩
  rw [if_neg c6] at H
  have c6b0 : decide (200 < (l1.length : Int)) = F := decide_eq_false c6
  have c6b1 : decide (200 < l1.length) = F := decide_eq_false (by omega)
  clear c6
  have H' := Aside0.mk H
  clear H
  go_wp2
  go_meet
  case rel => exact ⟨_, (decide ((l2.length : Int) > 1100)), (Zs), H', ⟨by first | omega | exact Nat.le_refl _⟩, ⟨Zb⟩⟩
 case rest =>
  clear HC4
  try clear c1
  try clear c2
  try clear p2
  try clear c5
  try clear c5b0
  try clear c5b1
  try clear c6
  try clear c6b0
  try clear c6b1
  obtain ⟨kq, x26_3, rfl, HA, HJ3, HB⟩ := hcut
  cases kq with
  | zero => exact absurd HA.out (by simp [contangolaw24_TierDone.j0])
  | succ kj3 =>
   have H := HA.out
   clear HA
   simp only [contangolaw24_TierDone.j0] at H
   by_cases c7 : x26_3 = T
   ·subst c7
    have H1 : ((Qai.f kj3).bind fun t748 => (some t748)) = some r := by rw [if_pos rfl] at H; exact H
    clear H
    have H := H1
    clear H1
    replace H := Option.bind_eq_some_iff.mp H
    obtain ⟨t748, A80, H⟩ := H
    replace H : (some t748) = some r := H
    have A8 := Aside0.mk A80
    clear A80
    obtain rfl := Option.some.inj H
    go_wp2_with (first | ((with_reducible refine Qat (f := 32) rfl ?_); refine goesL_ (some 27) rfl rfl Try.func32 (by kernel_rfl) rfl #[] rfl (Zl) ?_; (with_reducible refine (Qai.calls kj3  t748 _ A8.out).mono ?_); rintro e w9 ⟨rfl, hb⟩; refine ⟨_, rfl, ?_⟩; replace HB := Aside0.mk (Qax (Zb) hb); (try clear hb); (try clear hb2); (try clear hk); (try clear hi)))
    go_ret
    exact ⟨Zq, Zb⟩
   replace c7 := Bool.eq_false_iff.mpr c7
   subst c7
   have H1 : ((Qae.f kj3 l0 l1 l2).bind fun bt749 => (if bt749.2.2 = 0 then ((Qae.f kj3 l0 bt749.2.1 l2).bind fun bt757 => (contangolaw24_TierDone.l0 kj3 l2 bt749.2.1 bt757.1 bt757.2.1 bt757.2.2 0)) else ((Qai.f kj3).bind fun t756 => (some t756)))) = some r := by rw [if_neg (show ¬ (F = T) by decide)] at H; exact H
   clear H
   have H := H1
   clear H1
   replace H := Option.bind_eq_some_iff.mp H
   obtain ⟨⟨t749, t750, t751⟩, A100, H⟩ := H
   replace H : (if t751 = 0 then ((Qae.f kj3 l0 t750 l2).bind fun bt757 => (contangolaw24_TierDone.l0 kj3 l2 t750 bt757.1 bt757.2.1 bt757.2.2 0)) else ((Qai.f kj3).bind fun t756 => (some t756))) = some r := H
   have A10 := Aside0.mk A100
   clear A100
   go_upto_if 37 with (first | ((with_reducible refine Qat (f := 33) rfl ?_); refine goesL_ (some 32) rfl rfl Try.func33 (by kernel_rfl) rfl #[.slice A0 l0.length c0, .slice A1 l1.length c1, .slice A2 l2.length c2] rfl (Zl) ?_; (with_reducible refine (Qae.calls kj3 _ _ l0 _ _ l1 _ _ l2 t749 t750 t751 _ ?side1 ?side2 ?side3 ?side4 ?side5 ?side6 A10.out).mono ?_); (case side1 => exact Zv (Kd.C_below HR0.out HB.out)); (case side2 => exact HC0.out); (case side3 => exact Zv (Kd.C_below HR1.out HB.out)); (case side4 => exact HC1.out); (case side5 => exact Zv (Kd.C_below HR2.out HB.out)); (case side6 => exact HC2.out); rintro e w11 ⟨v752, v754, rfl, ho0, ho1, hb⟩; refine ⟨_, rfl, ?_⟩; have HO753 := Aside0.mk (Kd.R_lower ho0 (Qay (Zb))); have HO755 := Aside0.mk (Kd.R_lower ho1 (Qay (Zb))); replace HB := Aside0.mk (Qax (Zb) hb); (try clear hb); (try clear hb2); (try clear hk); (try clear hi); (try clear ho0); (try clear ho1)))
   (try simp only [Act.put, Zj, Zk, Zm])
   by_cases c12 : t751 = 0
   ·rw [if_pos c12] at H
    have c12b0 : (t751 == 0) = T := beq_iff_eq.mpr c12
    have c12b1 : (t751 != 0) = F := bne_eq_false_iff_eq.mpr c12
    clear c12
    (try simp only [c12b0, c12b1])
    replace H := Option.bind_eq_some_iff.mp H
    obtain ⟨⟨t757, t758, t759⟩, A130, H⟩ := H
    replace H : (contangolaw24_TierDone.l0 kj3 l2 t750 t757 t758 t759 0) = some r := H
    have A13 := Aside0.mk A130
    clear A130
    have H' := Aside0.mk H
    clear H
    obtain ⟨Ao14, co14, eo14⟩ := Kd.R_slice HO755.out
    subst eo14
    go_wp2_with (first | ((with_reducible refine Qat (f := 33) rfl ?_); refine goesL_ (some 43) rfl rfl Try.func33 (by kernel_rfl) rfl #[.slice A0 l0.length c0, .slice Ao14 t750.length co14, .slice A2 l2.length c2] rfl (Zl) ?_; (with_reducible refine (Qae.calls kj3 _ _ l0 _ _ t750 _ _ l2 t757 t758 t759 _ ?side1 ?side2 ?side3 ?side4 ?side5 ?side6 A13.out).mono ?_); (case side1 => exact Zv (Kd.C_below HR0.out HB.out)); (case side2 => exact HC0.out); (case side3 => exact Zv (Kd.R_reads' HO755.out).2.2); (case side4 => exact (Kd.R_reads' HO755.out).2.1); (case side5 => exact Zv (Kd.C_below HR2.out HB.out)); (case side6 => exact HC2.out); rintro e w15 ⟨v760, v762, rfl, ho0, ho1, hb⟩; refine ⟨_, rfl, ?_⟩; have HO761 := Aside0.mk (Kd.R_lower (Kd.R_new' (Kd.R_new' ho0 (Kd.R_lt (Zr HO753.out))) (Kd.R_lt (Zr HO755.out))) (Qay (Zb))); have HO763 := Aside0.mk (Kd.R_lower (Kd.R_new' (Kd.R_new' ho1 (Kd.R_lt (Zr HO753.out))) (Kd.R_lt (Zr HO755.out))) (Qay (Zb))); replace HO753 := Aside0.mk (Kd.R_mono (Kd.R_told (Kd.R_told (Kd.R_old (Zr HO753.out) hb) (Kd.R_base ho0)) (Kd.R_base ho1)) (fun _ h_ => h_.1)); replace HO755 := Aside0.mk (Kd.R_mono (Kd.R_told (Kd.R_told (Kd.R_old (Zr HO755.out) hb) (Kd.R_base ho0)) (Kd.R_base ho1)) (fun _ h_ => h_.1)); replace HB := Aside0.mk (Qax (Zb) hb); (try clear hb); (try clear hb2); (try clear hk); (try clear hi); (try clear ho0); (try clear ho1)))
    go_loopg [13] kj3 (fun kq v13 w' => ∃ (x13_2 : Int), v13 = .int .i64 x13_2 ∧ Aside0 (contangolaw24_TierDone.l0 kq l2 t750 t757 t758 t759 x13_2 = some r) ∧ Aside0 (kq ≤ kj3) ∧ Aside0 (Kd.R (Kd.int .i64) 3 w' w.heap.size (fun k_ => some k_ ≠ (v760 : Value).ownBlock ∧ some k_ ≠ (v762 : Value).ownBlock) (.slice Ao14 t750.length co14) t750) ∧ Aside0 (Kd.R (Kd.int .i64) 3 w' w.heap.size (fun k_ => some k_ ≠ ((.slice Ao14 t750.length co14) : Value).ownBlock ∧ some k_ ≠ (v762 : Value).ownBlock) v760 t757) ∧ Aside0 (Kd.R (Kd.int .i64) 3 w' w.heap.size (fun k_ => some k_ ≠ ((.slice Ao14 t750.length co14) : Value).ownBlock ∧ some k_ ≠ (v760 : Value).ownBlock) v762 t758) ∧ Aside0 (Below w.heap.size w w'))
    case atStart => exact ⟨(0), (Zs), H', ⟨Nat.le_refl _⟩, ⟨by (with_reducible repeat (first | apply Kd.R_alloc | apply Kd.R_drewN | apply Kd.R_drew)); exact Kd.R_mono HO755.out (fun _ hk => ⟨hk.1.2, hk.2⟩)⟩, ⟨by (with_reducible repeat (first | apply Kd.R_alloc | apply Kd.R_drewN | apply Kd.R_drew)); exact Kd.R_mono HO761.out (fun _ hk => ⟨hk.2, hk.1.1⟩)⟩, ⟨by (with_reducible repeat (first | apply Kd.R_alloc | apply Kd.R_drewN | apply Kd.R_drew)); exact Kd.R_mono HO763.out (fun _ hk => ⟨hk.2, hk.1.1⟩)⟩, ⟨Zb⟩⟩
    case round =>
     clear H'
     try clear c1
     try clear c2
     try clear p2
     try clear c3
     try clear c5
     try clear c5b0
     try clear c5b1
     try clear c6
     try clear c6b0
     try clear c6b1
     try clear c7
     try clear c10
     try clear c12
     try clear c12b0
     try clear c12b1
     try clear p2
     obtain ⟨x13_2, rfl, HA, HK2, HO_8, HO_10, HO_11, HB⟩ := hrel
     cases gk with
     | zero => exact absurd HA.out (by simp [contangolaw24_TierDone.l0])
     | succ k2 =>
      have H := HA.out
      clear HA
      simp only [contangolaw24_TierDone.l0] at H
      obtain ⟨Ao16, co16, eo16⟩ := Kd.R_slice HO_10.out
      subst eo16
      go_upto_if 50 with (fail)
      by_cases c17 : x13_2 < (t757.length : Int)
      ·rw [if_pos c17] at H
       have c17b0 : decide (x13_2 < (t757.length : Int)) = T := decide_eq_true c17
       clear c17
       (try simp only [c17b0])
       by_cases c18 : 0 ≤ x13_2
       ·rw [if_pos c18] at H
        have c18b0 : decide (0 ≤ x13_2) = T := decide_eq_true c18
        clear c18
        have p764 : 0 ≤ (x13_2 : Int) := Ze
        have q764 : x13_2 < (t757.length : Int) := Ze
        obtain ⟨ad764, e764, hx764_0⟩ := Kd.at_int (Kd.R_reads' HO_10.out).2.2 x13_2 p764 q764
        cases e764
        replace p764 := eq_true p764
        replace q764 := eq_true q764
        go_upto_if 57 with (fail)
        by_cases c19 : (rd t757 x13_2) = 0
        ·rw [if_pos c19] at H
         have c19b0 : ((rd t757 x13_2) == 0) = T := beq_iff_eq.mpr c19
         have c19b1 : ((rd t757 x13_2) != 0) = F := bne_eq_false_iff_eq.mpr c19
         clear c19
         (try simp only [c19b0, c19b1])
         have H' := Aside0.mk H
         clear H
         go_wp2
         go_roundg k2
         case measure => have := HJ3.out; have := HK2.out; omega
         case rel => exact ⟨(wrap64 (x13_2 + 1)), (Zs), H', ⟨by have := HJ3.out; have := HK2.out; omega⟩, ⟨Zr HO_8.out⟩, ⟨Zr HO_10.out⟩, ⟨Zr HO_11.out⟩, ⟨Zb⟩⟩
        rw [if_neg c19] at H
        have c19b0 : ((rd t757 x13_2) == 0) = F := beq_eq_false_iff_ne.mpr c19
        have c19b1 : ((rd t757 x13_2) != 0) = T := bne_iff_ne.mpr c19
        (try simp only [c19b0, c19b1])
        obtain rfl := Option.some.inj H
        go_wp2
        go_ret
        exact ⟨Zq, Zb⟩
       rw [if_neg c18] at H
       exact absurd H (by simp)
      rw [if_neg c17] at H
      have c17b0 : decide (x13_2 < (t757.length : Int)) = F := decide_eq_false c17
      clear c17
      (try simp only [c17b0])
      by_cases c20 : t759 = 0
      ·rw [if_pos c20] at H
       have c20b0 : (t759 == 0) = T := beq_iff_eq.mpr c20
       have c20b1 : (t759 != 0) = F := bne_eq_false_iff_eq.mpr c20
       clear c20
       replace H := Option.bind_eq_some_iff.mp H
       obtain ⟨t765, A210, H⟩ := H
       replace H : (if t765 = T then (if (t757.length : Int) = (l2.length : Int) then ((Qai.f k2).bind fun t766 => (some t766)) else (some F)) else (some F)) = some r := H
       have A21 := Aside0.mk A210
       clear A210
       by_cases c22 : t765 = T
       ·subst c22
        have H1 : (if (t757.length : Int) = (l2.length : Int) then ((Qai.f k2).bind fun t766 => (some t766)) else (some F)) = some r := by rw [if_pos rfl] at H; exact H
        clear H
        have H := H1
        clear H1
        by_cases c23 : (t757.length : Int) = (l2.length : Int)
        ·rw [if_pos c23] at H
         have c23b0 : ((t757.length : Int) == (l2.length : Int)) = T := beq_iff_eq.mpr c23
         have c23b1 : ((t757.length : Int) != (l2.length : Int)) = F := bne_eq_false_iff_eq.mpr c23
         have c23b2 : (t757.length == l2.length) = T := by first | simpa using c23 | (simp at c23 ⊢; omega)
         clear c23
         replace H := Option.bind_eq_some_iff.mp H
         obtain ⟨t766, A240, H⟩ := H
         replace H : (some t766) = some r := H
         have A24 := Aside0.mk A240
         clear A240
         obtain rfl := Option.some.inj H
         obtain ⟨Ao25, co25, eo25⟩ := Kd.R_slice HO_11.out
         subst eo25
         go_wp2_with (first | (go_at_call 37; (with_reducible refine (Qaf.calls k2 _ _ t758 _ _ t750 T _ ?side1 ?side2 ?side3 ?side4 A21.out).mono ?_); (case side1 => exact Zv (Kd.R_reads' HO_11.out).2.2); (case side2 => exact (Kd.R_reads' HO_11.out).2.1); (case side3 => exact Zv (Kd.R_reads' HO_8.out).2.2); (case side4 => exact (Kd.R_reads' HO_8.out).2.1); rintro e w' ⟨rfl, ⟨nd, rfl⟩⟩) | (go_at_call 32; (with_reducible refine (Qai.calls k2  t766 _ A24.out).mono ?_); rintro e w26 ⟨rfl, hb⟩; replace HO_8 := Aside0.mk (Kd.R_below (Zr HO_8.out) hb); replace HO_10 := Aside0.mk (Kd.R_below (Zr HO_10.out) hb); replace HO_11 := Aside0.mk (Kd.R_below (Zr HO_11.out) hb); replace HB := Aside0.mk (Qax (Zb) hb); (try clear hb); (try clear hb2); (try clear hk); (try clear hi)))
         go_ret
         exact ⟨Zq, Zb⟩
        rw [if_neg c23] at H
        have c23b0 : ((t757.length : Int) == (l2.length : Int)) = F := beq_eq_false_iff_ne.mpr c23
        have c23b1 : ((t757.length : Int) != (l2.length : Int)) = T := bne_iff_ne.mpr c23
        have c23b2 : (t757.length == l2.length) = F := by first | simpa using c23 | (simp at c23 ⊢; omega)
        obtain rfl := Option.some.inj H
        obtain ⟨Ao27, co27, eo27⟩ := Kd.R_slice HO_11.out
        subst eo27
        go_wp2_with (first | (go_at_call 37; (with_reducible refine (Qaf.calls k2 _ _ t758 _ _ t750 T _ ?side1 ?side2 ?side3 ?side4 A21.out).mono ?_); (case side1 => exact Zv (Kd.R_reads' HO_11.out).2.2); (case side2 => exact (Kd.R_reads' HO_11.out).2.1); (case side3 => exact Zv (Kd.R_reads' HO_8.out).2.2); (case side4 => exact (Kd.R_reads' HO_8.out).2.1); rintro e w' ⟨rfl, ⟨nd, rfl⟩⟩))
        go_ret
        exact ⟨Zq, Zb⟩
       replace c22 := Bool.eq_false_iff.mpr c22
       subst c22
       have H1 : (some F) = some r := by rw [if_neg (show ¬ (F = T) by decide)] at H; exact H
       clear H
       have H := H1
       clear H1
       obtain rfl := Option.some.inj H
       obtain ⟨Ao28, co28, eo28⟩ := Kd.R_slice HO_11.out
       subst eo28
       go_wp2_with (first | (go_at_call 37; (with_reducible refine (Qaf.calls k2 _ _ t758 _ _ t750 F _ ?side1 ?side2 ?side3 ?side4 A21.out).mono ?_); (case side1 => exact Zv (Kd.R_reads' HO_11.out).2.2); (case side2 => exact (Kd.R_reads' HO_11.out).2.1); (case side3 => exact Zv (Kd.R_reads' HO_8.out).2.2); (case side4 => exact (Kd.R_reads' HO_8.out).2.1); rintro e w' ⟨rfl, ⟨nd, rfl⟩⟩))
       go_ret
       exact ⟨Zq, Zb⟩
      rw [if_neg c20] at H
      have c20b0 : (t759 == 0) = F := beq_eq_false_iff_ne.mpr c20
      have c20b1 : (t759 != 0) = T := bne_iff_ne.mpr c20
      obtain rfl := Option.some.inj H
      go_wp2
      go_ret
      exact ⟨Zq, Zb⟩
   rw [if_neg c12] at H
   have c12b0 : (t751 == 0) = F := beq_eq_false_iff_ne.mpr c12
   have c12b1 : (t751 != 0) = T := bne_iff_ne.mpr c12
   (try simp only [c12b0, c12b1])
   replace H := Option.bind_eq_some_iff.mp H
   obtain ⟨t756, A290, H⟩ := H
   replace H : (some t756) = some r := H
   have A29 := Aside0.mk A290
   clear A290
   obtain rfl := Option.some.inj H
   go_wp2_with (first | ((with_reducible refine Qat (f := 32) rfl ?_); refine goesL_ (some 38) rfl rfl Try.func32 (by kernel_rfl) rfl #[] rfl (Zl) ?_; (with_reducible refine (Qai.calls kj3  t756 _ A29.out).mono ?_); rintro e w30 ⟨rfl, hb⟩; refine ⟨_, rfl, ?_⟩; replace HO753 := Aside0.mk (Kd.R_below (Zr HO753.out) hb); replace HO755 := Aside0.mk (Kd.R_below (Zr HO755.out) hb); replace HB := Aside0.mk (Qax (Zb) hb); (try clear hb); (try clear hb2); (try clear hk); (try clear hi)))
   go_ret
   exact ⟨Zq, Zb⟩
end Go.Proofs.Ytggbflplbblgbaa.Pr
