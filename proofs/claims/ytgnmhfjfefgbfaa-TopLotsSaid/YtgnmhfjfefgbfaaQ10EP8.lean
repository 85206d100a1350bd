/- Functions' values and contracts, as the print wrote them. -/
import Derived.Test.YtgnmhfjfefgbfaaQ10EP0
import Derived.Test.YtgnmhfjfefgbfaaQ10EP2
import Derived.Test.YtgnmhfjfefgbfaaQ10EP3
import Derived.Test.YtgnmhfjfefgbfaaQ10EP7
import Derived.Test.YtgnmhfjfefgbfaaQ10EP5
import Derived.Test.YtgnmhfjfefgbfaaQ10EP6
import Derived.Test.YtgnmhfjfefgbfaaQ10EP4
namespace Go.Proofs.Ytgnmhfjfefgbfaa.Pr
open Bool renaming true → T
open Bool renaming false → F
open Go.RowKit Go.Proofs.YtgnmhfjfefgbfaaW.PrintWords Go.Proofs.YtgnmhfjfefgbfaaW.PrintLast Go.Proofs.YtgnmhfjfefgbfaaW.PrintMore
attribute [local go_sem] QaO QaQ QaU QaV QaK QaL QaP QaR   -- for this text's walks alone
set_option linter.unusedVariables false
set_option linter.unusedSimpArgs false
set_option maxRecDepth 100000
set_option maxHeartbeats 8000000
mutual
def Qai.j0 : Nat → List (S67) → List (S128) → List Int → Int → Bool → Option (Bool)
 | 0, _, _, _, _, _ => none
 | k + 1, x0, x2, x3, x4, x33 => if x33 = T then (some F) else (if 0 ≤ (x3.length : Int) then (if ((x3.length : Int) : Int).toNat ≤ 35184372088832 then (Qai.l0 k x0 x2 x3 x4 (List.replicate ((x3.length : Int) : Int).toNat 0) 0 (x0.length : Int) 0) else (none)) else (none))
def Qai.l0 : Nat → List (S67) → List (S128) → List Int → Int → List Int → Int → Int → Int → Option (Bool)
 | 0, _, _, _, _, _, _, _, _ => none
 | k + 1, x0, x2, x3, x4, x13, x14, x38, x39 => if x39 < x38 then (if 0 ≤ x39 then (if x39 < (x0.length : Int) then ((Qaq.f k ((rd_T67 x0 x39).f1) x2).bind fun bt796 => ((Qaw.f k ((rd_T67 x0 x39).f1) x2).bind fun bt801 => (if bt796.2 = 0 then (if bt801.2 = 0 then (Qai.j2 k x0 x2 x3 x4 x13 x14 bt796.1 bt801.1 x38 x39 ((bt796.1.length : Int) != (x13.length : Int))) else (Qai.j2 k x0 x2 x3 x4 x13 x14 bt796.1 bt801.1 x38 x39 T)) else (Qai.j2 k x0 x2 x3 x4 x13 x14 bt796.1 bt801.1 x38 x39 T)))) else (none)) else (none)) else ((Qay.f k x13 x3).bind fun t794 => (if t794 = T then (some (x14 == x4)) else (some F)))
def Qai.j2 : Nat → List (S67) → List (S128) → List Int → Int → List Int → Int → List Int → Int → Int → Int → Bool → Option (Bool)
 | 0, _, _, _, _, _, _, _, _, _, _, _ => none
 | k + 1, x0, x2, x3, x4, x13, x14, x16, x18, x38, x39, x74 => if x74 = T then (some F) else (Qai.l1 k x0 x2 x3 x4 x13 (wrap64 (x14 + x18)) x16 x38 x39 (x16.length : Int) 0)
def Qai.l1 : Nat → List (S67) → List (S128) → List Int → Int → List Int → Int → List Int → Int → Int → Int → Int → Option (Bool)
 | 0, _, _, _, _, _, _, _, _, _, _, _ => none
 | k + 1, x0, x2, x3, x4, x13, x14, x16, x38, x39, x79, x80 => if x80 < x79 then (if 0 ≤ x80 then (if x80 < (x13.length : Int) then (if x80 < (x16.length : Int) then (Qai.l1 k x0 x2 x3 x4 (x13.set (x80 : Int).toNat (wrap64 ((rd x13 x80) + (rd x16 x80)))) x14 x16 x38 x39 x79 (wrap64 (x80 + 1))) else (none)) else (none)) else (none)) else (Qai.l0 k x0 x2 x3 x4 x13 x14 x38 (wrap64 (x39 + 1)))
end
def Qai.f (k : Nat) (l0 : List (S67)) (l1 : List (S71)) (l2 : List (S128)) (l3 : List Int) (a4 : Int) : Option (Bool) := (QaD.f k l0).bind fun bt786 => (if bt786.2 = 0 then ((Qat.f k bt786.1 l1).bind fun t790 => (Qai.j0 k l0 l2 l3 a4 (!t790))) else (Qai.j0 k l0 l2 l3 a4 T))
theorem Qai.mono_l : ∀ k, (∀ y0 y1 y2 y3 y4, LeO (Qai.j0 k y0 y1 y2 y3 y4) (Qai.j0 (k + 1) y0 y1 y2 y3 y4)) ∧ (∀ y0 y1 y2 y3 y4 y5 y6 y7, LeO (Qai.l0 k y0 y1 y2 y3 y4 y5 y6 y7) (Qai.l0 (k + 1) y0 y1 y2 y3 y4 y5 y6 y7)) ∧ (∀ y0 y1 y2 y3 y4 y5 y6 y7 y8 y9 y10, LeO (Qai.j2 k y0 y1 y2 y3 y4 y5 y6 y7 y8 y9 y10) (Qai.j2 (k + 1) y0 y1 y2 y3 y4 y5 y6 y7 y8 y9 y10)) ∧ (∀ y0 y1 y2 y3 y4 y5 y6 y7 y8 y9 y10, LeO (Qai.l1 k y0 y1 y2 y3 y4 y5 y6 y7 y8 y9 y10) (Qai.l1 (k + 1) y0 y1 y2 y3 y4 y5 y6 y7 y8 y9 y10))
 | 0 => ⟨fun _ _ _ _ _ r h => by simp [Qai.j0] at h, fun _ _ _ _ _ _ _ _ r h => by simp [Qai.l0] at h, fun _ _ _ _ _ _ _ _ _ _ _ r h => by simp [Qai.j2] at h, fun _ _ _ _ _ _ _ _ _ _ _ r h => by simp [Qai.l1] at h⟩
 | k + 1 => by
  obtain ⟨ih0, ih1, ih2, ih3⟩ := Qai.mono_l k
  refine ⟨?_, ?_, ?_, ?_⟩
  ·intro y0 y1 y2 y3 y4
   unfold Qai.j0
   exact ZM9 ih0 ih1 ih2 ih3 Qat.mono Qay.mono QaD.mono Qaw.mono Qaq.mono
  ·intro y0 y1 y2 y3 y4 y5 y6 y7
   unfold Qai.l0
   exact ZM9 ih0 ih1 ih2 ih3 Qat.mono Qay.mono QaD.mono Qaw.mono Qaq.mono
  ·intro y0 y1 y2 y3 y4 y5 y6 y7 y8 y9 y10
   unfold Qai.j2
   exact ZM9 ih0 ih1 ih2 ih3 Qat.mono Qay.mono QaD.mono Qaw.mono Qaq.mono
  intro y0 y1 y2 y3 y4 y5 y6 y7 y8 y9 y10
  unfold Qai.l1
  exact ZM9 ih0 ih1 ih2 ih3 Qat.mono Qay.mono QaD.mono Qaw.mono Qaq.mono
theorem Qai.mono : ∀ a0 a1 a2 a3 a4 k, LeO (Qai.f k a0 a1 a2 a3 a4) (Qai.f (k + 1) a0 a1 a2 a3 a4) := by
 intro a0 a1 a2 a3 a4 k
 obtain ⟨ih0, ih1, ih2, ih3⟩ := Qai.mono_l k
 unfold Qai.f
 exact ZM9 ih0 ih1 ih2 ih3 Qat.mono Qay.mono QaD.mono Qaw.mono Qaq.mono
def Qai.T17 : Bool × List (List Nat × List Nat) := (T, [([], []), ([], []), ([], []), ([], []), ([2, 3], [2, 3]), ([4], [4]), ([], []), ([], []), ([6, 7], [6, 7]), ([8], [8]), ([5, 9], [5, 9]), ([0, 1, 0, 1, 2, 3, 4, 5, 6, 7, 8, 9, 10], [0, 1]), ([11, 10, 0, 1, 2, 3, 4, 5, 6, 7, 8, 9, 10], [10, 11])])
def Qai.B17 : List Nat := [0, 0, 0, 0, 12, 28, 0, 0, 192, 448, 1020, 2047, 4095]
theorem Qai.tab17 : rtab .any (opsOf Try.f28 17) = Qai.T17 := by kernel_rfl
theorem Qai.bits17 : Qbg Qai.T17.2 Qai.B17 = T := by kernel_rfl
theorem Qai.calls (k : Nat) (A0 : Option Addr) (c0 : Nat) (l0 : List (S67)) (A1 : Option Addr) (c1 : Nat) (l1 : List (S71)) (A2 : Option Addr) (c2 : Nat) (l2 : List (S128)) (A3 : Option Addr) (c3 : Nat) (l3 : List Int) (a4 : Int) (r : Bool) (w : World) (hr0 : Kd.C k67 w A0 l0.length l0) (hc0 : l0.length ≤ c0) (hr1 : Kd.C k71 w A1 l1.length l1) (hc1 : l1.length ≤ c1) (hr2 : Kd.C k128 w A2 l2.length l2) (hc2 : l2.length ≤ c2) (hr3 : Kd.C (Kd.int .i64) w A3 l3.length l3) (hc3 : l3.length ≤ c3) (h : Qai.f k l0 l1 l2 l3 a4 = some r) :
  Calls Try.prog 28 #[.slice A0 l0.length c0, .slice A1 l1.length c1, .slice A2 l2.length c2, .slice A3 l3.length c3, .int .i64 a4] w fun e w' => e = .returned (.bool r) ∧ Below w.heap.size w w' := by
 have HR0 := Aside0.mk hr0
 have HC0 := Aside0.mk hc0
 clear hr0 hc0
 have HR1 := Aside0.mk hr1
 have HC1 := Aside0.mk hc1
 clear hr1 hc1
 have HR2 := Aside0.mk hr2
 have HC2 := Aside0.mk hc2
 clear hr2 hc2
 have HR3 := Aside0.mk hr3
 have HC3 := Aside0.mk hc3
 clear hr3 hc3
 have HB := Aside0.mk (Below.refl w.heap.size w)
 have H : ((QaD.f k l0).bind fun bt786 => (if bt786.2 = 0 then ((Qat.f k bt786.1 l1).bind fun t790 => (Qai.j0 k l0 l2 l3 a4 (!t790))) else (Qai.j0 k l0 l2 l3 a4 T))) = some r := h
 clear h
 replace H := Option.bind_eq_some_iff.mp H
 obtain ⟨⟨t786, t787⟩, A60, H⟩ := H
 replace H : (if t787 = 0 then ((Qat.f k t786 l1).bind fun t790 => (Qai.j0 k l0 l2 l3 a4 (!t790))) else (Qai.j0 k l0 l2 l3 a4 T)) = some r := H
 have A6 := Aside0.mk A60
 clear A60
 have HC7 := Aside0.mk H
 clear H
 go_enter Try.func28, Try.ntmps28
 go_upto_region 2 with (first | ((with_reducible refine QaF (f := 75) rfl ?_); refine goesL_ (some 23) rfl rfl Try.func75 (by kernel_rfl) rfl #[.slice A0 l0.length c0] rfl (Zl) ?_; (with_reducible refine (QaD.calls k _ _ l0 t786 t787 _ ?side1 ?side2 A6.out).mono ?_); (case side1 => exact Zv HR0.out); (case side2 => exact HC0.out); rintro e w8 ⟨v788, rfl, ho0, hb⟩; refine ⟨_, rfl, ?_⟩; have HO789 := Aside0.mk (Kd.R_lower ho0 (Qau (Zb))); replace HB := Aside0.mk (Qav (Zb) hb); (try clear hb); (try clear hb2); (try clear hk); (try clear hi); (try clear ho0)))
 (try simp only [Act.put, Zj, Zk, Zm])
 go_cut [33] (fun v33 wc => ∃ (kq : Nat) (x33_6 : Bool), v33 = .bool x33_6 ∧ Aside0 (Qai.j0 kq l0 l2 l3 a4 x33_6 = some r) ∧ Aside0 (kq ≤ k) ∧ Aside0 (Below w.heap.size w wc))
 case first =>
  have H := HC7.out
  clear HC7
  by_cases c9 : t787 = 0
  ·rw [if_pos c9] at H
   have c9b0 : (t787 == 0) = T := beq_iff_eq.mpr c9
   have c9b1 : (t787 != 0) = F := bne_eq_false_iff_eq.mpr c9
   clear c9
   replace H := Option.bind_eq_some_iff.mp H
   obtain ⟨t790, A100, H⟩ := H
   replace H : (Qai.j0 k l0 l2 l3 a4 (!t790)) = some r := H
   have A10 := Aside0.mk A100
   clear A100
   have H' := Aside0.mk H
   clear H
   obtain ⟨Ao11, co11, eo11⟩ := Kd.R_slice HO789.out
   subst eo11
   go_wp2_with (first | (go_at_call 76; (with_reducible refine (Qat.calls k _ _ t786 _ _ l1 t790 _ ?side1 ?side2 ?side3 ?side4 A10.out).mono ?_); (case side1 => exact Zv (Kd.R_reads' HO789.out).2.2); (case side2 => exact (Kd.R_reads' HO789.out).2.1); (case side3 => exact Zv (Kd.C_below HR1.out HB.out)); (case side4 => exact HC1.out); rintro e w' ⟨rfl, ⟨nd, rfl⟩⟩))
   go_meet
   case rel => exact ⟨_, (!t790), (Zs), H', ⟨by first | omega | exact Nat.le_refl _⟩, ⟨Zb⟩⟩
  rw [if_neg c9] at H
  have c9b0 : (t787 == 0) = F := beq_eq_false_iff_ne.mpr c9
  have c9b1 : (t787 != 0) = T := bne_iff_ne.mpr c9
  have H' := Aside0.mk H
  clear H
  go_wp2
  go_meet
  case rel => exact ⟨_, (T), (Zs), H', ⟨by first | omega | exact Nat.le_refl _⟩, ⟨Zb⟩⟩
 case rest =>
  clear HC7
  try clear c1
  try clear c2
  try clear p2
  try clear c3
  try clear c7
  try clear c9
  try clear c9b0
  try clear c9b1
  obtain ⟨kq, x33_6, rfl, HA, HJ6, HB⟩ := hcut
  cases kq with
  | zero => exact absurd HA.out (by simp [Qai.j0])
  | succ kj6 =>
   have H := HA.out
   clear HA
   simp only [Qai.j0] at H
   by_cases c12 : x33_6 = T
   ·subst c12
    have H1 : (some F) = some r := by rw [if_pos rfl] at H; exact H
    clear H
    have H := H1
    clear H1
    obtain rfl := Option.some.inj H
    go_wp2
    go_ret
    exact ⟨Zq, Zb⟩
   replace c12 := Bool.eq_false_iff.mpr c12
   subst c12
   have H1 : (if 0 ≤ (l3.length : Int) then (if ((l3.length : Int) : Int).toNat ≤ 35184372088832 then (Qai.l0 kj6 l0 l2 l3 a4 (List.replicate ((l3.length : Int) : Int).toNat 0) 0 (l0.length : Int) 0) else (none)) else (none)) = some r := by rw [if_neg (show ¬ (F = T) by decide)] at H; exact H
   clear H
   have H := H1
   clear H1
   by_cases c13 : 0 ≤ (l3.length : Int)
   ·rw [if_pos c13] at H
    have c13b0 := eq_true c13
    have c13b1 : decide (0 ≤ (l3.length : Int)) = T := decide_eq_true c13
    clear c13
    by_cases c14 : ((l3.length : Int) : Int).toNat ≤ 35184372088832
    ·rw [if_pos c14] at H
     have c14b0 := eq_true c14
     have c14b1 : decide (((l3.length : Int) : Int).toNat ≤ 35184372088832) = T := decide_eq_true c14
     clear c14
     obtain ⟨y791, hy791⟩ : ∃ y_ : List Int, y_ = (List.replicate ((l3.length : Int) : Int).toNat 0) := ⟨_, rfl⟩
     replace H : (Qai.l0 kj6 l0 l2 l3 a4 y791 0 (l0.length : Int) 0) = some r := by first | (rw [hy791]; with_reducible exact H) | (have H2_ := (Option.bind_some _ _).symm.trans H; rw [hy791]; with_reducible exact H2_) | (have H2_ := (Option.bind_some _ _).symm.trans H; with_reducible exact H2_) | with_reducible exact H | (rw [hy791]; exact H) | exact H
     have Ny791 := Aside0.mk hy791
     clear hy791
     have H' := Aside0.mk H
     clear H
     go_wp2_with (first | ((with_reducible refine QaX (N := 36) rfl ?_); (try (refine Qbu (by rfl) ?_; dsimp only)); refine Kd.R_make (Kd.int .i64) _ 3 rfl (N := 36) rfl 32 _ _ rfl (l3.length : Int) rfl rfl Try.underlying32 (.int .i64 0) 8 info3 rfl (by decide) (by omega) 0 (ok := fun _ => True) (okp := fun _ => True) rfl (fun _ hk => hk) trivial (Ze) (Nat.le_trans (Nat.mul_le_mul_right _ (Ze : (l3.length : Int).toNat ≤ 35184372088832)) (by omega)) (Below.refl _ _) (Nat.le_refl _) ?_; intro v792 w15 ho16 hb hg_ hnew_; clear hg_ hnew_; (first | rw [← Ny791.out] at ho16 | (simp only [Int.reduceToNat] at ho16; rw [← Ny791.out] at ho16)); have HO793 := Aside0.mk (Kd.R_lower ho16 (Qau (Zb))); replace HB := Aside0.mk (Qav (Zb) hb); clear hb ho16))
     go_loopg [14, 39] kj6 (fun kq v14 v39 w' => ∃ (x13_2 : List Int) (x14_2 : Int) (x39_2 : Int), v14 = .int .i64 x14_2 ∧ v39 = .int .i64 x39_2 ∧ Aside0 (Qai.l0 kq l0 l2 l3 a4 x13_2 x14_2 (l0.length : Int) x39_2 = some r) ∧ Aside0 (kq ≤ kj6) ∧ Aside0 (Kd.R (Kd.int .i64) 3 w' w.heap.size (fun _ => True) v792 x13_2) ∧ Aside0 (Below w.heap.size w w'))
     case atStart => exact ⟨(y791), (0), (0), (Zs), (Zs), H', ⟨Nat.le_refl _⟩, ⟨Zr HO793.out⟩, ⟨Zb⟩⟩
     case round =>
      clear H'
      try clear c1
      try clear c2
      try clear p2
      try clear c3
      try clear c7
      try clear c9
      try clear c9b0
      try clear c9b1
      try clear c12
      try clear c13
      try clear c13b0
      try clear c13b1
      try clear c14
      try clear c14b0
      try clear c14b1
      try clear p2
      obtain ⟨x13_2, x14_2, x39_2, rfl, rfl, HA, HK2, HO_13, HB⟩ := hrel
      cases gk with
      | zero => exact absurd HA.out (by simp [Qai.l0])
      | succ k2 =>
       have H := HA.out
       clear HA
       simp only [Qai.l0] at H
       by_cases c17 : x39_2 < (l0.length : Int)
       ·rw [if_pos c17] at H
        have c17b0 : decide (x39_2 < (l0.length : Int)) = T := decide_eq_true c17
        clear c17
        (try simp only [c17b0])
        by_cases c18 : 0 ≤ x39_2
        ·rw [if_pos c18] at H
         have c18b0 : decide (0 ≤ x39_2) = T := decide_eq_true c18
         clear c18
         by_cases c19 : x39_2 < (l0.length : Int)
         ·rw [if_pos c19] at H
          have c19b0 : decide (x39_2 < (l0.length : Int)) = T := decide_eq_true c19
          clear c19
          replace H := Option.bind_eq_some_iff.mp H
          obtain ⟨⟨t796, t797⟩, A200, H⟩ := H
          replace H : ((Qaw.f k2 ((rd_T67 l0 x39_2).f1) l2).bind fun bt801 => (if t797 = 0 then (if bt801.2 = 0 then (Qai.j2 k2 l0 l2 l3 a4 x13_2 x14_2 t796 bt801.1 (l0.length : Int) x39_2 ((t796.length : Int) != (x13_2.length : Int))) else (Qai.j2 k2 l0 l2 l3 a4 x13_2 x14_2 t796 bt801.1 (l0.length : Int) x39_2 T)) else (Qai.j2 k2 l0 l2 l3 a4 x13_2 x14_2 t796 bt801.1 (l0.length : Int) x39_2 T))) = some r := H
          have A20 := Aside0.mk A200
          clear A200
          replace H := Option.bind_eq_some_iff.mp H
          obtain ⟨⟨t801, t802⟩, A210, H⟩ := H
          replace H : (if t797 = 0 then (if t802 = 0 then (Qai.j2 k2 l0 l2 l3 a4 x13_2 x14_2 t796 t801 (l0.length : Int) x39_2 ((t796.length : Int) != (x13_2.length : Int))) else (Qai.j2 k2 l0 l2 l3 a4 x13_2 x14_2 t796 t801 (l0.length : Int) x39_2 T)) else (Qai.j2 k2 l0 l2 l3 a4 x13_2 x14_2 t796 t801 (l0.length : Int) x39_2 T)) = some r := H
          have A21 := Aside0.mk A210
          clear A210
          have HC22 := Aside0.mk H
          clear H
          have p795 : 0 ≤ (x39_2 : Int) := Ze
          have q795 : x39_2 < (l0.length : Int) := Ze
          obtain ⟨ad795, A795_1, c795_1, e795, hx795_0, hx795_1, hl795_1, hi795_1⟩ := at_T67 HR0.out x39_2 p795 q795
          cases e795
          replace hx795_0 := Zx HB.out hx795_0
          replace hx795_1 := Zx HB.out hx795_1
          have HR795_1 := Aside0.mk hi795_1
          have HC795_1 := Aside0.mk hl795_1
          clear hi795_1 hl795_1
          replace p795 := eq_true p795
          replace q795 := eq_true q795
          go_upto_region 11 with (first | ((with_reducible refine QaF (f := 24) rfl ?_); refine goesL_ (some 49) rfl rfl Try.func24 (by kernel_rfl) rfl #[.slice A795_1 ((rd_T67 l0 x39_2).f1).length c795_1, .slice A2 l2.length c2] rfl (Zl) ?_; (with_reducible refine (Qaq.calls k2 _ _ ((rd_T67 l0 x39_2).f1) _ _ l2 t796 t797 _ ?side1 ?side2 ?side3 ?side4 A20.out).mono ?_); (case side1 => exact Zv (Kd.C_below HR795_1.out HB.out)); (case side2 => exact HC795_1.out); (case side3 => exact Zv (Kd.C_below HR2.out HB.out)); (case side4 => exact HC2.out); rintro e w23 ⟨v798, rfl, ho0, hb⟩; refine ⟨_, rfl, ?_⟩; have HO799 := Aside0.mk (Kd.R_lower (Kd.R_new' ho0 (Kd.R_lt (Zr HO_13.out))) (Qau (Zb))); replace HO_13 := Aside0.mk (Kd.R_elder' (Zr HO_13.out) (Kd.R_base ho0) hb); replace HB := Aside0.mk (Qav (Zb) hb); (try clear hb); (try clear hb2); (try clear hk); (try clear hi); (try clear ho0); have p800 : 0 ≤ (x39_2 : Int) := Ze; have q800 : x39_2 < (l0.length : Int) := Ze; obtain ⟨ad800, A800_1, c800_1, e800, hx800_0, hx800_1, hl800_1, hi800_1⟩ := at_T67 HR0.out x39_2 p800 q800; obtain rfl : ad795 = ad800 := (by injection e800); replace hx800_0 := Zx HB.out hx800_0; replace hx800_1 := Zx HB.out hx800_1; have HR800_1 := Aside0.mk hi800_1; have HC800_1 := Aside0.mk hl800_1; clear hi800_1 hl800_1; replace p800 := eq_true p800; replace q800 := eq_true q800) | ((with_reducible refine QaF (f := 16) rfl ?_); refine goesL_ (some 59) rfl rfl Try.func16 (by kernel_rfl) rfl #[.slice A800_1 ((rd_T67 l0 x39_2).f1).length c800_1, .slice A2 l2.length c2] rfl (Zl) ?_; (with_reducible refine (Qaw.calls k2 _ _ ((rd_T67 l0 x39_2).f1) _ _ l2 t801 t802 _ ?side1 ?side2 ?side3 ?side4 A21.out).mono ?_); (case side1 => exact Zv (Kd.C_below HR800_1.out HB.out)); (case side2 => exact HC800_1.out); (case side3 => exact Zv (Kd.C_below HR2.out HB.out)); (case side4 => exact HC2.out); rintro e w24 ⟨rfl, hb⟩; refine ⟨_, rfl, ?_⟩; replace HO_13 := Aside0.mk (Kd.R_below (Zr HO_13.out) hb); replace HO799 := Aside0.mk (Kd.R_below (Zr HO799.out) hb); replace HB := Aside0.mk (Qav (Zb) hb); (try clear hb); (try clear hb2); (try clear hk); (try clear hi)))
          (try simp only [Act.put, Zj, Zk, Zm])
          go_cut [74] (fun v74 wc => ∃ (kq : Nat) (x74_21 : Bool), v74 = .bool x74_21 ∧ Aside0 (Qai.j2 kq l0 l2 l3 a4 x13_2 x14_2 t796 t801 (l0.length : Int) x39_2 x74_21 = some r) ∧ Aside0 (kq ≤ k2) ∧ Aside0 (Kd.R (Kd.int .i64) 3 wc w.heap.size (fun k_ => some k_ ≠ (v798 : Value).ownBlock) v792 x13_2) ∧ Aside0 (Kd.R (Kd.int .i64) 3 wc w.heap.size (fun k_ => some k_ ≠ (v792 : Value).ownBlock) v798 t796) ∧ Aside0 (Below w.heap.size w wc))
          case first =>
           have H := HC22.out
           clear HC22
           by_cases c25 : t797 = 0
           ·rw [if_pos c25] at H
            have c25b0 : (t797 == 0) = T := beq_iff_eq.mpr c25
            have c25b1 : (t797 != 0) = F := bne_eq_false_iff_eq.mpr c25
            clear c25
            by_cases c26 : t802 = 0
            ·rw [if_pos c26] at H
             have c26b0 : (t802 == 0) = T := beq_iff_eq.mpr c26
             have c26b1 : (t802 != 0) = F := bne_eq_false_iff_eq.mpr c26
             clear c26
             have H' := Aside0.mk H
             clear H
             obtain ⟨Ao27, co27, eo27⟩ := Kd.R_slice HO799.out
             subst eo27
             obtain ⟨Ao28, co28, eo28⟩ := Kd.R_slice HO_13.out
             subst eo28
             go_wp2
             go_meet
             case rel => exact ⟨_, (((t796.length : Int) != (x13_2.length : Int))), (Zs), H', ⟨by have := HJ6.out; have := HK2.out; first | omega | exact Nat.le_refl _⟩, ⟨by (with_reducible repeat (first | apply Kd.R_alloc | apply Kd.R_drewN | apply Kd.R_drew)); exact Kd.R_mono HO_13.out (fun _ hk => hk.2)⟩, ⟨by (with_reducible repeat (first | apply Kd.R_alloc | apply Kd.R_drewN | apply Kd.R_drew)); exact Kd.R_mono HO799.out (fun _ hk => hk.2)⟩, ⟨Zb⟩⟩
            rw [if_neg c26] at H
            have c26b0 : (t802 == 0) = F := beq_eq_false_iff_ne.mpr c26
            have c26b1 : (t802 != 0) = T := bne_iff_ne.mpr c26
            have H' := Aside0.mk H
            clear H
            go_wp2
            go_meet
            case rel => exact ⟨_, (T), (Zs), H', ⟨by have := HJ6.out; have := HK2.out; first | omega | exact Nat.le_refl _⟩, ⟨by (with_reducible repeat (first | apply Kd.R_alloc | apply Kd.R_drewN | apply Kd.R_drew)); exact Kd.R_mono HO_13.out (fun _ hk => hk.2)⟩, ⟨by (with_reducible repeat (first | apply Kd.R_alloc | apply Kd.R_drewN | apply Kd.R_drew)); exact Kd.R_mono HO799.out (fun _ hk => hk.2)⟩, ⟨Zb⟩⟩
           rw [if_neg c25] at H
           have c25b0 : (t797 == 0) = F := beq_eq_false_iff_ne.mpr c25
           have c25b1 : (t797 != 0) = T := bne_iff_ne.mpr c25
           have H' := Aside0.mk H
           clear H
           go_wp2
           go_meet
           case rel => exact ⟨_, (T), (Zs), H', ⟨by have := HJ6.out; have := HK2.out; first | omega | exact Nat.le_refl _⟩, ⟨by (with_reducible repeat (first | apply Kd.R_alloc | apply Kd.R_drewN | apply Kd.R_drew)); exact Kd.R_mono HO_13.out (fun _ hk => hk.2)⟩, ⟨by (with_reducible repeat (first | apply Kd.R_alloc | apply Kd.R_drewN | apply Kd.R_drew)); exact Kd.R_mono HO799.out (fun _ hk => hk.2)⟩, ⟨Zb⟩⟩
          case rest =>
           clear HC22
           try clear c1
           try clear c2
           try clear p2
           try clear c3
           try clear c7
           try clear p7
           try clear q7
           try clear hx7
           try clear c8
           try clear p8
           try clear q8
           try clear hx8
           try clear c9
           try clear c9b0
           try clear c9b1
           try clear c12
           try clear c13
           try clear c13b0
           try clear c13b1
           try clear c14
           try clear c14b0
           try clear c14b1
           try clear c16
           try clear c17
           try clear c17b0
           try clear c18
           try clear c18b0
           try clear c19
           try clear c19b0
           try clear c24
           try clear c25
           try clear c25b0
           try clear c25b1
           try clear c26
           try clear c26b0
           try clear c26b1
           try clear c28
           try clear hx795_0
           try clear hx795_1
           try clear hx800_0
           try clear hx800_1
           try clear p2
           try clear p795
           try clear p800
           try clear q795
           try clear q800
           obtain ⟨kq, x74_21, rfl, HA, HJ21, HO_13, HO_16, HB⟩ := hcut
           cases kq with
           | zero => exact absurd HA.out (by simp [Qai.j2])
           | succ kj21 =>
            have H := HA.out
            clear HA
            simp only [Qai.j2] at H
            by_cases c29 : x74_21 = T
            ·subst c29
             have H1 : (some F) = some r := by rw [if_pos rfl] at H; exact H
             clear H
             have H := H1
             clear H1
             obtain rfl := Option.some.inj H
             go_wp2
             go_ret
             exact ⟨Zq, Zb⟩
            replace c29 := Bool.eq_false_iff.mpr c29
            subst c29
            have H1 : (Qai.l1 kj21 l0 l2 l3 a4 x13_2 (wrap64 (x14_2 + t801)) t796 (l0.length : Int) x39_2 (t796.length : Int) 0) = some r := by rw [if_neg (show ¬ (F = T) by decide)] at H; exact H
            clear H
            have H := H1
            clear H1
            have H' := Aside0.mk H
            clear H
            obtain ⟨Ao30, co30, eo30⟩ := Kd.R_slice HO_16.out
            subst eo30
            go_wp2
            go_loopg [80] kj21 (fun kq v80 w' => ∃ (x13_4 : List Int) (x80_4 : Int), v80 = .int .i64 x80_4 ∧ Aside0 (Qai.l1 kq l0 l2 l3 a4 x13_4 (wrap64 (x14_2 + t801)) t796 (l0.length : Int) x39_2 (t796.length : Int) x80_4 = some r) ∧ Aside0 (kq ≤ kj21) ∧ Aside0 (Kd.R (Kd.int .i64) 3 w' w.heap.size (fun k_ => some k_ ≠ ((.slice Ao30 t796.length co30) : Value).ownBlock) v792 x13_4) ∧ Aside0 (Kd.R (Kd.int .i64) 3 w' w.heap.size (fun k_ => some k_ ≠ (v792 : Value).ownBlock) (.slice Ao30 t796.length co30) t796) ∧ Aside0 (Below w.heap.size w w'))
            case atStart => exact ⟨(x13_2), (0), (Zs), H', ⟨Nat.le_refl _⟩, ⟨Zr HO_13.out⟩, ⟨Zr HO_16.out⟩, ⟨Zb⟩⟩
            case round =>
             clear H'
             try clear c1
             try clear c2
             try clear p2
             try clear c3
             try clear p6
             try clear c7
             try clear p7
             try clear q7
             try clear hx7
             try clear c8
             try clear p8
             try clear q8
             try clear hx8
             try clear c9
             try clear c9b0
             try clear c9b1
             try clear c12
             try clear c13
             try clear c13b0
             try clear c13b1
             try clear c14
             try clear c14b0
             try clear c14b1
             try clear c16
             try clear c17
             try clear c17b0
             try clear c18
             try clear c18b0
             try clear c19
             try clear c19b0
             try clear c24
             try clear c25
             try clear c25b0
             try clear c25b1
             try clear c26
             try clear c26b0
             try clear c26b1
             try clear c28
             try clear c29
             try clear hx795_0
             try clear hx795_1
             try clear hx800_0
             try clear hx800_1
             try clear p2
             try clear p7
             try clear p795
             try clear p8
             try clear p800
             try clear q7
             try clear q795
             try clear q8
             try clear q800
             obtain ⟨x13_4, x80_4, rfl, HA, HK4, HO_13, HO_16, HB⟩ := hrel
             cases gk with
             | zero => exact absurd HA.out (by simp [Qai.l1])
             | succ k4 =>
              have H := HA.out
              clear HA
              simp only [Qai.l1] at H
              by_cases c31 : x80_4 < (t796.length : Int)
              ·rw [if_pos c31] at H
               have c31b0 : decide (x80_4 < (t796.length : Int)) = T := decide_eq_true c31
               clear c31
               (try simp only [c31b0])
               by_cases c32 : 0 ≤ x80_4
               ·rw [if_pos c32] at H
                have c32b0 : decide (0 ≤ x80_4) = T := decide_eq_true c32
                clear c32
                by_cases c33 : x80_4 < (x13_4.length : Int)
                ·rw [if_pos c33] at H
                 have c33b0 : decide (x80_4 < (x13_4.length : Int)) = T := decide_eq_true c33
                 clear c33
                 by_cases c34 : x80_4 < (t796.length : Int)
                 ·rw [if_pos c34] at H
                  have c34b0 : decide (x80_4 < (t796.length : Int)) = T := decide_eq_true c34
                  clear c34
                  obtain ⟨y805, hy805⟩ : ∃ y_ : List Int, y_ = (x13_4.set (x80_4 : Int).toNat (wrap64 ((rd x13_4 x80_4) + (rd t796 x80_4)))) := ⟨_, rfl⟩
                  replace H : (Qai.l1 k4 l0 l2 l3 a4 y805 (wrap64 (x14_2 + t801)) t796 (l0.length : Int) x39_2 (t796.length : Int) (wrap64 (x80_4 + 1))) = some r := by first | (rw [hy805]; with_reducible exact H) | (have H2_ := (Option.bind_some _ _).symm.trans H; rw [hy805]; with_reducible exact H2_) | (have H2_ := (Option.bind_some _ _).symm.trans H; with_reducible exact H2_) | with_reducible exact H | (rw [hy805]; exact H) | exact H
                  have Ny805 := Aside0.mk hy805
                  clear hy805
                  have H' := Aside0.mk H
                  clear H
                  try go_wp2
                  replace HO_13 := Aside0.mk (Kd.R_drew HO_13.out)
                  replace HO_16 := Aside0.mk (Kd.R_drew HO_16.out)
                  replace HB := Aside0.mk (Qad HB.out)
                  obtain ⟨Ao37, co37, eo37⟩ := Kd.R_slice HO_13.out
                  (first | subst eo37 | (injection eo37 with f1_ f2_ f3_; have f4_ := f1_.symm; have f5_ := f3_.symm; clear f1_ f2_ f3_; subst f4_; subst f5_))
                  have p803 : 0 ≤ (x80_4 : Int) := Ze
                  have q803 : x80_4 < (x13_4.length : Int) := Ze
                  obtain ⟨ad803, e803, hx803_0⟩ := Kd.at_int (Kd.R_reads' HO_13.out).2.2 x80_4 p803 q803
                  cases e803
                  replace p803 := eq_true p803
                  replace q803 := eq_true q803
                  have p804 : 0 ≤ (x80_4 : Int) := Ze
                  have q804 : x80_4 < (t796.length : Int) := Ze
                  obtain ⟨ad804, e804, hx804_0⟩ := Kd.at_int (Kd.R_reads' HO_16.out).2.2 x80_4 p804 q804
                  cases e804
                  replace p804 := eq_true p804
                  replace q804 := eq_true q804
                  have p35 : 0 ≤ (x80_4 : Int) := Ze
                  have q35 : (x80_4 : Int) < ((x13_4.length : Int) : Int) := Ze
                  obtain ⟨go35, co35, eo35, gb35, gl35, cl35, HG35⟩ := Kd.R_form HO_13.out (by omega)
                  (first | cases eo35 | (injection eo35 with ea_ en_ ec_; (first | subst ea_ | (injection ea_ with ea_; subst ea_)); subst ec_; clear en_))
                  have GB35 := Aside0.mk gb35
                  have GG35 := Aside0.mk HG35
                  clear gb35 gl35 HG35
                  (first | simp only [QaT] at hx803_0 | skip)
                  obtain ⟨hx35_0, hf35_0⟩ := Kd.R_celln 0 HO_13.out (x80_4 : Int) p35 q35
                  replace p35 := eq_true p35
                  replace q35 := eq_true q35
                  have HP38 := Kd.R_putn HO_13.out (x80_4 : Int) (wrap64 ((rd x13_4 x80_4) + (rd t796 x80_4)))
                  rw [← Ny805.out] at HP38
                  have HQ38 := Aside0.mk HP38
                  clear HP38
                  refine start_ (n := 13) (S := fun w' => w'.cell? ⟨go35, (x80_4).toNat, none⟩ = some (.int .i64 (rd x13_4 x80_4)) ∧ w'.cell? (ad804.add (x80_4).toNat) = some (.int .i64 (rd t796 x80_4))) (ds := [12]) #[F, F, F, F, F, F, F, F, F, F, F, F, F] (by kernel_rfl) rfl rfl ⟨hx803_0, hx804_0⟩ (fun hHeld => ?_); refine Qa3 Qai.tab17 Qai.bits17 (fun HT_ HW_ => ?_)
                  generalize wr.drew = w36 at HO_13 HO_16 HB GG35 HQ38 hf35_0 hx35_0 hx803_0 hx804_0 hHeld ⊢
                  refine Zsp (i := 0) (N := some 83) (pm 13 1) HT_ ?_
                  refine Zsp (i := 1) (N := some 84) (pm 13 2) HT_ ?_
                  refine Zsp (i := 2) (N := some 85) (pm 13 3) HT_ ?_
                  refine Zsp (i := 3) (N := some 86) (pm 13 4) HT_ ?_
                  refine Zsp (i := 4) (N := some 87) (pm 13 5) HT_ ?_
                  refine Zsp (i := 6) (N := some 89) #[T, T, T, T, T, F, T, F, F, F, F, F, F] HT_ ?_
                  refine Zsp (i := 7) (N := some 90) #[T, T, T, T, T, F, T, T, F, F, F, F, F] HT_ ?_
                  refine Zsp (i := 8) (N := some 91) #[T, T, T, T, T, F, T, T, T, F, F, F, F] HT_ ?_
                  refine Zst (i := 5) (N := some 88) (pm 13 9) HT_ HW_ hHeld ?_ (hy := by (refine Or.inl ⟨by rfl, ?_⟩; rintro w' ⟨s0, s1⟩; go_simp; with_reducible rfl))
                  refine Zst (i := 9) (N := some 92) (pm 13 10) HT_ HW_ hHeld ?_ (hy := by (refine Or.inl ⟨by rfl, ?_⟩; rintro w' ⟨s0, s1⟩; go_simp; with_reducible rfl))
                  refine Zsp (i := 10) (N := some 93) (pm 13 11) HT_ ?_
                  refine Zsp (i := 11) (N := some 94) (pm 13 12) HT_ ?_
                  refine last_ (i := 12) (N := none) #[T, T, T, T, T, T, T, T, T, T, T, T, T] rfl rfl (one_of HT_.out (by kernel_rfl)) (by decide) (fun K hK => ?_)
                  refine skip_ (w1 := ?_) (by rfl) rfl ?_ ?_
                  rotate_left
                  ·go_simp
                   rfl
                  refine hK.out _ _ ?_
                  clear hK K
                  refine done_ (Qbc HT_.out (by kernel_rfl)) ?_
                  try go_wp2
                  go_roundg k4
                  case measure => have := HJ6.out; have := HK2.out; have := HJ21.out; have := HK4.out; omega
                  case rel => exact ⟨(y805), (wrap64 (x80_4 + 1)), (Zs), H', ⟨by have := HJ6.out; have := HK2.out; have := HJ21.out; have := HK4.out; omega⟩, ⟨by (with_reducible repeat (first | apply Kd.R_alloc | apply Kd.R_drewN | apply Kd.R_drew)); exact HQ38.out⟩, ⟨by (with_reducible repeat (first | apply Kd.R_alloc | apply Kd.R_drewN | apply Kd.R_drew)); exact Kd.R_mono (Kd.R_far (p := ⟨go35, (x80_4 : Int).toNat, none⟩) (Kd.R_mono HO_16.out (fun k_ hk => (⟨hk, fun e_ => hk (by rw [e_]; rfl)⟩ : _ ∧ k_ ≠ go35))) (fun _ hk => hk.2) (.int .i64 (wrap64 ((rd x13_4 x80_4) + (rd t796 x80_4))))) (fun _ hk => hk.1)⟩, ⟨by repeat (first | (with_reducible first | exact HB.out | apply Qac | apply Qab | apply Qad | refine Qam ?_ GB35.out) | exact HB.out)⟩⟩
                 rw [if_neg c34] at H
                 exact absurd H (by simp)
                rw [if_neg c33] at H
                exact absurd H (by simp)
               rw [if_neg c32] at H
               exact absurd H (by simp)
              rw [if_neg c31] at H
              have c31b0 : decide (x80_4 < (t796.length : Int)) = F := decide_eq_false c31
              clear c31
              (try simp only [c31b0])
              have H' := Aside0.mk H
              clear H
              go_wp2
              go_roundg k4
              case measure => have := HJ6.out; have := HK2.out; have := HJ21.out; have := HK4.out; omega
              case rel => exact ⟨(x13_4), ((wrap64 (x14_2 + t801))), (wrap64 (x39_2 + 1)), (Zs), (Zs), H', ⟨by have := HJ6.out; have := HK2.out; have := HJ21.out; have := HK4.out; omega⟩, ⟨by (with_reducible repeat (first | apply Kd.R_alloc | apply Kd.R_drewN | apply Kd.R_drew)); exact Kd.R_mono HO_13.out (fun _ hk => trivial)⟩, ⟨Zb⟩⟩
         rw [if_neg c19] at H
         exact absurd H (by simp)
        rw [if_neg c18] at H
        exact absurd H (by simp)
       rw [if_neg c17] at H
       have c17b0 : decide (x39_2 < (l0.length : Int)) = F := decide_eq_false c17
       clear c17
       (try simp only [c17b0])
       replace H := Option.bind_eq_some_iff.mp H
       obtain ⟨t794, A390, H⟩ := H
       replace H : (if t794 = T then (some (x14_2 == a4)) else (some F)) = some r := H
       have A39 := Aside0.mk A390
       clear A390
       by_cases c40 : t794 = T
       ·subst c40
        have H1 : (some (x14_2 == a4)) = some r := by rw [if_pos rfl] at H; exact H
        clear H
        have H := H1
        clear H1
        obtain rfl := Option.some.inj H
        obtain ⟨Ao41, co41, eo41⟩ := Kd.R_slice HO_13.out
        subst eo41
        go_wp2_with (first | ((with_reducible refine QaF (f := 77) rfl ?_); refine goesL_ (some 99) rfl rfl Try.func77 (by kernel_rfl) rfl #[.slice Ao41 x13_2.length co41, .slice A3 l3.length c3] rfl (Zl) ?_; (with_reducible refine (Qay.calls k2 _ _ x13_2 _ _ l3 T _ ?side1 ?side2 ?side3 ?side4 A39.out).mono ?_); (case side1 => exact Zv (Kd.R_reads' HO_13.out).2.2); (case side2 => exact (Kd.R_reads' HO_13.out).2.1); (case side3 => exact Zv (Kd.C_below HR3.out HB.out)); (case side4 => exact HC3.out); rintro e w' ⟨rfl, ⟨nd, rfl⟩⟩; refine ⟨_, rfl, ?_⟩))
        go_ret
        exact ⟨Zq, Zb⟩
       replace c40 := Bool.eq_false_iff.mpr c40
       subst c40
       have H1 : (some F) = some r := by rw [if_neg (show ¬ (F = T) by decide)] at H; exact H
       clear H
       have H := H1
       clear H1
       obtain rfl := Option.some.inj H
       obtain ⟨Ao42, co42, eo42⟩ := Kd.R_slice HO_13.out
       subst eo42
       go_wp2_with (first | ((with_reducible refine QaF (f := 77) rfl ?_); refine goesL_ (some 99) rfl rfl Try.func77 (by kernel_rfl) rfl #[.slice Ao42 x13_2.length co42, .slice A3 l3.length c3] rfl (Zl) ?_; (with_reducible refine (Qay.calls k2 _ _ x13_2 _ _ l3 F _ ?side1 ?side2 ?side3 ?side4 A39.out).mono ?_); (case side1 => exact Zv (Kd.R_reads' HO_13.out).2.2); (case side2 => exact (Kd.R_reads' HO_13.out).2.1); (case side3 => exact Zv (Kd.C_below HR3.out HB.out)); (case side4 => exact HC3.out); rintro e w' ⟨rfl, ⟨nd, rfl⟩⟩; refine ⟨_, rfl, ?_⟩))
       go_ret
       exact ⟨Zq, Zb⟩
    rw [if_neg c14] at H
    exact absurd H (by simp)
   rw [if_neg c13] at H
   exact absurd H (by simp)
mutual
def contangotop_TopLots.j0 : Nat → List (S71) → List (S128) → Int → List Int → Int → Int → Int → Bool → Option (Bool)
 | 0, _, _, _, _, _, _, _, _ => none
 | k + 1, x0, x1, x2, x7, x8, x9, x10, x46 => if x46 = T then (if x8 = x10 then ((Qaz.f k).bind fun t817 => (some t817)) else (none)) else ((lot_By.f k x0).bind fun bt818 => ((Qak.f k x0 (wrap64 (1 + (wrap64 (Int.tmod (IntKind.u64.wrap (x2)) 40))))).bind fun bt822 => ((QaC.f k x0 x1).bind fun bt826 => (if bt818.2 = 0 then (if bt822.2 = 0 then (if bt826.2.2 = 0 then (if (bt818.1.length : Int) = (bt826.1.length : Int) then (contangotop_TopLots.j1 k x0 x1 x7 x9 bt818.1 bt822.1 bt826.1 bt826.2.1 ((bt826.2.1.length : Int) != (bt826.1.length : Int))) else (contangotop_TopLots.j1 k x0 x1 x7 x9 bt818.1 bt822.1 bt826.1 bt826.2.1 T)) else (contangotop_TopLots.j1 k x0 x1 x7 x9 bt818.1 bt822.1 bt826.1 bt826.2.1 T)) else (contangotop_TopLots.j1 k x0 x1 x7 x9 bt818.1 bt822.1 bt826.1 bt826.2.1 T)) else (contangotop_TopLots.j1 k x0 x1 x7 x9 bt818.1 bt822.1 bt826.1 bt826.2.1 T)))))
def contangotop_TopLots.j1 : Nat → List (S71) → List (S128) → List Int → Int → List (S67) → List (S67) → List ByteArray → List Int → Bool → Option (Bool)
 | 0, _, _, _, _, _, _, _, _, _ => none
 | k + 1, x0, x1, x7, x9, x11, x13, x15, x16, x98 => if x98 = T then (none) else (contangotop_TopLots.l0 k x0 x1 x7 x9 x11 x13 x15 x16 0 (x11.length : Int) 0)
def contangotop_TopLots.l0 : Nat → List (S71) → List (S128) → List Int → Int → List (S67) → List (S67) → List ByteArray → List Int → Int → Int → Int → Option (Bool)
 | 0, _, _, _, _, _, _, _, _, _, _, _ => none
 | k + 1, x0, x1, x7, x9, x11, x13, x15, x16, x18, x100, x101 => if x101 < x100 then (if 0 ≤ x101 then (if x101 < (x11.length : Int) then ((Qaw.f k ((rd_T67 x11 x101).f1) x1).bind fun bt834 => (if bt834.2 = 0 then (if x101 < (x16.length : Int) then (if bt834.1 = (rd x16 x101) then (if (((rd_T67 x11 x101).f1).length : Int) = 0 then (none) else (if 0 < (((rd_T67 x11 x101).f1).length : Int) then (if x101 < (x15.length : Int) then (if ((rd_T71 ((rd_T67 x11 x101).f1) 0).f0.f0).toList = (rdOf ByteArray.empty x15 x101).toList then (contangotop_TopLots.l0 k x0 x1 x7 x9 x11 x13 x15 x16 (wrap64 (x18 + (rd x16 x101))) x100 (wrap64 (x101 + 1))) else (none)) else (none)) else (none))) else (none)) else (none)) else (none))) else (none)) else (none)) else (if x18 = x9 then ((Qai.f k x11 x0 x1 x7 x9).bind fun t842 => (if t842 = T then ((Qai.f k x13 x0 x1 x7 x9).bind fun t843 => (if t843 = T then ((Qaz.f k).bind fun t844 => (some t844)) else (none))) else (none))) else (none))
end
def contangotop_TopLots.f (k : Nat) (l0 : List (S71)) (l1 : List (S128)) (a2 : Int) : Option (Bool) := (Qax.f k l0 l1).bind fun t806 => (if t806 = T then ((Qao.f k l1).bind fun t808 => ((Qaq.f k l0 t808).bind fun bt811 => ((Qaw.f k l0 t808).bind fun bt815 => (if bt811.2 = 0 then (contangotop_TopLots.j0 k l0 t808 a2 bt811.1 bt811.2 bt815.1 bt815.2 (bt815.2 != 0)) else (contangotop_TopLots.j0 k l0 t808 a2 bt811.1 bt811.2 bt815.1 bt815.2 T))))) else ((Qaz.f k).bind fun t807 => (some t807)))
theorem contangotop_TopLots.mono_l : ∀ k, (∀ y0 y1 y2 y3 y4 y5 y6 y7, LeO (contangotop_TopLots.j0 k y0 y1 y2 y3 y4 y5 y6 y7) (contangotop_TopLots.j0 (k + 1) y0 y1 y2 y3 y4 y5 y6 y7)) ∧ (∀ y0 y1 y2 y3 y4 y5 y6 y7 y8, LeO (contangotop_TopLots.j1 k y0 y1 y2 y3 y4 y5 y6 y7 y8) (contangotop_TopLots.j1 (k + 1) y0 y1 y2 y3 y4 y5 y6 y7 y8)) ∧ (∀ y0 y1 y2 y3 y4 y5 y6 y7 y8 y9 y10, LeO (contangotop_TopLots.l0 k y0 y1 y2 y3 y4 y5 y6 y7 y8 y9 y10) (contangotop_TopLots.l0 (k + 1) y0 y1 y2 y3 y4 y5 y6 y7 y8 y9 y10))
 | 0 => ⟨fun _ _ _ _ _ _ _ _ r h => by simp [contangotop_TopLots.j0] at h, fun _ _ _ _ _ _ _ _ _ r h => by simp [contangotop_TopLots.j1] at h, fun _ _ _ _ _ _ _ _ _ _ _ r h => by simp [contangotop_TopLots.l0] at h⟩
 | k + 1 => by
  obtain ⟨ih0, ih1, ih2⟩ := contangotop_TopLots.mono_l k
  refine ⟨?_, ?_, ?_⟩
  ·intro y0 y1 y2 y3 y4 y5 y6 y7
   unfold contangotop_TopLots.j0
   exact ZM12 ih0 ih1 ih2 Qax.mono Qao.mono Qaz.mono Qai.mono QaC.mono lot_By.mono Qak.mono Qaw.mono Qaq.mono
  ·intro y0 y1 y2 y3 y4 y5 y6 y7 y8
   unfold contangotop_TopLots.j1
   exact ZM12 ih0 ih1 ih2 Qax.mono Qao.mono Qaz.mono Qai.mono QaC.mono lot_By.mono Qak.mono Qaw.mono Qaq.mono
  intro y0 y1 y2 y3 y4 y5 y6 y7 y8 y9 y10
  unfold contangotop_TopLots.l0
  exact ZM12 ih0 ih1 ih2 Qax.mono Qao.mono Qaz.mono Qai.mono QaC.mono lot_By.mono Qak.mono Qaw.mono Qaq.mono
theorem contangotop_TopLots.mono : ∀ a0 a1 a2 k, LeO (contangotop_TopLots.f k a0 a1 a2) (contangotop_TopLots.f (k + 1) a0 a1 a2) := by
 intro a0 a1 a2 k
 obtain ⟨ih0, ih1, ih2⟩ := contangotop_TopLots.mono_l k
 unfold contangotop_TopLots.f
 exact ZM12 ih0 ih1 ih2 Qax.mono Qao.mono Qaz.mono Qai.mono QaC.mono lot_By.mono Qak.mono Qaw.mono Qaq.mono
theorem contangotop_TopLots.calls (k : Nat) (A0 : Option Addr) (c0 : Nat) (l0 : List (S71)) (A1 : Option Addr) (c1 : Nat) (l1 : List (S128)) (a2 : Int) (r : Bool) (w : World) (hr0 : Kd.C k71 w A0 l0.length l0) (hc0 : l0.length ≤ c0) (hr1 : Kd.C k128 w A1 l1.length l1) (hc1 : l1.length ≤ c1) (h : contangotop_TopLots.f k l0 l1 a2 = some r) :
  Calls Try.prog 5 #[.slice A0 l0.length c0, .slice A1 l1.length c1, .int .i64 a2] w fun e w' => e = .returned (.bool r) ∧ Below w.heap.size w w' := by
 have HR0 := Aside0.mk hr0
 have HC0 := Aside0.mk hc0
 clear hr0 hc0
 have HR1 := Aside0.mk hr1
 have HC1 := Aside0.mk hc1
 clear hr1 hc1
 have HB := Aside0.mk (Below.refl w.heap.size w)
 have H : ((Qax.f k l0 l1).bind fun t806 => (if t806 = T then ((Qao.f k l1).bind fun t808 => ((Qaq.f k l0 t808).bind fun bt811 => ((Qaw.f k l0 t808).bind fun bt815 => (if bt811.2 = 0 then (contangotop_TopLots.j0 k l0 t808 a2 bt811.1 bt811.2 bt815.1 bt815.2 (bt815.2 != 0)) else (contangotop_TopLots.j0 k l0 t808 a2 bt811.1 bt811.2 bt815.1 bt815.2 T))))) else ((Qaz.f k).bind fun t807 => (some t807)))) = some r := h
 clear h
 replace H := Option.bind_eq_some_iff.mp H
 obtain ⟨t806, A40, H⟩ := H
 replace H : (if t806 = T then ((Qao.f k l1).bind fun t808 => ((Qaq.f k l0 t808).bind fun bt811 => ((Qaw.f k l0 t808).bind fun bt815 => (if bt811.2 = 0 then (contangotop_TopLots.j0 k l0 t808 a2 bt811.1 bt811.2 bt815.1 bt815.2 (bt815.2 != 0)) else (contangotop_TopLots.j0 k l0 t808 a2 bt811.1 bt811.2 bt815.1 bt815.2 T))))) else ((Qaz.f k).bind fun t807 => (some t807))) = some r := H
 have A4 := Aside0.mk A40
 clear A40
 go_enter Try.func5, Try.ntmps5
 go_upto_if 25 with (first | (go_at_call 21; (with_reducible refine (Qax.calls k _ _ l0 _ _ l1 t806 _ ?side1 ?side2 ?side3 ?side4 A4.out).mono ?_); (case side1 => exact Zv HR0.out); (case side2 => exact HC0.out); (case side3 => exact Zv HR1.out); (case side4 => exact HC1.out); rintro e w5 ⟨rfl, hb⟩; replace HB := Aside0.mk (Qav (Zb) hb); (try clear hb); (try clear hb2); (try clear hk); (try clear hi)))
 repeat (go_quiet (first | (go_at_call 21; (with_reducible refine (Qax.calls k _ _ l0 _ _ l1 t806 _ ?side1 ?side2 ?side3 ?side4 A4.out).mono ?_); (case side1 => exact Zv HR0.out); (case side2 => exact HC0.out); (case side3 => exact Zv HR1.out); (case side4 => exact HC1.out); rintro e w5 ⟨rfl, hb⟩; replace HB := Aside0.mk (Qav (Zb) hb); (try clear hb); (try clear hb2); (try clear hk); (try clear hi))); go_upto_if 25 with (first | (go_at_call 21; (with_reducible refine (Qax.calls k _ _ l0 _ _ l1 t806 _ ?side1 ?side2 ?side3 ?side4 A4.out).mono ?_); (case side1 => exact Zv HR0.out); (case side2 => exact HC0.out); (case side3 => exact Zv HR1.out); (case side4 => exact HC1.out); rintro e w5 ⟨rfl, hb⟩; replace HB := Aside0.mk (Qav (Zb) hb); (try clear hb); (try clear hb2); (try clear hk); (try clear hi))))
 (try simp only [Act.put, Zj, Zk, Zm])
 by_cases c6 : t806 = T
 ·subst c6
  have H1 : ((Qao.f k l1).bind fun t808 => ((Qaq.f k l0 t808).bind fun bt811 => ((Qaw.f k l0 t808).bind fun bt815 => (if bt811.2 = 0 then (contangotop_TopLots.j0 k l0 t808 a2 bt811.1 bt811.2 bt815.1 bt815.2 (bt815.2 != 0)) else (contangotop_TopLots.j0 k l0 t808 a2 bt811.1 bt811.2 bt815.1 bt815.2 T))))) = some r := by rw [if_pos rfl] at H; exact H
  clear H
  have H := H1
  clear H1
  replace H := Option.bind_eq_some_iff.mp H
  obtain ⟨t808, A70, H⟩ := H
  replace H : ((Qaq.f k l0 t808).bind fun bt811 => ((Qaw.f k l0 t808).bind fun bt815 => (if bt811.2 = 0 then (contangotop_TopLots.j0 k l0 t808 a2 bt811.1 bt811.2 bt815.1 bt815.2 (bt815.2 != 0)) else (contangotop_TopLots.j0 k l0 t808 a2 bt811.1 bt811.2 bt815.1 bt815.2 T)))) = some r := H
  have A7 := Aside0.mk A70
  clear A70
  replace H := Option.bind_eq_some_iff.mp H
  obtain ⟨⟨t811, t812⟩, A80, H⟩ := H
  replace H : ((Qaw.f k l0 t808).bind fun bt815 => (if t812 = 0 then (contangotop_TopLots.j0 k l0 t808 a2 t811 t812 bt815.1 bt815.2 (bt815.2 != 0)) else (contangotop_TopLots.j0 k l0 t808 a2 t811 t812 bt815.1 bt815.2 T))) = some r := H
  have A8 := Aside0.mk A80
  clear A80
  replace H := Option.bind_eq_some_iff.mp H
  obtain ⟨⟨t815, t816⟩, A90, H⟩ := H
  replace H : (if t812 = 0 then (contangotop_TopLots.j0 k l0 t808 a2 t811 t812 t815 t816 (t816 != 0)) else (contangotop_TopLots.j0 k l0 t808 a2 t811 t812 t815 t816 T)) = some r := H
  have A9 := Aside0.mk A90
  clear A90
  have HC10 := Aside0.mk H
  clear H
  go_upto_region 6 with (first | (go_at_call 23; (with_reducible refine (Qao.calls k (fun k_ => k_ < w.heap.size) _ _ l1 t808 _ ?side1 A7.out).mono ?_); (case side1 => exact Kd.V_mk HC1.out (Kd.F_below (Kd.C_F Qbn HR1.out) (Zb))); rintro e w11 ⟨v809, rfl, ho0, hb⟩; have HO810 := Aside0.mk (Kd.N_lower (Kd.N_mono (ok' := fun k_ => True) ho0 (fun k_ hk_ => trivial)) (Qau (Zb))); replace HB := Aside0.mk (Qav (Zb) hb); (try clear hb); (try clear hb2); (try clear hk); (try clear hi); (try clear ho0); obtain ⟨Ao12, co12, eo12⟩ := Kd.N_slice HO810.out; subst eo12) | (go_at_call 24; (with_reducible refine (Qaq.calls k _ _ l0 _ _ t808 t811 t812 _ ?side1 ?side2 ?side3 ?side4 A8.out).mono ?_); (case side1 => exact Zv (Kd.C_below HR0.out HB.out)); (case side2 => exact HC0.out); (case side3 => exact Zv (Kd.N_reads' HO810.out).2.2); (case side4 => exact (Kd.N_reads' HO810.out).2.1); rintro e w13 ⟨v813, rfl, ho0, hb⟩; have HO814 := Aside0.mk (Kd.R_lower ho0 (Qau (Zb))); replace HO810 := Aside0.mk (Kd.N_elder' (by (with_reducible repeat (first | apply Kd.N_alloc | apply Kd.N_drewN | apply Kd.N_drew)); exact HO810.out) (Kd.R_base ho0) hb); replace HB := Aside0.mk (Qav (Zb) hb); (try clear hb); (try clear hb2); (try clear hk); (try clear hi); (try clear ho0)) | (go_at_call 16; (with_reducible refine (Qaw.calls k _ _ l0 _ _ t808 t815 t816 _ ?side1 ?side2 ?side3 ?side4 A9.out).mono ?_); (case side1 => exact Zv (Kd.C_below HR0.out HB.out)); (case side2 => exact HC0.out); (case side3 => exact Zv (Kd.N_reads' HO810.out).2.2); (case side4 => exact (Kd.N_reads' HO810.out).2.1); rintro e w14 ⟨rfl, hb⟩; replace HO810 := Aside0.mk (Kd.N_below (by (with_reducible repeat (first | apply Kd.N_alloc | apply Kd.N_drewN | apply Kd.N_drew)); exact HO810.out) hb); replace HO814 := Aside0.mk (Kd.R_below (Zr HO814.out) hb); replace HB := Aside0.mk (Qav (Zb) hb); (try clear hb); (try clear hb2); (try clear hk); (try clear hi)))
  repeat (go_quiet (first | (go_at_call 23; (with_reducible refine (Qao.calls k (fun k_ => k_ < w.heap.size) _ _ l1 t808 _ ?side1 A7.out).mono ?_); (case side1 => exact Kd.V_mk HC1.out (Kd.F_below (Kd.C_F Qbn HR1.out) (Zb))); rintro e w11 ⟨v809, rfl, ho0, hb⟩; have HO810 := Aside0.mk (Kd.N_lower (Kd.N_mono (ok' := fun k_ => True) ho0 (fun k_ hk_ => trivial)) (Qau (Zb))); replace HB := Aside0.mk (Qav (Zb) hb); (try clear hb); (try clear hb2); (try clear hk); (try clear hi); (try clear ho0); obtain ⟨Ao12, co12, eo12⟩ := Kd.N_slice HO810.out; subst eo12) | (go_at_call 24; (with_reducible refine (Qaq.calls k _ _ l0 _ _ t808 t811 t812 _ ?side1 ?side2 ?side3 ?side4 A8.out).mono ?_); (case side1 => exact Zv (Kd.C_below HR0.out HB.out)); (case side2 => exact HC0.out); (case side3 => exact Zv (Kd.N_reads' HO810.out).2.2); (case side4 => exact (Kd.N_reads' HO810.out).2.1); rintro e w13 ⟨v813, rfl, ho0, hb⟩; have HO814 := Aside0.mk (Kd.R_lower ho0 (Qau (Zb))); replace HO810 := Aside0.mk (Kd.N_elder' (by (with_reducible repeat (first | apply Kd.N_alloc | apply Kd.N_drewN | apply Kd.N_drew)); exact HO810.out) (Kd.R_base ho0) hb); replace HB := Aside0.mk (Qav (Zb) hb); (try clear hb); (try clear hb2); (try clear hk); (try clear hi); (try clear ho0)) | (go_at_call 16; (with_reducible refine (Qaw.calls k _ _ l0 _ _ t808 t815 t816 _ ?side1 ?side2 ?side3 ?side4 A9.out).mono ?_); (case side1 => exact Zv (Kd.C_below HR0.out HB.out)); (case side2 => exact HC0.out); (case side3 => exact Zv (Kd.N_reads' HO810.out).2.2); (case side4 => exact (Kd.N_reads' HO810.out).2.1); rintro e w14 ⟨rfl, hb⟩; replace HO810 := Aside0.mk (Kd.N_below (by (with_reducible repeat (first | apply Kd.N_alloc | apply Kd.N_drewN | apply Kd.N_drew)); exact HO810.out) hb); replace HO814 := Aside0.mk (Kd.R_below (Zr HO814.out) hb); replace HB := Aside0.mk (Qav (Zb) hb); (try clear hb); (try clear hb2); (try clear hk); (try clear hi))); go_upto_region 6 with (first | (go_at_call 23; (with_reducible refine (Qao.calls k (fun k_ => k_ < w.heap.size) _ _ l1 t808 _ ?side1 A7.out).mono ?_); (case side1 => exact Kd.V_mk HC1.out (Kd.F_below (Kd.C_F Qbn HR1.out) (Zb))); rintro e w11 ⟨v809, rfl, ho0, hb⟩; have HO810 := Aside0.mk (Kd.N_lower (Kd.N_mono (ok' := fun k_ => True) ho0 (fun k_ hk_ => trivial)) (Qau (Zb))); replace HB := Aside0.mk (Qav (Zb) hb); (try clear hb); (try clear hb2); (try clear hk); (try clear hi); (try clear ho0); obtain ⟨Ao12, co12, eo12⟩ := Kd.N_slice HO810.out; subst eo12) | (go_at_call 24; (with_reducible refine (Qaq.calls k _ _ l0 _ _ t808 t811 t812 _ ?side1 ?side2 ?side3 ?side4 A8.out).mono ?_); (case side1 => exact Zv (Kd.C_below HR0.out HB.out)); (case side2 => exact HC0.out); (case side3 => exact Zv (Kd.N_reads' HO810.out).2.2); (case side4 => exact (Kd.N_reads' HO810.out).2.1); rintro e w13 ⟨v813, rfl, ho0, hb⟩; have HO814 := Aside0.mk (Kd.R_lower ho0 (Qau (Zb))); replace HO810 := Aside0.mk (Kd.N_elder' (by (with_reducible repeat (first | apply Kd.N_alloc | apply Kd.N_drewN | apply Kd.N_drew)); exact HO810.out) (Kd.R_base ho0) hb); replace HB := Aside0.mk (Qav (Zb) hb); (try clear hb); (try clear hb2); (try clear hk); (try clear hi); (try clear ho0)) | (go_at_call 16; (with_reducible refine (Qaw.calls k _ _ l0 _ _ t808 t815 t816 _ ?side1 ?side2 ?side3 ?side4 A9.out).mono ?_); (case side1 => exact Zv (Kd.C_below HR0.out HB.out)); (case side2 => exact HC0.out); (case side3 => exact Zv (Kd.N_reads' HO810.out).2.2); (case side4 => exact (Kd.N_reads' HO810.out).2.1); rintro e w14 ⟨rfl, hb⟩; replace HO810 := Aside0.mk (Kd.N_below (by (with_reducible repeat (first | apply Kd.N_alloc | apply Kd.N_drewN | apply Kd.N_drew)); exact HO810.out) hb); replace HO814 := Aside0.mk (Kd.R_below (Zr HO814.out) hb); replace HB := Aside0.mk (Qav (Zb) hb); (try clear hb); (try clear hb2); (try clear hk); (try clear hi))))
  (try simp only [Act.put, Zj, Zk, Zm])
  go_cut [46] (fun v46 wc => ∃ (kq : Nat) (x46_9 : Bool), v46 = .bool x46_9 ∧ Aside0 (contangotop_TopLots.j0 kq l0 t808 a2 t811 t812 t815 t816 x46_9 = some r) ∧ Aside0 (kq ≤ k) ∧ Aside0 (Kd.N k128 128 wc w.heap.size (fun k_ => some k_ ≠ (v813 : Value).ownBlock) (.slice Ao12 t808.length co12) t808) ∧ Aside0 (Kd.R (Kd.int .i64) 3 wc w.heap.size (fun _ => True) v813 t811) ∧ Aside0 (Below w.heap.size w wc))
  case first =>
   have H := HC10.out
   clear HC10
   by_cases c15 : t812 = 0
   ·rw [if_pos c15] at H
    have c15b0 : (t812 == 0) = T := beq_iff_eq.mpr c15
    have c15b1 : (t812 != 0) = F := bne_eq_false_iff_eq.mpr c15
    clear c15
    have H' := Aside0.mk H
    clear H
    go_wp2
    repeat (go_quiet (fail); try go_wp2)
    go_meet
    case rel => exact ⟨_, ((t816 != 0)), (Zs), H', ⟨by first | omega | exact Nat.le_refl _⟩, ⟨by (with_reducible repeat (first | apply Kd.N_alloc | apply Kd.N_drewN | apply Kd.N_drew)); exact Kd.N_mono HO810.out (fun _ hk => hk.2)⟩, ⟨Zr HO814.out⟩, ⟨Zb⟩⟩
   rw [if_neg c15] at H
   have c15b0 : (t812 == 0) = F := beq_eq_false_iff_ne.mpr c15
   have c15b1 : (t812 != 0) = T := bne_iff_ne.mpr c15
   have H' := Aside0.mk H
   clear H
   go_wp2
   repeat (go_quiet (fail); try go_wp2)
   go_meet
   case rel => exact ⟨_, (T), (Zs), H', ⟨by first | omega | exact Nat.le_refl _⟩, ⟨by (with_reducible repeat (first | apply Kd.N_alloc | apply Kd.N_drewN | apply Kd.N_drew)); exact Kd.N_mono HO810.out (fun _ hk => hk.2)⟩, ⟨Zr HO814.out⟩, ⟨Zb⟩⟩
  case rest =>
   clear HC10
   try clear c1
   try clear p2
   try clear c5
   try clear c6
   try clear c15
   try clear c15b0
   try clear c15b1
   obtain ⟨kq, x46_9, rfl, HA, HJ9, HO_1, HO_7, HB⟩ := hcut
   cases kq with
   | zero => exact absurd HA.out (by simp [contangotop_TopLots.j0])
   | succ kj9 =>
    have H := HA.out
    clear HA
    simp only [contangotop_TopLots.j0] at H
    by_cases c16 : x46_9 = T
    ·subst c16
     have H1 : (if t812 = t816 then ((Qaz.f kj9).bind fun t817 => (some t817)) else (none)) = some r := by rw [if_pos rfl] at H; exact H
     clear H
     have H := H1
     clear H1
     by_cases c17 : t812 = t816
     ·rw [if_pos c17] at H
      have c17b0 : (t812 == t816) = T := beq_iff_eq.mpr c17
      have c17b1 : (t812 != t816) = F := bne_eq_false_iff_eq.mpr c17
      clear c17
      replace H := Option.bind_eq_some_iff.mp H
      obtain ⟨t817, A180, H⟩ := H
      replace H : (some t817) = some r := H
      have A18 := Aside0.mk A180
      clear A180
      obtain rfl := Option.some.inj H
      go_wp2_with (first | (go_at_call 22; (with_reducible refine (Qaz.calls kj9  t817 _ A18.out).mono ?_); rintro e w19 ⟨rfl, hb⟩; replace HO_1 := Aside0.mk (Kd.N_below (by (with_reducible repeat (first | apply Kd.N_alloc | apply Kd.N_drewN | apply Kd.N_drew)); exact HO_1.out) hb); replace HO_7 := Aside0.mk (Kd.R_below (Zr HO_7.out) hb); replace HB := Aside0.mk (Qav (Zb) hb); (try clear hb); (try clear hb2); (try clear hk); (try clear hi)))
      repeat (go_quiet (first | (go_at_call 22; (with_reducible refine (Qaz.calls kj9  t817 _ A18.out).mono ?_); rintro e w19 ⟨rfl, hb⟩; replace HO_1 := Aside0.mk (Kd.N_below (by (with_reducible repeat (first | apply Kd.N_alloc | apply Kd.N_drewN | apply Kd.N_drew)); exact HO_1.out) hb); replace HO_7 := Aside0.mk (Kd.R_below (Zr HO_7.out) hb); replace HB := Aside0.mk (Qav (Zb) hb); (try clear hb); (try clear hb2); (try clear hk); (try clear hi))); try go_wp2_with (first | (go_at_call 22; (with_reducible refine (Qaz.calls kj9  t817 _ A18.out).mono ?_); rintro e w19 ⟨rfl, hb⟩; replace HO_1 := Aside0.mk (Kd.N_below (by (with_reducible repeat (first | apply Kd.N_alloc | apply Kd.N_drewN | apply Kd.N_drew)); exact HO_1.out) hb); replace HO_7 := Aside0.mk (Kd.R_below (Zr HO_7.out) hb); replace HB := Aside0.mk (Qav (Zb) hb); (try clear hb); (try clear hb2); (try clear hk); (try clear hi))))
      go_ret
      exact ⟨Zq, Zb⟩
     rw [if_neg c17] at H
     exact absurd H (by simp)
    replace c16 := Bool.eq_false_iff.mpr c16
    subst c16
    have H1 : ((lot_By.f kj9 l0).bind fun bt818 => ((Qak.f kj9 l0 (wrap64 (1 + (wrap64 (Int.tmod (IntKind.u64.wrap (a2)) 40))))).bind fun bt822 => ((QaC.f kj9 l0 t808).bind fun bt826 => (if bt818.2 = 0 then (if bt822.2 = 0 then (if bt826.2.2 = 0 then (if (bt818.1.length : Int) = (bt826.1.length : Int) then (contangotop_TopLots.j1 kj9 l0 t808 t811 t815 bt818.1 bt822.1 bt826.1 bt826.2.1 ((bt826.2.1.length : Int) != (bt826.1.length : Int))) else (contangotop_TopLots.j1 kj9 l0 t808 t811 t815 bt818.1 bt822.1 bt826.1 bt826.2.1 T)) else (contangotop_TopLots.j1 kj9 l0 t808 t811 t815 bt818.1 bt822.1 bt826.1 bt826.2.1 T)) else (contangotop_TopLots.j1 kj9 l0 t808 t811 t815 bt818.1 bt822.1 bt826.1 bt826.2.1 T)) else (contangotop_TopLots.j1 kj9 l0 t808 t811 t815 bt818.1 bt822.1 bt826.1 bt826.2.1 T))))) = some r := by rw [if_neg (show ¬ (F = T) by decide)] at H; exact H
    clear H
    have H := H1
    clear H1
    replace H := Option.bind_eq_some_iff.mp H
    obtain ⟨⟨t818, t819⟩, A200, H⟩ := H
    replace H : ((Qak.f kj9 l0 (wrap64 (1 + (wrap64 (Int.tmod (IntKind.u64.wrap (a2)) 40))))).bind fun bt822 => ((QaC.f kj9 l0 t808).bind fun bt826 => (if t819 = 0 then (if bt822.2 = 0 then (if bt826.2.2 = 0 then (if (t818.length : Int) = (bt826.1.length : Int) then (contangotop_TopLots.j1 kj9 l0 t808 t811 t815 t818 bt822.1 bt826.1 bt826.2.1 ((bt826.2.1.length : Int) != (bt826.1.length : Int))) else (contangotop_TopLots.j1 kj9 l0 t808 t811 t815 t818 bt822.1 bt826.1 bt826.2.1 T)) else (contangotop_TopLots.j1 kj9 l0 t808 t811 t815 t818 bt822.1 bt826.1 bt826.2.1 T)) else (contangotop_TopLots.j1 kj9 l0 t808 t811 t815 t818 bt822.1 bt826.1 bt826.2.1 T)) else (contangotop_TopLots.j1 kj9 l0 t808 t811 t815 t818 bt822.1 bt826.1 bt826.2.1 T)))) = some r := H
    have A20 := Aside0.mk A200
    clear A200
    replace H := Option.bind_eq_some_iff.mp H
    obtain ⟨⟨t822, t823⟩, A210, H⟩ := H
    replace H : ((QaC.f kj9 l0 t808).bind fun bt826 => (if t819 = 0 then (if t823 = 0 then (if bt826.2.2 = 0 then (if (t818.length : Int) = (bt826.1.length : Int) then (contangotop_TopLots.j1 kj9 l0 t808 t811 t815 t818 t822 bt826.1 bt826.2.1 ((bt826.2.1.length : Int) != (bt826.1.length : Int))) else (contangotop_TopLots.j1 kj9 l0 t808 t811 t815 t818 t822 bt826.1 bt826.2.1 T)) else (contangotop_TopLots.j1 kj9 l0 t808 t811 t815 t818 t822 bt826.1 bt826.2.1 T)) else (contangotop_TopLots.j1 kj9 l0 t808 t811 t815 t818 t822 bt826.1 bt826.2.1 T)) else (contangotop_TopLots.j1 kj9 l0 t808 t811 t815 t818 t822 bt826.1 bt826.2.1 T))) = some r := H
    have A21 := Aside0.mk A210
    clear A210
    replace H := Option.bind_eq_some_iff.mp H
    obtain ⟨⟨t826, t827, t828⟩, A220, H⟩ := H
    replace H : (if t819 = 0 then (if t823 = 0 then (if t828 = 0 then (if (t818.length : Int) = (t826.length : Int) then (contangotop_TopLots.j1 kj9 l0 t808 t811 t815 t818 t822 t826 t827 ((t827.length : Int) != (t826.length : Int))) else (contangotop_TopLots.j1 kj9 l0 t808 t811 t815 t818 t822 t826 t827 T)) else (contangotop_TopLots.j1 kj9 l0 t808 t811 t815 t818 t822 t826 t827 T)) else (contangotop_TopLots.j1 kj9 l0 t808 t811 t815 t818 t822 t826 t827 T)) else (contangotop_TopLots.j1 kj9 l0 t808 t811 t815 t818 t822 t826 t827 T)) = some r := H
    have A22 := Aside0.mk A220
    clear A220
    have HC23 := Aside0.mk H
    clear H
    go_upto_region 11 with (first | (go_at_call 25; (with_reducible refine (lot_By.calls kj9 _ _ l0 t818 t819 _ ?side1 ?side2 A20.out).mono ?_); (case side1 => exact Zv (Kd.C_below HR0.out HB.out)); (case side2 => exact HC0.out); rintro e w24 ⟨v820, rfl, ho0, hb⟩; have HO821 := Aside0.mk (Kd.N_lower (Kd.N_mono (ok' := fun k_ => some k_ ≠ (.slice Ao12 t808.length co12 : Value).ownBlock ∧ some k_ ≠ (v813 : Value).ownBlock) (Kd.S_N (Kd.S_bound ho0)) (fun k_ hk_ => ⟨(Kd.fresh' (Kd.N_lt (by (with_reducible repeat (first | apply Kd.N_alloc | apply Kd.N_drewN | apply Kd.N_drew)); exact HO_1.out)) k_ hk_.2.1), (Kd.fresh' (Kd.R_lt (Zr HO_7.out)) k_ hk_.2.1)⟩)) (Qau (Zb))); replace HO_1 := Aside0.mk (Kd.N_elder' (by (with_reducible repeat (first | apply Kd.N_alloc | apply Kd.N_drewN | apply Kd.N_drew)); exact HO_1.out) (Kd.S_base ho0) hb); replace HO_7 := Aside0.mk (Kd.R_below (Zr HO_7.out) hb); replace HB := Aside0.mk (Qav (Zb) hb); (try clear hb); (try clear hb2); (try clear hk); (try clear hi); (try clear ho0)) | (go_at_call 26; (with_reducible refine (Qak.calls kj9 _ _ l0 (wrap64 (1 + (wrap64 (Int.tmod (IntKind.u64.wrap (a2)) 40)))) t822 t823 _ ?side1 ?side2 A21.out).mono ?_); (case side1 => exact Zv (Kd.C_below HR0.out HB.out)); (case side2 => exact HC0.out); rintro e w25 ⟨v824, rfl, ho0, hb⟩; have HO825 := Aside0.mk (Kd.N_lower (Kd.N_mono (ok' := fun k_ => some k_ ≠ (.slice Ao12 t808.length co12 : Value).ownBlock ∧ some k_ ≠ (v813 : Value).ownBlock ∧ some k_ ≠ (v820 : Value).ownBlock) (Kd.S_N (Kd.S_bound ho0)) (fun k_ hk_ => ⟨(Kd.fresh' (Kd.N_lt (by (with_reducible repeat (first | apply Kd.N_alloc | apply Kd.N_drewN | apply Kd.N_drew)); exact HO_1.out)) k_ hk_.2.1), (Kd.fresh' (Kd.R_lt (Zr HO_7.out)) k_ hk_.2.1), (Kd.fresh' (Kd.N_lt (by (with_reducible repeat (first | apply Kd.N_alloc | apply Kd.N_drewN | apply Kd.N_drew)); exact HO821.out)) k_ hk_.2.1)⟩)) (Qau (Zb))); replace HO_1 := Aside0.mk (Kd.N_elder' (by (with_reducible repeat (first | apply Kd.N_alloc | apply Kd.N_drewN | apply Kd.N_drew)); exact HO_1.out) (Kd.S_base ho0) hb); replace HO_7 := Aside0.mk (Kd.R_below (Zr HO_7.out) hb); replace HO821 := Aside0.mk (Kd.N_elder' (by (with_reducible repeat (first | apply Kd.N_alloc | apply Kd.N_drewN | apply Kd.N_drew)); exact HO821.out) (Kd.S_base ho0) hb); replace HB := Aside0.mk (Qav (Zb) hb); (try clear hb); (try clear hb2); (try clear hk); (try clear hi); (try clear ho0)) | (go_at_call 27; (with_reducible refine (QaC.calls kj9 _ _ l0 _ _ t808 t826 t827 t828 _ ?side1 ?side2 ?side3 ?side4 A22.out).mono ?_); (case side1 => exact Zv (Kd.C_below HR0.out HB.out)); (case side2 => exact HC0.out); (case side3 => exact Zv (Kd.N_reads' HO_1.out).2.2); (case side4 => exact (Kd.N_reads' HO_1.out).2.1); rintro e w26 ⟨v829, v831, rfl, ho0, ho1, hb⟩; have HO830 := Aside0.mk (Kd.R_lower ho0 (Qau (Zb))); have HO832 := Aside0.mk (Kd.R_lower (Kd.R_new' ho1 (Kd.R_lt (Zr HO_7.out))) (Qau (Zb))); replace HO_1 := Aside0.mk (Kd.N_mono (Kd.N_told (Kd.N_told (Kd.N_old (by (with_reducible repeat (first | apply Kd.N_alloc | apply Kd.N_drewN | apply Kd.N_drew)); exact HO_1.out) hb) (Kd.R_base ho0)) (Kd.R_base ho1)) (fun _ h_ => h_.1)); replace HO_7 := Aside0.mk (Kd.R_elder' (Zr HO_7.out) (Kd.R_base ho1) hb); replace HO821 := Aside0.mk (Kd.N_mono (Kd.N_told (Kd.N_told (Kd.N_old (by (with_reducible repeat (first | apply Kd.N_alloc | apply Kd.N_drewN | apply Kd.N_drew)); exact HO821.out) hb) (Kd.R_base ho0)) (Kd.R_base ho1)) (fun _ h_ => h_.1)); replace HO825 := Aside0.mk (Kd.N_mono (Kd.N_told (Kd.N_told (Kd.N_old (by (with_reducible repeat (first | apply Kd.N_alloc | apply Kd.N_drewN | apply Kd.N_drew)); exact HO825.out) hb) (Kd.R_base ho0)) (Kd.R_base ho1)) (fun _ h_ => h_.1)); replace HB := Aside0.mk (Qav (Zb) hb); (try clear hb); (try clear hb2); (try clear hk); (try clear hi); (try clear ho0); (try clear ho1)))
    repeat (go_quiet (first | (go_at_call 25; (with_reducible refine (lot_By.calls kj9 _ _ l0 t818 t819 _ ?side1 ?side2 A20.out).mono ?_); (case side1 => exact Zv (Kd.C_below HR0.out HB.out)); (case side2 => exact HC0.out); rintro e w24 ⟨v820, rfl, ho0, hb⟩; have HO821 := Aside0.mk (Kd.N_lower (Kd.N_mono (ok' := fun k_ => some k_ ≠ (.slice Ao12 t808.length co12 : Value).ownBlock ∧ some k_ ≠ (v813 : Value).ownBlock) (Kd.S_N (Kd.S_bound ho0)) (fun k_ hk_ => ⟨(Kd.fresh' (Kd.N_lt (by (with_reducible repeat (first | apply Kd.N_alloc | apply Kd.N_drewN | apply Kd.N_drew)); exact HO_1.out)) k_ hk_.2.1), (Kd.fresh' (Kd.R_lt (Zr HO_7.out)) k_ hk_.2.1)⟩)) (Qau (Zb))); replace HO_1 := Aside0.mk (Kd.N_elder' (by (with_reducible repeat (first | apply Kd.N_alloc | apply Kd.N_drewN | apply Kd.N_drew)); exact HO_1.out) (Kd.S_base ho0) hb); replace HO_7 := Aside0.mk (Kd.R_below (Zr HO_7.out) hb); replace HB := Aside0.mk (Qav (Zb) hb); (try clear hb); (try clear hb2); (try clear hk); (try clear hi); (try clear ho0)) | (go_at_call 26; (with_reducible refine (Qak.calls kj9 _ _ l0 (wrap64 (1 + (wrap64 (Int.tmod (IntKind.u64.wrap (a2)) 40)))) t822 t823 _ ?side1 ?side2 A21.out).mono ?_); (case side1 => exact Zv (Kd.C_below HR0.out HB.out)); (case side2 => exact HC0.out); rintro e w25 ⟨v824, rfl, ho0, hb⟩; have HO825 := Aside0.mk (Kd.N_lower (Kd.N_mono (ok' := fun k_ => some k_ ≠ (.slice Ao12 t808.length co12 : Value).ownBlock ∧ some k_ ≠ (v813 : Value).ownBlock ∧ some k_ ≠ (v820 : Value).ownBlock) (Kd.S_N (Kd.S_bound ho0)) (fun k_ hk_ => ⟨(Kd.fresh' (Kd.N_lt (by (with_reducible repeat (first | apply Kd.N_alloc | apply Kd.N_drewN | apply Kd.N_drew)); exact HO_1.out)) k_ hk_.2.1), (Kd.fresh' (Kd.R_lt (Zr HO_7.out)) k_ hk_.2.1), (Kd.fresh' (Kd.N_lt (by (with_reducible repeat (first | apply Kd.N_alloc | apply Kd.N_drewN | apply Kd.N_drew)); exact HO821.out)) k_ hk_.2.1)⟩)) (Qau (Zb))); replace HO_1 := Aside0.mk (Kd.N_elder' (by (with_reducible repeat (first | apply Kd.N_alloc | apply Kd.N_drewN | apply Kd.N_drew)); exact HO_1.out) (Kd.S_base ho0) hb); replace HO_7 := Aside0.mk (Kd.R_below (Zr HO_7.out) hb); replace HO821 := Aside0.mk (Kd.N_elder' (by (with_reducible repeat (first | apply Kd.N_alloc | apply Kd.N_drewN | apply Kd.N_drew)); exact HO821.out) (Kd.S_base ho0) hb); replace HB := Aside0.mk (Qav (Zb) hb); (try clear hb); (try clear hb2); (try clear hk); (try clear hi); (try clear ho0)) | (go_at_call 27; (with_reducible refine (QaC.calls kj9 _ _ l0 _ _ t808 t826 t827 t828 _ ?side1 ?side2 ?side3 ?side4 A22.out).mono ?_); (case side1 => exact Zv (Kd.C_below HR0.out HB.out)); (case side2 => exact HC0.out); (case side3 => exact Zv (Kd.N_reads' HO_1.out).2.2); (case side4 => exact (Kd.N_reads' HO_1.out).2.1); rintro e w26 ⟨v829, v831, rfl, ho0, ho1, hb⟩; have HO830 := Aside0.mk (Kd.R_lower ho0 (Qau (Zb))); have HO832 := Aside0.mk (Kd.R_lower (Kd.R_new' ho1 (Kd.R_lt (Zr HO_7.out))) (Qau (Zb))); replace HO_1 := Aside0.mk (Kd.N_mono (Kd.N_told (Kd.N_told (Kd.N_old (by (with_reducible repeat (first | apply Kd.N_alloc | apply Kd.N_drewN | apply Kd.N_drew)); exact HO_1.out) hb) (Kd.R_base ho0)) (Kd.R_base ho1)) (fun _ h_ => h_.1)); replace HO_7 := Aside0.mk (Kd.R_elder' (Zr HO_7.out) (Kd.R_base ho1) hb); replace HO821 := Aside0.mk (Kd.N_mono (Kd.N_told (Kd.N_told (Kd.N_old (by (with_reducible repeat (first | apply Kd.N_alloc | apply Kd.N_drewN | apply Kd.N_drew)); exact HO821.out) hb) (Kd.R_base ho0)) (Kd.R_base ho1)) (fun _ h_ => h_.1)); replace HO825 := Aside0.mk (Kd.N_mono (Kd.N_told (Kd.N_told (Kd.N_old (by (with_reducible repeat (first | apply Kd.N_alloc | apply Kd.N_drewN | apply Kd.N_drew)); exact HO825.out) hb) (Kd.R_base ho0)) (Kd.R_base ho1)) (fun _ h_ => h_.1)); replace HB := Aside0.mk (Qav (Zb) hb); (try clear hb); (try clear hb2); (try clear hk); (try clear hi); (try clear ho0); (try clear ho1))); go_upto_region 11 with (first | (go_at_call 25; (with_reducible refine (lot_By.calls kj9 _ _ l0 t818 t819 _ ?side1 ?side2 A20.out).mono ?_); (case side1 => exact Zv (Kd.C_below HR0.out HB.out)); (case side2 => exact HC0.out); rintro e w24 ⟨v820, rfl, ho0, hb⟩; have HO821 := Aside0.mk (Kd.N_lower (Kd.N_mono (ok' := fun k_ => some k_ ≠ (.slice Ao12 t808.length co12 : Value).ownBlock ∧ some k_ ≠ (v813 : Value).ownBlock) (Kd.S_N (Kd.S_bound ho0)) (fun k_ hk_ => ⟨(Kd.fresh' (Kd.N_lt (by (with_reducible repeat (first | apply Kd.N_alloc | apply Kd.N_drewN | apply Kd.N_drew)); exact HO_1.out)) k_ hk_.2.1), (Kd.fresh' (Kd.R_lt (Zr HO_7.out)) k_ hk_.2.1)⟩)) (Qau (Zb))); replace HO_1 := Aside0.mk (Kd.N_elder' (by (with_reducible repeat (first | apply Kd.N_alloc | apply Kd.N_drewN | apply Kd.N_drew)); exact HO_1.out) (Kd.S_base ho0) hb); replace HO_7 := Aside0.mk (Kd.R_below (Zr HO_7.out) hb); replace HB := Aside0.mk (Qav (Zb) hb); (try clear hb); (try clear hb2); (try clear hk); (try clear hi); (try clear ho0)) | (go_at_call 26; (with_reducible refine (Qak.calls kj9 _ _ l0 (wrap64 (1 + (wrap64 (Int.tmod (IntKind.u64.wrap (a2)) 40)))) t822 t823 _ ?side1 ?side2 A21.out).mono ?_); (case side1 => exact Zv (Kd.C_below HR0.out HB.out)); (case side2 => exact HC0.out); rintro e w25 ⟨v824, rfl, ho0, hb⟩; have HO825 := Aside0.mk (Kd.N_lower (Kd.N_mono (ok' := fun k_ => some k_ ≠ (.slice Ao12 t808.length co12 : Value).ownBlock ∧ some k_ ≠ (v813 : Value).ownBlock ∧ some k_ ≠ (v820 : Value).ownBlock) (Kd.S_N (Kd.S_bound ho0)) (fun k_ hk_ => ⟨(Kd.fresh' (Kd.N_lt (by (with_reducible repeat (first | apply Kd.N_alloc | apply Kd.N_drewN | apply Kd.N_drew)); exact HO_1.out)) k_ hk_.2.1), (Kd.fresh' (Kd.R_lt (Zr HO_7.out)) k_ hk_.2.1), (Kd.fresh' (Kd.N_lt (by (with_reducible repeat (first | apply Kd.N_alloc | apply Kd.N_drewN | apply Kd.N_drew)); exact HO821.out)) k_ hk_.2.1)⟩)) (Qau (Zb))); replace HO_1 := Aside0.mk (Kd.N_elder' (by (with_reducible repeat (first | apply Kd.N_alloc | apply Kd.N_drewN | apply Kd.N_drew)); exact HO_1.out) (Kd.S_base ho0) hb); replace HO_7 := Aside0.mk (Kd.R_below (Zr HO_7.out) hb); replace HO821 := Aside0.mk (Kd.N_elder' (by (with_reducible repeat (first | apply Kd.N_alloc | apply Kd.N_drewN | apply Kd.N_drew)); exact HO821.out) (Kd.S_base ho0) hb); replace HB := Aside0.mk (Qav (Zb) hb); (try clear hb); (try clear hb2); (try clear hk); (try clear hi); (try clear ho0)) | (go_at_call 27; (with_reducible refine (QaC.calls kj9 _ _ l0 _ _ t808 t826 t827 t828 _ ?side1 ?side2 ?side3 ?side4 A22.out).mono ?_); (case side1 => exact Zv (Kd.C_below HR0.out HB.out)); (case side2 => exact HC0.out); (case side3 => exact Zv (Kd.N_reads' HO_1.out).2.2); (case side4 => exact (Kd.N_reads' HO_1.out).2.1); rintro e w26 ⟨v829, v831, rfl, ho0, ho1, hb⟩; have HO830 := Aside0.mk (Kd.R_lower ho0 (Qau (Zb))); have HO832 := Aside0.mk (Kd.R_lower (Kd.R_new' ho1 (Kd.R_lt (Zr HO_7.out))) (Qau (Zb))); replace HO_1 := Aside0.mk (Kd.N_mono (Kd.N_told (Kd.N_told (Kd.N_old (by (with_reducible repeat (first | apply Kd.N_alloc | apply Kd.N_drewN | apply Kd.N_drew)); exact HO_1.out) hb) (Kd.R_base ho0)) (Kd.R_base ho1)) (fun _ h_ => h_.1)); replace HO_7 := Aside0.mk (Kd.R_elder' (Zr HO_7.out) (Kd.R_base ho1) hb); replace HO821 := Aside0.mk (Kd.N_mono (Kd.N_told (Kd.N_told (Kd.N_old (by (with_reducible repeat (first | apply Kd.N_alloc | apply Kd.N_drewN | apply Kd.N_drew)); exact HO821.out) hb) (Kd.R_base ho0)) (Kd.R_base ho1)) (fun _ h_ => h_.1)); replace HO825 := Aside0.mk (Kd.N_mono (Kd.N_told (Kd.N_told (Kd.N_old (by (with_reducible repeat (first | apply Kd.N_alloc | apply Kd.N_drewN | apply Kd.N_drew)); exact HO825.out) hb) (Kd.R_base ho0)) (Kd.R_base ho1)) (fun _ h_ => h_.1)); replace HB := Aside0.mk (Qav (Zb) hb); (try clear hb); (try clear hb2); (try clear hk); (try clear hi); (try clear ho0); (try clear ho1))))
    (try simp only [Act.put, Zj, Zk, Zm])
    go_cut [98] (fun v98 wc => ∃ (kq : Nat) (x98_22 : Bool), v98 = .bool x98_22 ∧ Aside0 (contangotop_TopLots.j1 kq l0 t808 t811 t815 t818 t822 t826 t827 x98_22 = some r) ∧ Aside0 (kq ≤ kj9) ∧ Aside0 (Kd.N k128 128 wc w.heap.size (fun k_ => some k_ ≠ (v813 : Value).ownBlock ∧ some k_ ≠ (v820 : Value).ownBlock ∧ some k_ ≠ (v824 : Value).ownBlock ∧ some k_ ≠ (v829 : Value).ownBlock ∧ some k_ ≠ (v831 : Value).ownBlock) (.slice Ao12 t808.length co12) t808) ∧ Aside0 (Kd.R (Kd.int .i64) 3 wc w.heap.size (fun k_ => some k_ ≠ (v831 : Value).ownBlock) v813 t811) ∧ Aside0 (Kd.N k67 67 wc w.heap.size (fun k_ => some k_ ≠ ((.slice Ao12 t808.length co12) : Value).ownBlock ∧ some k_ ≠ (v813 : Value).ownBlock ∧ some k_ ≠ (v824 : Value).ownBlock ∧ some k_ ≠ (v829 : Value).ownBlock ∧ some k_ ≠ (v831 : Value).ownBlock) v820 t818) ∧ Aside0 (Kd.N k67 67 wc w.heap.size (fun k_ => some k_ ≠ ((.slice Ao12 t808.length co12) : Value).ownBlock ∧ some k_ ≠ (v813 : Value).ownBlock ∧ some k_ ≠ (v820 : Value).ownBlock ∧ some k_ ≠ (v829 : Value).ownBlock ∧ some k_ ≠ (v831 : Value).ownBlock) v824 t822) ∧ Aside0 (Kd.R Kd.string 9 wc w.heap.size (fun _ => True) v829 t826) ∧ Aside0 (Kd.R (Kd.int .i64) 3 wc w.heap.size (fun k_ => some k_ ≠ (v813 : Value).ownBlock) v831 t827) ∧ Aside0 (Below w.heap.size w wc))
    case first =>
     have H := HC23.out
     clear HC23
     by_cases c27 : t819 = 0
     ·rw [if_pos c27] at H
      have c27b0 : (t819 == 0) = T := beq_iff_eq.mpr c27
      have c27b1 : (t819 != 0) = F := bne_eq_false_iff_eq.mpr c27
      clear c27
      by_cases c28 : t823 = 0
      ·rw [if_pos c28] at H
       have c28b0 : (t823 == 0) = T := beq_iff_eq.mpr c28
       have c28b1 : (t823 != 0) = F := bne_eq_false_iff_eq.mpr c28
       clear c28
       by_cases c29 : t828 = 0
       ·rw [if_pos c29] at H
        have c29b0 : (t828 == 0) = T := beq_iff_eq.mpr c29
        have c29b1 : (t828 != 0) = F := bne_eq_false_iff_eq.mpr c29
        clear c29
        by_cases c30 : (t818.length : Int) = (t826.length : Int)
        ·rw [if_pos c30] at H
         have c30b0 : ((t818.length : Int) == (t826.length : Int)) = T := beq_iff_eq.mpr c30
         have c30b1 : ((t818.length : Int) != (t826.length : Int)) = F := bne_eq_false_iff_eq.mpr c30
         have c30b2 : (t818.length == t826.length) = T := by first | simpa using c30 | (simp at c30 ⊢; omega)
         clear c30
         have H' := Aside0.mk H
         clear H
         obtain ⟨Ao31, co31, eo31⟩ := Kd.N_slice HO821.out
         subst eo31
         obtain ⟨Ao32, co32, eo32⟩ := Kd.R_slice HO830.out
         subst eo32
         obtain ⟨Ao33, co33, eo33⟩ := Kd.R_slice HO832.out
         subst eo33
         go_wp2
         repeat (go_quiet (fail); try go_wp2)
         go_meet
         case rel => exact ⟨_, (((t827.length : Int) != (t826.length : Int))), (Zs), H', ⟨by have := HJ9.out; first | omega | exact Nat.le_refl _⟩, ⟨by (with_reducible repeat (first | apply Kd.N_alloc | apply Kd.N_drewN | apply Kd.N_drew)); exact Kd.N_mono HO_1.out (fun _ hk => ⟨hk.1.1.1.1, ⟨hk.1.1.1.2, ⟨hk.1.1.2, ⟨hk.1.2, hk.2⟩⟩⟩⟩)⟩, ⟨by (with_reducible repeat (first | apply Kd.R_alloc | apply Kd.R_drewN | apply Kd.R_drew)); exact Kd.R_mono HO_7.out (fun _ hk => hk.2)⟩, ⟨by (with_reducible repeat (first | apply Kd.N_alloc | apply Kd.N_drewN | apply Kd.N_drew)); exact Kd.N_mono HO821.out (fun _ hk => ⟨hk.1.1.1.1, ⟨hk.1.1.1.2, ⟨hk.1.1.2, ⟨hk.1.2, hk.2⟩⟩⟩⟩)⟩, ⟨by (with_reducible repeat (first | apply Kd.N_alloc | apply Kd.N_drewN | apply Kd.N_drew)); exact Kd.N_mono HO825.out (fun _ hk => ⟨hk.1.1.1, ⟨hk.1.1.2.1, ⟨hk.1.1.2.2, ⟨hk.1.2, hk.2⟩⟩⟩⟩)⟩, ⟨Zr HO830.out⟩, ⟨by (with_reducible repeat (first | apply Kd.R_alloc | apply Kd.R_drewN | apply Kd.R_drew)); exact Kd.R_mono HO832.out (fun _ hk => hk.2)⟩, ⟨Zb⟩⟩
        rw [if_neg c30] at H
        have c30b0 : ((t818.length : Int) == (t826.length : Int)) = F := beq_eq_false_iff_ne.mpr c30
        have c30b1 : ((t818.length : Int) != (t826.length : Int)) = T := bne_iff_ne.mpr c30
        have c30b2 : (t818.length == t826.length) = F := by first | simpa using c30 | (simp at c30 ⊢; omega)
        have H' := Aside0.mk H
        clear H
        obtain ⟨Ao34, co34, eo34⟩ := Kd.N_slice HO821.out
        subst eo34
        obtain ⟨Ao35, co35, eo35⟩ := Kd.R_slice HO830.out
        subst eo35
        go_wp2
        repeat (go_quiet (fail); try go_wp2)
        go_meet
        case rel => exact ⟨_, (T), (Zs), H', ⟨by have := HJ9.out; first | omega | exact Nat.le_refl _⟩, ⟨by (with_reducible repeat (first | apply Kd.N_alloc | apply Kd.N_drewN | apply Kd.N_drew)); exact Kd.N_mono HO_1.out (fun _ hk => ⟨hk.1.1.1.1, ⟨hk.1.1.1.2, ⟨hk.1.1.2, ⟨hk.1.2, hk.2⟩⟩⟩⟩)⟩, ⟨by (with_reducible repeat (first | apply Kd.R_alloc | apply Kd.R_drewN | apply Kd.R_drew)); exact Kd.R_mono HO_7.out (fun _ hk => hk.2)⟩, ⟨by (with_reducible repeat (first | apply Kd.N_alloc | apply Kd.N_drewN | apply Kd.N_drew)); exact Kd.N_mono HO821.out (fun _ hk => ⟨hk.1.1.1.1, ⟨hk.1.1.1.2, ⟨hk.1.1.2, ⟨hk.1.2, hk.2⟩⟩⟩⟩)⟩, ⟨by (with_reducible repeat (first | apply Kd.N_alloc | apply Kd.N_drewN | apply Kd.N_drew)); exact Kd.N_mono HO825.out (fun _ hk => ⟨hk.1.1.1, ⟨hk.1.1.2.1, ⟨hk.1.1.2.2, ⟨hk.1.2, hk.2⟩⟩⟩⟩)⟩, ⟨Zr HO830.out⟩, ⟨by (with_reducible repeat (first | apply Kd.R_alloc | apply Kd.R_drewN | apply Kd.R_drew)); exact Kd.R_mono HO832.out (fun _ hk => hk.2)⟩, ⟨Zb⟩⟩
       rw [if_neg c29] at H
       have c29b0 : (t828 == 0) = F := beq_eq_false_iff_ne.mpr c29
       have c29b1 : (t828 != 0) = T := bne_iff_ne.mpr c29
       have H' := Aside0.mk H
       clear H
       go_wp2
       repeat (go_quiet (fail); try go_wp2)
       go_meet
       case rel => exact ⟨_, (T), (Zs), H', ⟨by have := HJ9.out; first | omega | exact Nat.le_refl _⟩, ⟨by (with_reducible repeat (first | apply Kd.N_alloc | apply Kd.N_drewN | apply Kd.N_drew)); exact Kd.N_mono HO_1.out (fun _ hk => ⟨hk.1.1.1.1, ⟨hk.1.1.1.2, ⟨hk.1.1.2, ⟨hk.1.2, hk.2⟩⟩⟩⟩)⟩, ⟨by (with_reducible repeat (first | apply Kd.R_alloc | apply Kd.R_drewN | apply Kd.R_drew)); exact Kd.R_mono HO_7.out (fun _ hk => hk.2)⟩, ⟨by (with_reducible repeat (first | apply Kd.N_alloc | apply Kd.N_drewN | apply Kd.N_drew)); exact Kd.N_mono HO821.out (fun _ hk => ⟨hk.1.1.1.1, ⟨hk.1.1.1.2, ⟨hk.1.1.2, ⟨hk.1.2, hk.2⟩⟩⟩⟩)⟩, ⟨by (with_reducible repeat (first | apply Kd.N_alloc | apply Kd.N_drewN | apply Kd.N_drew)); exact Kd.N_mono HO825.out (fun _ hk => ⟨hk.1.1.1, ⟨hk.1.1.2.1, ⟨hk.1.1.2.2, ⟨hk.1.2, hk.2⟩⟩⟩⟩)⟩, ⟨Zr HO830.out⟩, ⟨by (with_reducible repeat (first | apply Kd.R_alloc | apply Kd.R_drewN | apply Kd.R_drew)); exact Kd.R_mono HO832.out (fun _ hk => hk.2)⟩, ⟨Zb⟩⟩
      rw [if_neg c28] at H
      have c28b0 : (t823 == 0) = F := beq_eq_false_iff_ne.mpr c28
      have c28b1 : (t823 != 0) = T := bne_iff_ne.mpr c28
      have H' := Aside0.mk H
      clear H
      go_wp2
      repeat (go_quiet (fail); try go_wp2)
      go_meet
      case rel => exact ⟨_, (T), (Zs), H', ⟨by have := HJ9.out; first | omega | exact Nat.le_refl _⟩, ⟨by (with_reducible repeat (first | apply Kd.N_alloc | apply Kd.N_drewN | apply Kd.N_drew)); exact Kd.N_mono HO_1.out (fun _ hk => ⟨hk.1.1.1.1, ⟨hk.1.1.1.2, ⟨hk.1.1.2, ⟨hk.1.2, hk.2⟩⟩⟩⟩)⟩, ⟨by (with_reducible repeat (first | apply Kd.R_alloc | apply Kd.R_drewN | apply Kd.R_drew)); exact Kd.R_mono HO_7.out (fun _ hk => hk.2)⟩, ⟨by (with_reducible repeat (first | apply Kd.N_alloc | apply Kd.N_drewN | apply Kd.N_drew)); exact Kd.N_mono HO821.out (fun _ hk => ⟨hk.1.1.1.1, ⟨hk.1.1.1.2, ⟨hk.1.1.2, ⟨hk.1.2, hk.2⟩⟩⟩⟩)⟩, ⟨by (with_reducible repeat (first | apply Kd.N_alloc | apply Kd.N_drewN | apply Kd.N_drew)); exact Kd.N_mono HO825.out (fun _ hk => ⟨hk.1.1.1, ⟨hk.1.1.2.1, ⟨hk.1.1.2.2, ⟨hk.1.2, hk.2⟩⟩⟩⟩)⟩, ⟨Zr HO830.out⟩, ⟨by (with_reducible repeat (first | apply Kd.R_alloc | apply Kd.R_drewN | apply Kd.R_drew)); exact Kd.R_mono HO832.out (fun _ hk => hk.2)⟩, ⟨Zb⟩⟩
     rw [if_neg c27] at H
     have c27b0 : (t819 == 0) = F := beq_eq_false_iff_ne.mpr c27
     have c27b1 : (t819 != 0) = T := bne_iff_ne.mpr c27
     have H' := Aside0.mk H
     clear H
     go_wp2
     repeat (go_quiet (fail); try go_wp2)
     go_meet
     case rel => exact ⟨_, (T), (Zs), H', ⟨by have := HJ9.out; first | omega | exact Nat.le_refl _⟩, ⟨by (with_reducible repeat (first | apply Kd.N_alloc | apply Kd.N_drewN | apply Kd.N_drew)); exact Kd.N_mono HO_1.out (fun _ hk => ⟨hk.1.1.1.1, ⟨hk.1.1.1.2, ⟨hk.1.1.2, ⟨hk.1.2, hk.2⟩⟩⟩⟩)⟩, ⟨by (with_reducible repeat (first | apply Kd.R_alloc | apply Kd.R_drewN | apply Kd.R_drew)); exact Kd.R_mono HO_7.out (fun _ hk => hk.2)⟩, ⟨by (with_reducible repeat (first | apply Kd.N_alloc | apply Kd.N_drewN | apply Kd.N_drew)); exact Kd.N_mono HO821.out (fun _ hk => ⟨hk.1.1.1.1, ⟨hk.1.1.1.2, ⟨hk.1.1.2, ⟨hk.1.2, hk.2⟩⟩⟩⟩)⟩, ⟨by (with_reducible repeat (first | apply Kd.N_alloc | apply Kd.N_drewN | apply Kd.N_drew)); exact Kd.N_mono HO825.out (fun _ hk => ⟨hk.1.1.1, ⟨hk.1.1.2.1, ⟨hk.1.1.2.2, ⟨hk.1.2, hk.2⟩⟩⟩⟩)⟩, ⟨Zr HO830.out⟩, ⟨by (with_reducible repeat (first | apply Kd.R_alloc | apply Kd.R_drewN | apply Kd.R_drew)); exact Kd.R_mono HO832.out (fun _ hk => hk.2)⟩, ⟨Zb⟩⟩
    case rest =>
     clear HC23
     try clear c1
     try clear c2
     try clear p2
     try clear c3
     try clear c5
     try clear c6
     try clear p6
     try clear c15
     try clear c15b0
     try clear c15b1
     try clear c16
     try clear c17
     try clear c17b0
     try clear c17b1
     try clear c27
     try clear c27b0
     try clear c27b1
     try clear c28
     try clear c28b0
     try clear c28b1
     try clear c29
     try clear c29b0
     try clear c29b1
     try clear c30
     try clear c30b0
     try clear c30b1
     try clear c30b2
     try clear p2
     obtain ⟨kq, x98_22, rfl, HA, HJ22, HO_1, HO_7, HO_11, HO_13, HO_15, HO_16, HB⟩ := hcut
     cases kq with
     | zero => exact absurd HA.out (by simp [contangotop_TopLots.j1])
     | succ kj22 =>
      have H := HA.out
      clear HA
      simp only [contangotop_TopLots.j1] at H
      by_cases c36 : x98_22 = T
      ·subst c36
       have H1 : (none) = some r := by rw [if_pos rfl] at H; exact H
       clear H
       have H := H1
       clear H1
       exact absurd H (by simp)
      replace c36 := Bool.eq_false_iff.mpr c36
      subst c36
      have H1 : (contangotop_TopLots.l0 kj22 l0 t808 t811 t815 t818 t822 t826 t827 0 (t818.length : Int) 0) = some r := by rw [if_neg (show ¬ (F = T) by decide)] at H; exact H
      clear H
      have H := H1
      clear H1
      have H' := Aside0.mk H
      clear H
      obtain ⟨Ao37, co37, eo37⟩ := Kd.N_slice HO_11.out
      subst eo37
      go_wp2
      repeat (go_quiet (fail); try go_wp2)
      go_loopg [18, 101] kj22 (fun kq v18 v101 w' => ∃ (x18_3 : Int) (x101_3 : Int), v18 = .int .i64 x18_3 ∧ v101 = .int .i64 x101_3 ∧ Aside0 (contangotop_TopLots.l0 kq l0 t808 t811 t815 t818 t822 t826 t827 x18_3 (t818.length : Int) x101_3 = some r) ∧ Aside0 (kq ≤ kj22) ∧ Aside0 (Kd.N k128 128 w' w.heap.size (fun k_ => some k_ ≠ (v813 : Value).ownBlock ∧ some k_ ≠ ((.slice Ao37 t818.length co37) : Value).ownBlock ∧ some k_ ≠ (v824 : Value).ownBlock ∧ some k_ ≠ (v829 : Value).ownBlock ∧ some k_ ≠ (v831 : Value).ownBlock) (.slice Ao12 t808.length co12) t808) ∧ Aside0 (Kd.R (Kd.int .i64) 3 w' w.heap.size (fun k_ => some k_ ≠ (v831 : Value).ownBlock) v813 t811) ∧ Aside0 (Kd.N k67 67 w' w.heap.size (fun k_ => some k_ ≠ ((.slice Ao12 t808.length co12) : Value).ownBlock ∧ some k_ ≠ (v813 : Value).ownBlock ∧ some k_ ≠ (v824 : Value).ownBlock ∧ some k_ ≠ (v829 : Value).ownBlock ∧ some k_ ≠ (v831 : Value).ownBlock) (.slice Ao37 t818.length co37) t818) ∧ Aside0 (Kd.N k67 67 w' w.heap.size (fun k_ => some k_ ≠ ((.slice Ao12 t808.length co12) : Value).ownBlock ∧ some k_ ≠ (v813 : Value).ownBlock ∧ some k_ ≠ ((.slice Ao37 t818.length co37) : Value).ownBlock ∧ some k_ ≠ (v829 : Value).ownBlock ∧ some k_ ≠ (v831 : Value).ownBlock) v824 t822) ∧ Aside0 (Kd.R Kd.string 9 w' w.heap.size (fun _ => True) v829 t826) ∧ Aside0 (Kd.R (Kd.int .i64) 3 w' w.heap.size (fun k_ => some k_ ≠ (v813 : Value).ownBlock) v831 t827) ∧ Aside0 (Below w.heap.size w w'))
      case atStart => exact ⟨(0), (0), (Zs), (Zs), H', ⟨Nat.le_refl _⟩, ⟨by (with_reducible repeat (first | apply Kd.N_alloc | apply Kd.N_drewN | apply Kd.N_drew)); exact HO_1.out⟩, ⟨Zr HO_7.out⟩, ⟨by (with_reducible repeat (first | apply Kd.N_alloc | apply Kd.N_drewN | apply Kd.N_drew)); exact HO_11.out⟩, ⟨by (with_reducible repeat (first | apply Kd.N_alloc | apply Kd.N_drewN | apply Kd.N_drew)); exact HO_13.out⟩, ⟨Zr HO_15.out⟩, ⟨Zr HO_16.out⟩, ⟨Zb⟩⟩
      case round =>
       clear H'
       try clear c1
       try clear c2
       try clear p2
       try clear c3
       try clear c5
       try clear c6
       try clear p6
       try clear c15
       try clear c15b0
       try clear c15b1
       try clear c16
       try clear c17
       try clear c17b0
       try clear c17b1
       try clear c27
       try clear c27b0
       try clear c27b1
       try clear c28
       try clear c28b0
       try clear c28b1
       try clear c29
       try clear c29b0
       try clear c29b1
       try clear c30
       try clear c30b0
       try clear c30b1
       try clear c30b2
       try clear c36
       try clear p2
       try clear p6
       obtain ⟨x18_3, x101_3, rfl, rfl, HA, HK3, HO_1, HO_7, HO_11, HO_13, HO_15, HO_16, HB⟩ := hrel
       cases gk with
       | zero => exact absurd HA.out (by simp [contangotop_TopLots.l0])
       | succ k3 =>
        have H := HA.out
        clear HA
        simp only [contangotop_TopLots.l0] at H
        by_cases c38 : x101_3 < (t818.length : Int)
        ·rw [if_pos c38] at H
         have c38b0 : decide (x101_3 < (t818.length : Int)) = T := decide_eq_true c38
         clear c38
         (try simp only [c38b0])
         by_cases c39 : 0 ≤ x101_3
         ·rw [if_pos c39] at H
          have c39b0 : decide (0 ≤ x101_3) = T := decide_eq_true c39
          clear c39
          by_cases c40 : x101_3 < (t818.length : Int)
          ·rw [if_pos c40] at H
           have c40b0 : decide (x101_3 < (t818.length : Int)) = T := decide_eq_true c40
           clear c40
           replace H := Option.bind_eq_some_iff.mp H
           obtain ⟨⟨t834, t835⟩, A410, H⟩ := H
           replace H : (if t835 = 0 then (if x101_3 < (t827.length : Int) then (if t834 = (rd t827 x101_3) then (if (((rd_T67 t818 x101_3).f1).length : Int) = 0 then (none) else (if 0 < (((rd_T67 t818 x101_3).f1).length : Int) then (if x101_3 < (t826.length : Int) then (if ((rd_T71 ((rd_T67 t818 x101_3).f1) 0).f0.f0).toList = (rdOf ByteArray.empty t826 x101_3).toList then (contangotop_TopLots.l0 k3 l0 t808 t811 t815 t818 t822 t826 t827 (wrap64 (x18_3 + (rd t827 x101_3))) (t818.length : Int) (wrap64 (x101_3 + 1))) else (none)) else (none)) else (none))) else (none)) else (none)) else (none)) = some r := H
           have A41 := Aside0.mk A410
           clear A410
           have p833 : 0 ≤ (x101_3 : Int) := Ze
           have q833 : x101_3 < (t818.length : Int) := Ze
           obtain ⟨ad833, A833_1, c833_1, e833, hx833_0, hx833_1, hl833_1, hi833_1⟩ := at_T67 (Kd.N_reads' HO_11.out).2.2 x101_3 p833 q833
           cases e833
           obtain ⟨ce833, hce833, hMe833, hcc833⟩ := Kd.N_get HO_11.out z67 x101_3 p833 (by first | exact q833 | exact Ze | (have e_ := (Kd.N_reads' HO_11.out).1; omega))
           obtain ⟨ua833_1, uc833_1, rfl, ul833_1, ge833_1⟩ := Qb4 hMe833
           have hv833_1 := hcc833 1 _ rfl
           rw [QaZ _ _ 1 (by omega)] at hv833_1
           replace hv833_1 := Option.some.inj (hv833_1.symm.trans hx833_1)
           injection hv833_1 with hva_ hvn_ hvc_
           rw [hva_] at ge833_1
           rw [hvc_] at ul833_1
           have HL833_1 := Aside0.mk (show Kd.V k71 71 _ w.heap.size _ _ ((rd_T67 t818 x101_3).f1) from Kd.V_mk ul833_1 ge833_1)
           clear hva_ hvn_ hvc_ ge833_1 ul833_1
           clear hcc833 hce833
           have HR833_1 := Aside0.mk hi833_1
           have HC833_1 := Aside0.mk hl833_1
           clear hi833_1 hl833_1
           replace p833 := eq_true p833
           replace q833 := eq_true q833
           go_upto_region 18 with (first | (go_at_call 16; (with_reducible refine (Qaw.calls k3 _ _ ((rd_T67 t818 x101_3).f1) _ _ t808 t834 t835 _ ?side1 ?side2 ?side3 ?side4 A41.out).mono ?_); (case side1 => repeat (first | exact (by repeat (first | (with_reducible exact HR833_1.out) | (with_reducible refine Kd.C_alloc ?_ _) | (with_reducible refine Kd.C_drewN ?_ _) | (with_reducible refine Kd.C_drew ?_) | exact HR833_1.out)) | (with_reducible refine Kd.C_alloc ?_ _) | (with_reducible refine Kd.C_drewN ?_ _) | (with_reducible refine Kd.C_drew ?_))); (case side2 => exact HC833_1.out); (case side3 => exact Zv (Kd.N_reads' HO_1.out).2.2); (case side4 => exact (Kd.N_reads' HO_1.out).2.1); rintro e w42 ⟨rfl, hb⟩; replace HO_1 := Aside0.mk (Kd.N_below (by (with_reducible repeat (first | apply Kd.N_alloc | apply Kd.N_drewN | apply Kd.N_drew)); exact HO_1.out) hb); replace HO_7 := Aside0.mk (Kd.R_below (Zr HO_7.out) hb); replace HO_11 := Aside0.mk (Kd.N_below (by (with_reducible repeat (first | apply Kd.N_alloc | apply Kd.N_drewN | apply Kd.N_drew)); exact HO_11.out) hb); replace HO_13 := Aside0.mk (Kd.N_below (by (with_reducible repeat (first | apply Kd.N_alloc | apply Kd.N_drewN | apply Kd.N_drew)); exact HO_13.out) hb); replace HO_15 := Aside0.mk (Kd.R_below (Zr HO_15.out) hb); replace HO_16 := Aside0.mk (Kd.R_below (Zr HO_16.out) hb); replace HL833_1 := Aside0.mk (Kd.V_below (by (with_reducible repeat (first | apply Kd.V_alloc | apply Kd.V_drewN | apply Kd.V_drew)); exact HL833_1.out) hb); replace HR833_1 := Aside0.mk (Kd.C_below (by repeat (first | (with_reducible exact HR833_1.out) | (with_reducible refine Kd.C_alloc ?_ _) | (with_reducible refine Kd.C_drewN ?_ _) | (with_reducible refine Kd.C_drew ?_) | exact HR833_1.out)) hb); replace HB := Aside0.mk (Qav (Zb) hb); (try clear hb); (try clear hb2); (try clear hk); (try clear hi)))
           repeat (go_quiet (first | (go_at_call 16; (with_reducible refine (Qaw.calls k3 _ _ ((rd_T67 t818 x101_3).f1) _ _ t808 t834 t835 _ ?side1 ?side2 ?side3 ?side4 A41.out).mono ?_); (case side1 => repeat (first | exact (by repeat (first | (with_reducible exact HR833_1.out) | (with_reducible refine Kd.C_alloc ?_ _) | (with_reducible refine Kd.C_drewN ?_ _) | (with_reducible refine Kd.C_drew ?_) | exact HR833_1.out)) | (with_reducible refine Kd.C_alloc ?_ _) | (with_reducible refine Kd.C_drewN ?_ _) | (with_reducible refine Kd.C_drew ?_))); (case side2 => exact HC833_1.out); (case side3 => exact Zv (Kd.N_reads' HO_1.out).2.2); (case side4 => exact (Kd.N_reads' HO_1.out).2.1); rintro e w42 ⟨rfl, hb⟩; replace HO_1 := Aside0.mk (Kd.N_below (by (with_reducible repeat (first | apply Kd.N_alloc | apply Kd.N_drewN | apply Kd.N_drew)); exact HO_1.out) hb); replace HO_7 := Aside0.mk (Kd.R_below (Zr HO_7.out) hb); replace HO_11 := Aside0.mk (Kd.N_below (by (with_reducible repeat (first | apply Kd.N_alloc | apply Kd.N_drewN | apply Kd.N_drew)); exact HO_11.out) hb); replace HO_13 := Aside0.mk (Kd.N_below (by (with_reducible repeat (first | apply Kd.N_alloc | apply Kd.N_drewN | apply Kd.N_drew)); exact HO_13.out) hb); replace HO_15 := Aside0.mk (Kd.R_below (Zr HO_15.out) hb); replace HO_16 := Aside0.mk (Kd.R_below (Zr HO_16.out) hb); replace HL833_1 := Aside0.mk (Kd.V_below (by (with_reducible repeat (first | apply Kd.V_alloc | apply Kd.V_drewN | apply Kd.V_drew)); exact HL833_1.out) hb); replace HR833_1 := Aside0.mk (Kd.C_below (by repeat (first | (with_reducible exact HR833_1.out) | (with_reducible refine Kd.C_alloc ?_ _) | (with_reducible refine Kd.C_drewN ?_ _) | (with_reducible refine Kd.C_drew ?_) | exact HR833_1.out)) hb); replace HB := Aside0.mk (Qav (Zb) hb); (try clear hb); (try clear hb2); (try clear hk); (try clear hi))); go_upto_region 18 with (first | (go_at_call 16; (with_reducible refine (Qaw.calls k3 _ _ ((rd_T67 t818 x101_3).f1) _ _ t808 t834 t835 _ ?side1 ?side2 ?side3 ?side4 A41.out).mono ?_); (case side1 => repeat (first | exact (by repeat (first | (with_reducible exact HR833_1.out) | (with_reducible refine Kd.C_alloc ?_ _) | (with_reducible refine Kd.C_drewN ?_ _) | (with_reducible refine Kd.C_drew ?_) | exact HR833_1.out)) | (with_reducible refine Kd.C_alloc ?_ _) | (with_reducible refine Kd.C_drewN ?_ _) | (with_reducible refine Kd.C_drew ?_))); (case side2 => exact HC833_1.out); (case side3 => exact Zv (Kd.N_reads' HO_1.out).2.2); (case side4 => exact (Kd.N_reads' HO_1.out).2.1); rintro e w42 ⟨rfl, hb⟩; replace HO_1 := Aside0.mk (Kd.N_below (by (with_reducible repeat (first | apply Kd.N_alloc | apply Kd.N_drewN | apply Kd.N_drew)); exact HO_1.out) hb); replace HO_7 := Aside0.mk (Kd.R_below (Zr HO_7.out) hb); replace HO_11 := Aside0.mk (Kd.N_below (by (with_reducible repeat (first | apply Kd.N_alloc | apply Kd.N_drewN | apply Kd.N_drew)); exact HO_11.out) hb); replace HO_13 := Aside0.mk (Kd.N_below (by (with_reducible repeat (first | apply Kd.N_alloc | apply Kd.N_drewN | apply Kd.N_drew)); exact HO_13.out) hb); replace HO_15 := Aside0.mk (Kd.R_below (Zr HO_15.out) hb); replace HO_16 := Aside0.mk (Kd.R_below (Zr HO_16.out) hb); replace HL833_1 := Aside0.mk (Kd.V_below (by (with_reducible repeat (first | apply Kd.V_alloc | apply Kd.V_drewN | apply Kd.V_drew)); exact HL833_1.out) hb); replace HR833_1 := Aside0.mk (Kd.C_below (by repeat (first | (with_reducible exact HR833_1.out) | (with_reducible refine Kd.C_alloc ?_ _) | (with_reducible refine Kd.C_drewN ?_ _) | (with_reducible refine Kd.C_drew ?_) | exact HR833_1.out)) hb); replace HB := Aside0.mk (Qav (Zb) hb); (try clear hb); (try clear hb2); (try clear hk); (try clear hi))))
           (try simp only [Act.put, Zj, Zk, Zm])
           by_cases c43 : t835 = 0
           ·rw [if_pos c43] at H
            have c43b0 : (t835 == 0) = T := beq_iff_eq.mpr c43
            have c43b1 : (t835 != 0) = F := bne_eq_false_iff_eq.mpr c43
            clear c43
            (try simp only [c43b0, c43b1])
            by_cases c44 : x101_3 < (t827.length : Int)
            ·rw [if_pos c44] at H
             have c44b0 : decide (x101_3 < (t827.length : Int)) = T := decide_eq_true c44
             clear c44
             by_cases c45 : t834 = (rd t827 x101_3)
             ·rw [if_pos c45] at H
              have c45b0 : (t834 == (rd t827 x101_3)) = T := beq_iff_eq.mpr c45
              have c45b1 : (t834 != (rd t827 x101_3)) = F := bne_eq_false_iff_eq.mpr c45
              clear c45
              by_cases c46 : (((rd_T67 t818 x101_3).f1).length : Int) = 0
              ·rw [if_pos c46] at H
               exact absurd H (by simp)
              rw [if_neg c46] at H
              have c46b0 : ((((rd_T67 t818 x101_3).f1).length : Int) == 0) = F := beq_eq_false_iff_ne.mpr c46
              have c46b1 : ((((rd_T67 t818 x101_3).f1).length : Int) != 0) = T := bne_iff_ne.mpr c46
              have c46b2 : ¬ (((rd_T67 t818 x101_3).f1) = []) := fun h_ => c46 (by rw [h_]; rfl)
              by_cases c47 : 0 < (((rd_T67 t818 x101_3).f1).length : Int)
              ·rw [if_pos c47] at H
               have c47b0 : decide (0 < (((rd_T67 t818 x101_3).f1).length : Int)) = T := decide_eq_true c47
               have c47b1 : decide (0 < ((rd_T67 t818 x101_3).f1).length) = T := decide_eq_true (by omega)
               clear c47
               by_cases c48 : x101_3 < (t826.length : Int)
               ·rw [if_pos c48] at H
                have c48b0 : decide (x101_3 < (t826.length : Int)) = T := decide_eq_true c48
                clear c48
                obtain ⟨Ao49, co49, eo49⟩ := Kd.R_slice HO_16.out
                subst eo49
                have p836 : 0 ≤ (x101_3 : Int) := Ze
                have q836 : x101_3 < (t827.length : Int) := Ze
                obtain ⟨ad836, e836, hx836_0⟩ := Kd.at_int (Kd.R_reads' HO_16.out).2.2 x101_3 p836 q836
                cases e836
                replace p836 := eq_true p836
                replace q836 := eq_true q836
                have p837 : 0 ≤ (x101_3 : Int) := Ze
                have q837 : x101_3 < (t818.length : Int) := Ze
                obtain ⟨ad837, A837_1, c837_1, e837, hx837_0, hx837_1, hl837_1, hi837_1⟩ := at_T67 (Kd.N_reads' HO_11.out).2.2 x101_3 p837 q837
                obtain rfl : ad833 = ad837 := (by injection e837)
                obtain ⟨ce837, hce837, hMe837, hcc837⟩ := Kd.N_get HO_11.out z67 x101_3 p837 (by first | exact q837 | exact Ze | (have e_ := (Kd.N_reads' HO_11.out).1; omega))
                obtain ⟨ua837_1, uc837_1, rfl, ul837_1, ge837_1⟩ := Qb4 hMe837
                have hv837_1 := hcc837 1 _ rfl
                rw [QaZ _ _ 1 (by omega)] at hv837_1
                replace hv837_1 := Option.some.inj (hv837_1.symm.trans hx837_1)
                injection hv837_1 with hva_ hvn_ hvc_
                rw [hva_] at ge837_1
                rw [hvc_] at ul837_1
                have HL837_1 := Aside0.mk (show Kd.V k71 71 _ w.heap.size _ _ ((rd_T67 t818 x101_3).f1) from Kd.V_mk ul837_1 ge837_1)
                clear hva_ hvn_ hvc_ ge837_1 ul837_1
                clear hcc837 hce837
                have HR837_1 := Aside0.mk hi837_1
                have HC837_1 := Aside0.mk hl837_1
                clear hi837_1 hl837_1
                replace p837 := eq_true p837
                replace q837 := eq_true q837
                have p838 : 0 ≤ (x101_3 : Int) := Ze
                have q838 : x101_3 < (t818.length : Int) := Ze
                obtain ⟨ad838, A838_1, c838_1, e838, hx838_0, hx838_1, hl838_1, hi838_1⟩ := at_T67 (Kd.N_reads' HO_11.out).2.2 x101_3 p838 q838
                obtain rfl : ad833 = ad838 := (by injection e838)
                obtain ⟨ce838, hce838, hMe838, hcc838⟩ := Kd.N_get HO_11.out z67 x101_3 p838 (by first | exact q838 | exact Ze | (have e_ := (Kd.N_reads' HO_11.out).1; omega))
                obtain ⟨ua838_1, uc838_1, rfl, ul838_1, ge838_1⟩ := Qb4 hMe838
                have hv838_1 := hcc838 1 _ rfl
                rw [QaZ _ _ 1 (by omega)] at hv838_1
                replace hv838_1 := Option.some.inj (hv838_1.symm.trans hx838_1)
                injection hv838_1 with hva_ hvn_ hvc_
                rw [hva_] at ge838_1
                rw [hvc_] at ul838_1
                have HL838_1 := Aside0.mk (show Kd.V k71 71 _ w.heap.size _ _ ((rd_T67 t818 x101_3).f1) from Kd.V_mk ul838_1 ge838_1)
                clear hva_ hvn_ hvc_ ge838_1 ul838_1
                clear hcc838 hce838
                have HR838_1 := Aside0.mk hi838_1
                have HC838_1 := Aside0.mk hl838_1
                clear hi838_1 hl838_1
                replace p838 := eq_true p838
                replace q838 := eq_true q838
                have ea_ := Option.some.inj (hx837_1.symm.trans hx838_1)
                injection ea_ with ea_ en_ ec_
                subst ea_
                subst ec_
                clear en_
                have p839 : 0 ≤ (0 : Int) := (by omega)
                have q839 : 0 < (((rd_T67 t818 x101_3).f1).length : Int) := Ze
                obtain ⟨ad839, e839, hx839_0, hx839_1, hx839_2, hx839_3, hx839_4, hx839_5⟩ := at_T71 (by repeat (first | (with_reducible exact HR838_1.out) | (with_reducible refine Kd.C_alloc ?_ _) | (with_reducible refine Kd.C_drewN ?_ _) | (with_reducible refine Kd.C_drew ?_) | exact HR838_1.out)) 0 p839 q839
                cases e839
                have qi839 : (0 < ((rd_T67 t818 x101_3).f1).length) = True := eq_true (by omega)
                (try rw [show ((0 : Int)).toNat = 0 from rfl] at hx839_0)
                (try rw [show 0 * 6 = 0 from rfl] at hx839_0)
                (try rw [Addr.add_zero'] at hx839_0)
                (try rw [show ((0 : Int)).toNat = 0 from rfl] at hx839_1)
                (try rw [show 0 * 6 = 0 from rfl] at hx839_1)
                (try rw [Addr.add_zero'] at hx839_1)
                (try rw [show ((0 : Int)).toNat = 0 from rfl] at hx839_2)
                (try rw [show 0 * 6 = 0 from rfl] at hx839_2)
                (try rw [Addr.add_zero'] at hx839_2)
                (try rw [show ((0 : Int)).toNat = 0 from rfl] at hx839_3)
                (try rw [show 0 * 6 = 0 from rfl] at hx839_3)
                (try rw [Addr.add_zero'] at hx839_3)
                (try rw [show ((0 : Int)).toNat = 0 from rfl] at hx839_4)
                (try rw [show 0 * 6 = 0 from rfl] at hx839_4)
                (try rw [Addr.add_zero'] at hx839_4)
                (try rw [show ((0 : Int)).toNat = 0 from rfl] at hx839_5)
                (try rw [show 0 * 6 = 0 from rfl] at hx839_5)
                (try rw [Addr.add_zero'] at hx839_5)
                replace p839 := eq_true p839
                replace q839 := eq_true q839
                obtain ⟨Ao50, co50, eo50⟩ := Kd.R_slice HO_15.out
                subst eo50
                have p840 : 0 ≤ (x101_3 : Int) := Ze
                have q840 : x101_3 < (t826.length : Int) := Ze
                obtain ⟨ad840, e840, hx840_0⟩ := Kd.at_string (Kd.R_reads' HO_15.out).2.2 x101_3 p840 q840
                cases e840
                replace p840 := eq_true p840
                replace q840 := eq_true q840
                go_upto_if 148 with (fail)
                repeat (go_quiet (fail); go_upto_if 148 with (fail))
                by_cases c51 : ((rd_T71 ((rd_T67 t818 x101_3).f1) 0).f0.f0).toList = (rdOf ByteArray.empty t826 x101_3).toList
                ·rw [if_pos c51] at H
                 have c51b0 : (((rd_T71 ((rd_T67 t818 x101_3).f1) 0).f0.f0).toList == (rdOf ByteArray.empty t826 x101_3).toList) = T := beq_iff_eq.mpr c51
                 have c51b1 : (((rd_T71 ((rd_T67 t818 x101_3).f1) 0).f0.f0).toList != (rdOf ByteArray.empty t826 x101_3).toList) = F := bne_eq_false_iff_eq.mpr c51
                 clear c51
                 (try simp only [c51b0, c51b1])
                 have H' := Aside0.mk H
                 clear H
                 have p841 : 0 ≤ (x101_3 : Int) := Ze
                 have q841 : x101_3 < (t827.length : Int) := Ze
                 obtain ⟨ad841, e841, hx841_0⟩ := Kd.at_int (Kd.R_reads' HO_16.out).2.2 x101_3 p841 q841
                 obtain rfl : ad836 = ad841 := (by injection e841)
                 replace p841 := eq_true p841
                 replace q841 := eq_true q841
                 go_wp2
                 repeat (go_quiet (fail); try go_wp2)
                 go_roundg k3
                 case measure => have := HJ9.out; have := HJ22.out; have := HK3.out; omega
                 case rel => exact ⟨(wrap64 (x18_3 + (rd t827 x101_3))), (wrap64 (x101_3 + 1)), (Zs), (Zs), H', ⟨by have := HJ9.out; have := HJ22.out; have := HK3.out; omega⟩, ⟨by (with_reducible repeat (first | apply Kd.N_alloc | apply Kd.N_drewN | apply Kd.N_drew)); exact HO_1.out⟩, ⟨Zr HO_7.out⟩, ⟨by (with_reducible repeat (first | apply Kd.N_alloc | apply Kd.N_drewN | apply Kd.N_drew)); exact HO_11.out⟩, ⟨by (with_reducible repeat (first | apply Kd.N_alloc | apply Kd.N_drewN | apply Kd.N_drew)); exact HO_13.out⟩, ⟨Zr HO_15.out⟩, ⟨Zr HO_16.out⟩, ⟨Zb⟩⟩
                rw [if_neg c51] at H
                exact absurd H (by simp)
               rw [if_neg c48] at H
               exact absurd H (by simp)
              rw [if_neg c47] at H
              exact absurd H (by simp)
             rw [if_neg c45] at H
             exact absurd H (by simp)
            rw [if_neg c44] at H
            exact absurd H (by simp)
           rw [if_neg c43] at H
           exact absurd H (by simp)
          rw [if_neg c40] at H
          exact absurd H (by simp)
         rw [if_neg c39] at H
         exact absurd H (by simp)
        rw [if_neg c38] at H
        have c38b0 : decide (x101_3 < (t818.length : Int)) = F := decide_eq_false c38
        clear c38
        (try simp only [c38b0])
        by_cases c52 : x18_3 = t815
        ·rw [if_pos c52] at H
         have c52b0 : (x18_3 == t815) = T := beq_iff_eq.mpr c52
         have c52b1 : (x18_3 != t815) = F := bne_eq_false_iff_eq.mpr c52
         clear c52
         replace H := Option.bind_eq_some_iff.mp H
         obtain ⟨t842, A530, H⟩ := H
         replace H : (if t842 = T then ((Qai.f k3 t822 l0 t808 t811 t815).bind fun t843 => (if t843 = T then ((Qaz.f k3).bind fun t844 => (some t844)) else (none))) else (none)) = some r := H
         have A53 := Aside0.mk A530
         clear A530
         by_cases c54 : t842 = T
         ·subst c54
          have H1 : ((Qai.f k3 t822 l0 t808 t811 t815).bind fun t843 => (if t843 = T then ((Qaz.f k3).bind fun t844 => (some t844)) else (none))) = some r := by rw [if_pos rfl] at H; exact H
          clear H
          have H := H1
          clear H1
          replace H := Option.bind_eq_some_iff.mp H
          obtain ⟨t843, A550, H⟩ := H
          replace H : (if t843 = T then ((Qaz.f k3).bind fun t844 => (some t844)) else (none)) = some r := H
          have A55 := Aside0.mk A550
          clear A550
          by_cases c56 : t843 = T
          ·subst c56
           have H1 : ((Qaz.f k3).bind fun t844 => (some t844)) = some r := by rw [if_pos rfl] at H; exact H
           clear H
           have H := H1
           clear H1
           replace H := Option.bind_eq_some_iff.mp H
           obtain ⟨t844, A570, H⟩ := H
           replace H : (some t844) = some r := H
           have A57 := Aside0.mk A570
           clear A570
           obtain rfl := Option.some.inj H
           obtain ⟨Ao58, co58, eo58⟩ := Kd.R_slice HO_7.out
           subst eo58
           go_wp2_with (first | (go_at_call 28; (with_reducible refine (Qai.calls k3 _ _ t818 _ _ l0 _ _ t808 _ _ t811 t815 T _ ?side1 ?side2 ?side3 ?side4 ?side5 ?side6 ?side7 ?side8 A53.out).mono ?_); (case side1 => exact Zv (Kd.N_reads' HO_11.out).2.2); (case side2 => exact (Kd.N_reads' HO_11.out).2.1); (case side3 => exact Zv (Kd.C_below HR0.out HB.out)); (case side4 => exact HC0.out); (case side5 => exact Zv (Kd.N_reads' HO_1.out).2.2); (case side6 => exact (Kd.N_reads' HO_1.out).2.1); (case side7 => exact Zv (Kd.R_reads' HO_7.out).2.2); (case side8 => exact (Kd.R_reads' HO_7.out).2.1); rintro e w59 ⟨rfl, hb⟩; replace HO_1 := Aside0.mk (Kd.N_below (by (with_reducible repeat (first | apply Kd.N_alloc | apply Kd.N_drewN | apply Kd.N_drew)); exact HO_1.out) hb); replace HO_7 := Aside0.mk (Kd.R_below (Zr HO_7.out) hb); replace HO_11 := Aside0.mk (Kd.N_below (by (with_reducible repeat (first | apply Kd.N_alloc | apply Kd.N_drewN | apply Kd.N_drew)); exact HO_11.out) hb); replace HO_13 := Aside0.mk (Kd.N_below (by (with_reducible repeat (first | apply Kd.N_alloc | apply Kd.N_drewN | apply Kd.N_drew)); exact HO_13.out) hb); replace HO_15 := Aside0.mk (Kd.R_below (Zr HO_15.out) hb); replace HO_16 := Aside0.mk (Kd.R_below (Zr HO_16.out) hb); replace HB := Aside0.mk (Qav (Zb) hb); (try clear hb); (try clear hb2); (try clear hk); (try clear hi); obtain ⟨Ao60, co60, eo60⟩ := Kd.N_slice HO_13.out; subst eo60) | (go_at_call 28; (with_reducible refine (Qai.calls k3 _ _ t822 _ _ l0 _ _ t808 _ _ t811 t815 T _ ?side1 ?side2 ?side3 ?side4 ?side5 ?side6 ?side7 ?side8 A55.out).mono ?_); (case side1 => exact Zv (Kd.N_reads' HO_13.out).2.2); (case side2 => exact (Kd.N_reads' HO_13.out).2.1); (case side3 => exact Zv (Kd.C_below HR0.out HB.out)); (case side4 => exact HC0.out); (case side5 => exact Zv (Kd.N_reads' HO_1.out).2.2); (case side6 => exact (Kd.N_reads' HO_1.out).2.1); (case side7 => exact Zv (Kd.R_reads' HO_7.out).2.2); (case side8 => exact (Kd.R_reads' HO_7.out).2.1); rintro e w61 ⟨rfl, hb⟩; replace HO_1 := Aside0.mk (Kd.N_below (by (with_reducible repeat (first | apply Kd.N_alloc | apply Kd.N_drewN | apply Kd.N_drew)); exact HO_1.out) hb); replace HO_7 := Aside0.mk (Kd.R_below (Zr HO_7.out) hb); replace HO_11 := Aside0.mk (Kd.N_below (by (with_reducible repeat (first | apply Kd.N_alloc | apply Kd.N_drewN | apply Kd.N_drew)); exact HO_11.out) hb); replace HO_13 := Aside0.mk (Kd.N_below (by (with_reducible repeat (first | apply Kd.N_alloc | apply Kd.N_drewN | apply Kd.N_drew)); exact HO_13.out) hb); replace HO_15 := Aside0.mk (Kd.R_below (Zr HO_15.out) hb); replace HO_16 := Aside0.mk (Kd.R_below (Zr HO_16.out) hb); replace HB := Aside0.mk (Qav (Zb) hb); (try clear hb); (try clear hb2); (try clear hk); (try clear hi)) | (go_at_call 22; (with_reducible refine (Qaz.calls k3  t844 _ A57.out).mono ?_); rintro e w62 ⟨rfl, hb⟩; replace HO_1 := Aside0.mk (Kd.N_below (by (with_reducible repeat (first | apply Kd.N_alloc | apply Kd.N_drewN | apply Kd.N_drew)); exact HO_1.out) hb); replace HO_7 := Aside0.mk (Kd.R_below (Zr HO_7.out) hb); replace HO_11 := Aside0.mk (Kd.N_below (by (with_reducible repeat (first | apply Kd.N_alloc | apply Kd.N_drewN | apply Kd.N_drew)); exact HO_11.out) hb); replace HO_13 := Aside0.mk (Kd.N_below (by (with_reducible repeat (first | apply Kd.N_alloc | apply Kd.N_drewN | apply Kd.N_drew)); exact HO_13.out) hb); replace HO_15 := Aside0.mk (Kd.R_below (Zr HO_15.out) hb); replace HO_16 := Aside0.mk (Kd.R_below (Zr HO_16.out) hb); replace HB := Aside0.mk (Qav (Zb) hb); (try clear hb); (try clear hb2); (try clear hk); (try clear hi)))
           repeat (go_quiet (first | (go_at_call 28; (with_reducible refine (Qai.calls k3 _ _ t818 _ _ l0 _ _ t808 _ _ t811 t815 T _ ?side1 ?side2 ?side3 ?side4 ?side5 ?side6 ?side7 ?side8 A53.out).mono ?_); (case side1 => exact Zv (Kd.N_reads' HO_11.out).2.2); (case side2 => exact (Kd.N_reads' HO_11.out).2.1); (case side3 => exact Zv (Kd.C_below HR0.out HB.out)); (case side4 => exact HC0.out); (case side5 => exact Zv (Kd.N_reads' HO_1.out).2.2); (case side6 => exact (Kd.N_reads' HO_1.out).2.1); (case side7 => exact Zv (Kd.R_reads' HO_7.out).2.2); (case side8 => exact (Kd.R_reads' HO_7.out).2.1); rintro e w59 ⟨rfl, hb⟩; replace HO_1 := Aside0.mk (Kd.N_below (by (with_reducible repeat (first | apply Kd.N_alloc | apply Kd.N_drewN | apply Kd.N_drew)); exact HO_1.out) hb); replace HO_7 := Aside0.mk (Kd.R_below (Zr HO_7.out) hb); replace HO_11 := Aside0.mk (Kd.N_below (by (with_reducible repeat (first | apply Kd.N_alloc | apply Kd.N_drewN | apply Kd.N_drew)); exact HO_11.out) hb); replace HO_13 := Aside0.mk (Kd.N_below (by (with_reducible repeat (first | apply Kd.N_alloc | apply Kd.N_drewN | apply Kd.N_drew)); exact HO_13.out) hb); replace HO_15 := Aside0.mk (Kd.R_below (Zr HO_15.out) hb); replace HO_16 := Aside0.mk (Kd.R_below (Zr HO_16.out) hb); replace HB := Aside0.mk (Qav (Zb) hb); (try clear hb); (try clear hb2); (try clear hk); (try clear hi); obtain ⟨Ao60, co60, eo60⟩ := Kd.N_slice HO_13.out; subst eo60) | (go_at_call 28; (with_reducible refine (Qai.calls k3 _ _ t822 _ _ l0 _ _ t808 _ _ t811 t815 T _ ?side1 ?side2 ?side3 ?side4 ?side5 ?side6 ?side7 ?side8 A55.out).mono ?_); (case side1 => exact Zv (Kd.N_reads' HO_13.out).2.2); (case side2 => exact (Kd.N_reads' HO_13.out).2.1); (case side3 => exact Zv (Kd.C_below HR0.out HB.out)); (case side4 => exact HC0.out); (case side5 => exact Zv (Kd.N_reads' HO_1.out).2.2); (case side6 => exact (Kd.N_reads' HO_1.out).2.1); (case side7 => exact Zv (Kd.R_reads' HO_7.out).2.2); (case side8 => exact (Kd.R_reads' HO_7.out).2.1); rintro e w61 ⟨rfl, hb⟩; replace HO_1 := Aside0.mk (Kd.N_below (by (with_reducible repeat (first | apply Kd.N_alloc | apply Kd.N_drewN | apply Kd.N_drew)); exact HO_1.out) hb); replace HO_7 := Aside0.mk (Kd.R_below (Zr HO_7.out) hb); replace HO_11 := Aside0.mk (Kd.N_below (by (with_reducible repeat (first | apply Kd.N_alloc | apply Kd.N_drewN | apply Kd.N_drew)); exact HO_11.out) hb); replace HO_13 := Aside0.mk (Kd.N_below (by (with_reducible repeat (first | apply Kd.N_alloc | apply Kd.N_drewN | apply Kd.N_drew)); exact HO_13.out) hb); replace HO_15 := Aside0.mk (Kd.R_below (Zr HO_15.out) hb); replace HO_16 := Aside0.mk (Kd.R_below (Zr HO_16.out) hb); replace HB := Aside0.mk (Qav (Zb) hb); (try clear hb); (try clear hb2); (try clear hk); (try clear hi)) | (go_at_call 22; (with_reducible refine (Qaz.calls k3  t844 _ A57.out).mono ?_); rintro e w62 ⟨rfl, hb⟩; replace HO_1 := Aside0.mk (Kd.N_below (by (with_reducible repeat (first | apply Kd.N_alloc | apply Kd.N_drewN | apply Kd.N_drew)); exact HO_1.out) hb); replace HO_7 := Aside0.mk (Kd.R_below (Zr HO_7.out) hb); replace HO_11 := Aside0.mk (Kd.N_below (by (with_reducible repeat (first | apply Kd.N_alloc | apply Kd.N_drewN | apply Kd.N_drew)); exact HO_11.out) hb); replace HO_13 := Aside0.mk (Kd.N_below (by (with_reducible repeat (first | apply Kd.N_alloc | apply Kd.N_drewN | apply Kd.N_drew)); exact HO_13.out) hb); replace HO_15 := Aside0.mk (Kd.R_below (Zr HO_15.out) hb); replace HO_16 := Aside0.mk (Kd.R_below (Zr HO_16.out) hb); replace HB := Aside0.mk (Qav (Zb) hb); (try clear hb); (try clear hb2); (try clear hk); (try clear hi))); try go_wp2_with (first | (go_at_call 28; (with_reducible refine (Qai.calls k3 _ _ t818 _ _ l0 _ _ t808 _ _ t811 t815 T _ ?side1 ?side2 ?side3 ?side4 ?side5 ?side6 ?side7 ?side8 A53.out).mono ?_); (case side1 => exact Zv (Kd.N_reads' HO_11.out).2.2); (case side2 => exact (Kd.N_reads' HO_11.out).2.1); (case side3 => exact Zv (Kd.C_below HR0.out HB.out)); (case side4 => exact HC0.out); (case side5 => exact Zv (Kd.N_reads' HO_1.out).2.2); (case side6 => exact (Kd.N_reads' HO_1.out).2.1); (case side7 => exact Zv (Kd.R_reads' HO_7.out).2.2); (case side8 => exact (Kd.R_reads' HO_7.out).2.1); rintro e w59 ⟨rfl, hb⟩; replace HO_1 := Aside0.mk (Kd.N_below (by (with_reducible repeat (first | apply Kd.N_alloc | apply Kd.N_drewN | apply Kd.N_drew)); exact HO_1.out) hb); replace HO_7 := Aside0.mk (Kd.R_below (Zr HO_7.out) hb); replace HO_11 := Aside0.mk (Kd.N_below (by (with_reducible repeat (first | apply Kd.N_alloc | apply Kd.N_drewN | apply Kd.N_drew)); exact HO_11.out) hb); replace HO_13 := Aside0.mk (Kd.N_below (by (with_reducible repeat (first | apply Kd.N_alloc | apply Kd.N_drewN | apply Kd.N_drew)); exact HO_13.out) hb); replace HO_15 := Aside0.mk (Kd.R_below (Zr HO_15.out) hb); replace HO_16 := Aside0.mk (Kd.R_below (Zr HO_16.out) hb); replace HB := Aside0.mk (Qav (Zb) hb); (try clear hb); (try clear hb2); (try clear hk); (try clear hi); obtain ⟨Ao60, co60, eo60⟩ := Kd.N_slice HO_13.out; subst eo60) | (go_at_call 28; (with_reducible refine (Qai.calls k3 _ _ t822 _ _ l0 _ _ t808 _ _ t811 t815 T _ ?side1 ?side2 ?side3 ?side4 ?side5 ?side6 ?side7 ?side8 A55.out).mono ?_); (case side1 => exact Zv (Kd.N_reads' HO_13.out).2.2); (case side2 => exact (Kd.N_reads' HO_13.out).2.1); (case side3 => exact Zv (Kd.C_below HR0.out HB.out)); (case side4 => exact HC0.out); (case side5 => exact Zv (Kd.N_reads' HO_1.out).2.2); (case side6 => exact (Kd.N_reads' HO_1.out).2.1); (case side7 => exact Zv (Kd.R_reads' HO_7.out).2.2); (case side8 => exact (Kd.R_reads' HO_7.out).2.1); rintro e w61 ⟨rfl, hb⟩; replace HO_1 := Aside0.mk (Kd.N_below (by (with_reducible repeat (first | apply Kd.N_alloc | apply Kd.N_drewN | apply Kd.N_drew)); exact HO_1.out) hb); replace HO_7 := Aside0.mk (Kd.R_below (Zr HO_7.out) hb); replace HO_11 := Aside0.mk (Kd.N_below (by (with_reducible repeat (first | apply Kd.N_alloc | apply Kd.N_drewN | apply Kd.N_drew)); exact HO_11.out) hb); replace HO_13 := Aside0.mk (Kd.N_below (by (with_reducible repeat (first | apply Kd.N_alloc | apply Kd.N_drewN | apply Kd.N_drew)); exact HO_13.out) hb); replace HO_15 := Aside0.mk (Kd.R_below (Zr HO_15.out) hb); replace HO_16 := Aside0.mk (Kd.R_below (Zr HO_16.out) hb); replace HB := Aside0.mk (Qav (Zb) hb); (try clear hb); (try clear hb2); (try clear hk); (try clear hi)) | (go_at_call 22; (with_reducible refine (Qaz.calls k3  t844 _ A57.out).mono ?_); rintro e w62 ⟨rfl, hb⟩; replace HO_1 := Aside0.mk (Kd.N_below (by (with_reducible repeat (first | apply Kd.N_alloc | apply Kd.N_drewN | apply Kd.N_drew)); exact HO_1.out) hb); replace HO_7 := Aside0.mk (Kd.R_below (Zr HO_7.out) hb); replace HO_11 := Aside0.mk (Kd.N_below (by (with_reducible repeat (first | apply Kd.N_alloc | apply Kd.N_drewN | apply Kd.N_drew)); exact HO_11.out) hb); replace HO_13 := Aside0.mk (Kd.N_below (by (with_reducible repeat (first | apply Kd.N_alloc | apply Kd.N_drewN | apply Kd.N_drew)); exact HO_13.out) hb); replace HO_15 := Aside0.mk (Kd.R_below (Zr HO_15.out) hb); replace HO_16 := Aside0.mk (Kd.R_below (Zr HO_16.out) hb); replace HB := Aside0.mk (Qav (Zb) hb); (try clear hb); (try clear hb2); (try clear hk); (try clear hi))))
           go_ret
           exact ⟨Zq, Zb⟩
          replace c56 := Bool.eq_false_iff.mpr c56
          subst c56
          have H1 : (none) = some r := by rw [if_neg (show ¬ (F = T) by decide)] at H; exact H
          clear H
          have H := H1
          clear H1
          exact absurd H (by simp)
         replace c54 := Bool.eq_false_iff.mpr c54
         subst c54
         have H1 : (none) = some r := by rw [if_neg (show ¬ (F = T) by decide)] at H; exact H
         clear H
         have H := H1
         clear H1
         exact absurd H (by simp)
        rw [if_neg c52] at H
        exact absurd H (by simp)
 replace c6 := Bool.eq_false_iff.mpr c6
 subst c6
 have H1 : ((Qaz.f k).bind fun t807 => (some t807)) = some r := by rw [if_neg (show ¬ (F = T) by decide)] at H; exact H
 clear H
 have H := H1
 clear H1
 replace H := Option.bind_eq_some_iff.mp H
 obtain ⟨t807, A630, H⟩ := H
 replace H : (some t807) = some r := H
 have A63 := Aside0.mk A630
 clear A630
 obtain rfl := Option.some.inj H
 go_wp2_with (first | (go_at_call 22; (with_reducible refine (Qaz.calls k  t807 _ A63.out).mono ?_); rintro e w64 ⟨rfl, hb⟩; replace HB := Aside0.mk (Qav (Zb) hb); (try clear hb); (try clear hb2); (try clear hk); (try clear hi)))
 repeat (go_quiet (first | (go_at_call 22; (with_reducible refine (Qaz.calls k  t807 _ A63.out).mono ?_); rintro e w64 ⟨rfl, hb⟩; replace HB := Aside0.mk (Qav (Zb) hb); (try clear hb); (try clear hb2); (try clear hk); (try clear hi))); try go_wp2_with (first | (go_at_call 22; (with_reducible refine (Qaz.calls k  t807 _ A63.out).mono ?_); rintro e w64 ⟨rfl, hb⟩; replace HB := Aside0.mk (Qav (Zb) hb); (try clear hb); (try clear hb2); (try clear hk); (try clear hi))))
 go_ret
 exact ⟨Zq, Zb⟩
end Go.Proofs.Ytgnmhfjfefgbfaa.Pr
