/- Functions' values and contracts, as the print wrote them. -/
import Derived.Test.YtfcaaefdmabkhaaQ2F0P0
import Derived.Test.YtfcaaefdmabkhaaQ2F0P2
import Derived.Test.YtfcaaefdmabkhaaQ2F0P3
import Derived.Test.YtfcaaefdmabkhaaQ2F0P6
import Derived.Test.YtfcaaefdmabkhaaQ2F0P7
import Derived.Test.YtfcaaefdmabkhaaQ2F0P5
namespace Go.Proofs.Ytfcaaefdmabkhaa.Pr
open Bool renaming true → T
open Bool renaming false → F
open Go.RowKit Go.Proofs.YtfcaaefdmabkhaaW.PrintWords Go.Proofs.YtfcaaefdmabkhaaW.PrintLast Go.Proofs.YtfcaaefdmabkhaaW.PrintMore
attribute [local go_sem] QaU QaW Qa3 Qa4 QaN QaO QaV QaX   -- for this text's walks alone
set_option linter.unusedVariables false
set_option linter.unusedSimpArgs false
set_option maxRecDepth 100000
set_option maxHeartbeats 8000000
mutual
def Qav.j0 : Nat → List (S46) → Int → List (S84) → List (S98) → Bool → ByteArray → ByteArray → Option (List Int × Int)
 | 0, _, _, _, _, _, _, _ => none
 | k + 1, x0, x2, x3, x4, x39, x432000, x432001 => if x39 = T then (some (([] : List Int), 2)) else ((QaM.f k x0 x432000 x432001).bind fun t434 => (Qav.l0 k x2 x3 x4 ([] : List Int) t434 0))
def Qav.l0 : Nat → Int → List (S84) → List (S98) → List Int → List (S46) → Int → Option (List Int × Int)
 | 0, _, _, _, _, _, _ => none
 | k + 1, x2, x3, x4, x14, x15, x16 => if x16 < (x15.length : Int) then (if 0 ≤ x16 then ((QaH.f k x3 ((rd_T46 x15 x16).f1)).bind fun bt438 => ((Qa9.f k bt438.1 bt438.2.1 bt438.2.2.1 bt438.2.2.2.1 bt438.2.2.2.2.1 bt438.2.2.2.2.2.1 ((rd_T46 x15 x16).f2) x4).bind fun bt447 => ((Qbb.f x2 bt438.2.2.2.2.2.1 1000 3).bind fun bt449 => (if bt447.1 > bt449.1 then (if x14.length < 17592186044416 then (Qav.l0 k x2 x3 x4 (x14 ++ [bt449.1]) x15 (wrap64 (x16 + 1))) else (none)) else (if x14.length < 17592186044416 then (Qav.l0 k x2 x3 x4 (x14 ++ [bt447.1]) x15 (wrap64 (x16 + 1))) else (none)))))) else (none)) else (some (x14, 0))
end
def Qav.f (k : Nat) (l0 : List (S46)) (a1_0 : ByteArray) (a1_1 : ByteArray) (a2 : Int) (l3 : List (S84)) (l4 : List (S98)) : Option (List Int × Int) := (QaB.f k l0 a1_0 a1_1 l3 l4).bind fun bt432 => (if bt432.2 = 0 then (if a2 < 0 then (Qav.j0 k l0 a2 l3 l4 T a1_0 a1_1) else (Qav.j0 k l0 a2 l3 l4 (decide (a2 > 1152921504606846976)) a1_0 a1_1)) else (some (([] : List Int), bt432.2)))
theorem Qav.mono_l : ∀ k, (∀ y0 y1 y2 y3 y4 y5 y6, LeO (Qav.j0 k y0 y1 y2 y3 y4 y5 y6) (Qav.j0 (k + 1) y0 y1 y2 y3 y4 y5 y6)) ∧ (∀ y0 y1 y2 y3 y4 y5, LeO (Qav.l0 k y0 y1 y2 y3 y4 y5) (Qav.l0 (k + 1) y0 y1 y2 y3 y4 y5))
 | 0 => ⟨fun _ _ _ _ _ _ _ r h => by simp [Qav.j0] at h, fun _ _ _ _ _ _ r h => by simp [Qav.l0] at h⟩
 | k + 1 => by
  obtain ⟨ih0, ih1⟩ := Qav.mono_l k
  refine ⟨?_, ?_⟩
  ·intro y0 y1 y2 y3 y4 y5 y6
   unfold Qav.j0
   exact ZM6 ih0 ih1 QaH.mono Qa9.mono QaM.mono QaB.mono
  intro y0 y1 y2 y3 y4 y5
  unfold Qav.l0
  exact ZM6 ih0 ih1 QaH.mono Qa9.mono QaM.mono QaB.mono
theorem Qav.mono : ∀ a0 a1 a2 a3 a4 a5 k, LeO (Qav.f k a0 a1 a2 a3 a4 a5) (Qav.f (k + 1) a0 a1 a2 a3 a4 a5) := by
 intro a0 a1 a2 a3 a4 a5 k
 obtain ⟨ih0, ih1⟩ := Qav.mono_l k
 unfold Qav.f
 exact ZM6 ih0 ih1 QaH.mono Qa9.mono QaM.mono QaB.mono
def Qav.T12 : Bool × List (List Nat × List Nat) := (T, [([], []), ([], []), ([], []), ([1, 2], [1, 2]), ([3], [3]), ([4], [4]), ([], []), ([0, 5, 6], [0, 5, 6]), ([7], [7]), ([8], [8]), ([8], [8]), ([9, 7, 0, 1, 2, 3, 4, 5, 6, 7, 8, 9], [9]), ([10, 11, 0, 1, 2, 3, 4, 5, 6, 7, 8, 9, 10, 11], [10])])
def Qav.B12 : List Nat := [0, 0, 0, 6, 14, 30, 0, 127, 255, 511, 511, 1023, 4095]
theorem Qav.tab12 : rtab .any (opsOf Try.f29 12) = Qav.T12 := by kernel_rfl
theorem Qav.bits12 : Qb3 Qav.T12.2 Qav.B12 = T := by kernel_rfl
theorem Qav.calls (k : Nat) (A0 : Option Addr) (c0 : Nat) (l0 : List (S46)) (a1_0 : ByteArray) (a1_1 : ByteArray) (a2 : Int) (A3 : Option Addr) (c3 : Nat) (l3 : List (S84)) (A4 : Option Addr) (c4 : Nat) (l4 : List (S98)) (r1 : List Int) (r2 : Int) (w : World) (hr0 : Kd.C k46 w A0 l0.length l0) (hc0 : l0.length ≤ c0) (hr3 : Kd.C k84 w A3 l3.length l3) (hc3 : l3.length ≤ c3) (hr4 : Kd.C k98 w A4 l4.length l4) (hc4 : l4.length ≤ c4) (h : Qav.f k l0 a1_0 a1_1 a2 l3 l4 = some (r1, r2)) :
  Calls Try.prog 29 #[.slice A0 l0.length c0, .agg #[.string a1_0, .string a1_1], .int .i64 a2, .slice A3 l3.length c3, .slice A4 l4.length c4] w fun e w' => ∃ v0_ : Value, e = .returned (.tuple #[v0_, .int .i64 r2]) ∧ Kd.R (Kd.int .i64) 3 w' w.heap.size (fun _ => True) v0_ r1 ∧ Below w.heap.size w w' := by
 have hu44 := Try.underlying44
 have hu84 := Try.underlying84
 have HR0 := Aside0.mk hr0
 have HC0 := Aside0.mk hc0
 clear hr0 hc0
 have HR3 := Aside0.mk hr3
 have HC3 := Aside0.mk hc3
 clear hr3 hc3
 have HR4 := Aside0.mk hr4
 have HC4 := Aside0.mk hc4
 clear hr4 hc4
 have HB := Aside0.mk (Below.refl w.heap.size w)
 have H : ((QaB.f k l0 a1_0 a1_1 l3 l4).bind fun bt432 => (if bt432.2 = 0 then (if a2 < 0 then (Qav.j0 k l0 a2 l3 l4 T a1_0 a1_1) else (Qav.j0 k l0 a2 l3 l4 (decide (a2 > 1152921504606846976)) a1_0 a1_1)) else (some (([] : List Int), bt432.2)))) = some (r1, r2) := h
 clear h
 replace H := Option.bind_eq_some_iff.mp H
 obtain ⟨⟨t432, t433⟩, A60, H⟩ := H
 replace H : (if t433 = 0 then (if a2 < 0 then (Qav.j0 k l0 a2 l3 l4 T a1_0 a1_1) else (Qav.j0 k l0 a2 l3 l4 (decide (a2 > 1152921504606846976)) a1_0 a1_1)) else (some (([] : List Int), t433))) = some (r1, r2) := H
 have A6 := Aside0.mk A60
 clear A60
 go_enter Try.func29, Try.ntmps29
 go_upto_if 32 with (first | ((with_reducible refine QaK (N := 6) rfl ?_); refine Zbx (N := 6) (cs := #[.string a1_0, .string a1_1]) (t := 44) ?_; intro gb431 hg w7 hbox hb; have BK431 := Aside0.mk (hbox); have GW431 := Aside0.mk (Zt w hg (Zb)); have GE431 := GW431; replace HB := Aside0.mk (Qan (Zb) hb); clear hb hbox hg; obtain ⟨hcz8_0, hfz8_0⟩ := Zy (v := (.string a1_0)) BK431.out 0; obtain ⟨hcz8_1, hfz8_1⟩ := Zy (v := (.string a1_1)) BK431.out 1) | ((with_reducible refine Qax (f := 37) rfl ?_); refine goesL_ (some 28) rfl rfl Try.func37 (by kernel_rfl) rfl #[.slice A0 l0.length c0, .agg #[.string a1_0, .string a1_1], .slice A3 l3.length c3, .slice A4 l4.length c4] rfl (Zl) ?_; (with_reducible refine (QaB.calls k _ _ l0 a1_0 a1_1 _ _ l3 _ _ l4 t432 t433 _ ?side1 ?side2 ?side3 ?side4 ?side5 ?side6 A6.out).mono ?_); (case side1 => exact Zv (Kd.C_below HR0.out HB.out)); (case side2 => exact HC0.out); (case side3 => exact Zv (Kd.C_below HR3.out HB.out)); (case side4 => exact HC3.out); (case side5 => exact Zv (Kd.C_below HR4.out HB.out)); (case side6 => exact HC4.out); rintro e w9 ⟨rfl, hb⟩; refine ⟨_, rfl, ?_⟩; replace BK431 := Aside0.mk (Zi BK431.out hb); replace HB := Aside0.mk (Qan (Zc1 GE431.out) hb); (try clear hb); (try clear hb2); (try clear hk); (try clear hi)))
 (try simp only [Act.put, Zj, Zk, Zm])
 by_cases c10 : t433 = 0
 ·rw [if_pos c10] at H
  have c10b0 : (t433 == 0) = T := beq_iff_eq.mpr c10
  have c10b1 : (t433 != 0) = F := bne_eq_false_iff_eq.mpr c10
  clear c10
  (try simp only [c10b0, c10b1])
  have HC11 := Aside0.mk H
  clear H
  go_upto_region 4 with (fail)
  go_cut [39] (fun v39 wc => ∃ (kq : Nat) (x39_10 : Bool), v39 = .bool x39_10 ∧ Aside0 (Qav.j0 kq l0 a2 l3 l4 x39_10 a1_0 a1_1 = some (r1, r2)) ∧ Aside0 (kq ≤ k) ∧ Aside0 (wc.heap[gb431]? = some (.cells #[.string a1_0, .string a1_1] 44 (0, 0))) ∧ Aside0 (Below w.heap.size w wc))
  case first =>
   have H := HC11.out
   clear HC11
   by_cases c12 : a2 < 0
   ·rw [if_pos c12] at H
    have c12b0 : decide (a2 < 0) = T := decide_eq_true c12
    clear c12
    have H' := Aside0.mk H
    clear H
    go_wp2
    go_meet
    case rel => exact ⟨_, (T), (Zs), H', ⟨by first | omega | exact Nat.le_refl _⟩, ⟨Zu BK431.out⟩, ⟨Zc1 GE431.out⟩⟩
   rw [if_neg c12] at H
   have c12b0 : decide (a2 < 0) = F := decide_eq_false c12
   clear c12
   have H' := Aside0.mk H
   clear H
   go_wp2
   go_meet
   case rel => exact ⟨_, (decide (a2 > 1152921504606846976)), (Zs), H', ⟨by first | omega | exact Nat.le_refl _⟩, ⟨Zu BK431.out⟩, ⟨Zc1 GE431.out⟩⟩
  case rest =>
   clear HC11
   try clear c1
   try clear c2
   try clear p2
   try clear c3
   try clear c4
   try clear c10
   try clear c10b0
   try clear c10b1
   try clear c12
   try clear c12b0
   try clear hcz8_0
   try clear hcz8_1
   try clear hfz8_0
   try clear hfz8_1
   obtain ⟨kq, x39_10, rfl, HA, HJ10, BK431, HB⟩ := hcut
   cases kq with
   | zero => exact absurd HA.out (by simp [Qav.j0])
   | succ kj10 =>
    have H := HA.out
    clear HA
    simp only [Qav.j0] at H
    by_cases c13 : x39_10 = T
    ·subst c13
     have H1 : (some (([] : List Int), 2)) = some (r1, r2) := by rw [if_pos rfl] at H; exact H
     clear H
     have H := H1
     clear H1
     simp only [Option.some.injEq, Prod.mk.injEq] at H
     obtain ⟨rfl, rfl⟩ := H
     go_wp2
     go_ret2
     exact ⟨_, Zq, by first | exact Kd.R_nil _ _ _ _ _ | exact Kd.N_nil _ _ _ _ _ | exact Kd.V_nil _ _ _ _ _ | exact Kd.Q_nil _ _ _ _ _ | exact Kd.S_nil _ _ _ _ _, Zc1 GE431.out⟩
    replace c13 := Bool.eq_false_iff.mpr c13
    subst c13
    have H1 : ((QaM.f kj10 l0 a1_0 a1_1).bind fun t434 => (Qav.l0 kj10 a2 l3 l4 ([] : List Int) t434 0)) = some (r1, r2) := by rw [if_neg (show ¬ (F = T) by decide)] at H; exact H
    clear H
    have H := H1
    clear H1
    replace H := Option.bind_eq_some_iff.mp H
    obtain ⟨t434, A140, H⟩ := H
    replace H : (Qav.l0 kj10 a2 l3 l4 ([] : List Int) t434 0) = some (r1, r2) := H
    have A14 := Aside0.mk A140
    clear A140
    have H' := Aside0.mk H
    clear H
    obtain ⟨hcz15_0, hfz15_0⟩ := Zy (v := (.string a1_0)) BK431.out 0
    obtain ⟨hcz15_1, hfz15_1⟩ := Zy (v := (.string a1_1)) BK431.out 1
    go_wp2_with (first | ((with_reducible refine Qax (f := 40) rfl ?_); refine goesL_ (some 42) rfl rfl Try.func40 (by kernel_rfl) rfl #[.slice A0 l0.length c0, .agg #[.string a1_0, .string a1_1]] rfl (Zl) ?_; (with_reducible refine (QaM.calls kj10 _ _ l0 a1_0 a1_1 t434 _ ?side1 ?side2 A14.out).mono ?_); (case side1 => exact Zv (Kd.C_below HR0.out HB.out)); (case side2 => exact HC0.out); rintro e w16 ⟨v435, rfl, ho0, hb⟩; refine ⟨_, rfl, ?_⟩; have HO436 := Aside0.mk (Kd.R_lower ho0 (Qam (Zc1 GE431.out))); replace BK431 := Aside0.mk (Zi BK431.out hb); replace HB := Aside0.mk (Qan (Zc1 GE431.out) hb); (try clear hb); (try clear hb2); (try clear hk); (try clear hi); (try clear ho0)))
    go_loopg [14, 16] kj10 (fun kq v14 v16 w' => ∃ (x14_2 : List Int) (x16_2 : Int), v16 = .int .i64 x16_2 ∧ Aside0 (Qav.l0 kq a2 l3 l4 x14_2 t434 x16_2 = some (r1, r2)) ∧ Aside0 (kq ≤ kj10) ∧ Aside0 (Kd.R (Kd.int .i64) 3 w' w.heap.size (fun _ => True) v14 x14_2) ∧ Aside0 (Kd.R k46 46 w' w.heap.size (fun _ => True) v435 t434) ∧ Aside0 (w'.heap[gb431]? = some (.cells #[.string a1_0, .string a1_1] 44 (0, 0))) ∧ Aside0 (Below w.heap.size w w'))
    case atStart => exact ⟨(([] : List Int)), (0), (Zs), H', ⟨Nat.le_refl _⟩, ⟨by first | exact Kd.R_nil _ _ _ _ _ | exact Kd.N_nil _ _ _ _ _ | exact Kd.V_nil _ _ _ _ _ | exact Kd.Q_nil _ _ _ _ _ | exact Kd.S_nil _ _ _ _ _⟩, ⟨Zr HO436.out⟩, ⟨Zu BK431.out⟩, ⟨Zc1 GE431.out⟩⟩
    case round =>
     clear H'
     try clear c1
     try clear c2
     try clear p2
     try clear c3
     try clear c4
     try clear c10
     try clear c10b0
     try clear c10b1
     try clear c12
     try clear c12b0
     try clear c13
     try clear hcz15_0
     try clear hcz15_1
     try clear hcz8_0
     try clear hcz8_1
     try clear hfz15_0
     try clear hfz15_1
     try clear hfz8_0
     try clear hfz8_1
     try clear p2
     obtain ⟨x14_2, x16_2, rfl, HA, HK2, HO_14, HO_15, BK431, HB⟩ := hrel
     cases gk with
     | zero => exact absurd HA.out (by simp [Qav.l0])
     | succ k2 =>
      have H := HA.out
      clear HA
      simp only [Qav.l0] at H
      obtain ⟨Ao17, co17, eo17⟩ := Kd.R_slice HO_15.out
      subst eo17
      go_upto_if 46 with (fail)
      by_cases c18 : x16_2 < (t434.length : Int)
      ·rw [if_pos c18] at H
       have c18b0 : decide (x16_2 < (t434.length : Int)) = T := decide_eq_true c18
       clear c18
       (try simp only [c18b0])
       by_cases c19 : 0 ≤ x16_2
       ·rw [if_pos c19] at H
        have c19b0 : decide (0 ≤ x16_2) = T := decide_eq_true c19
        clear c19
        replace H := Option.bind_eq_some_iff.mp H
        obtain ⟨⟨t438, t439, t440, t441, t442, t443, t444⟩, A200, H⟩ := H
        replace H : ((Qa9.f k2 t438 t439 t440 t441 t442 t443 ((rd_T46 t434 x16_2).f2) l4).bind fun bt447 => ((Qbb.f a2 t443 1000 3).bind fun bt449 => (if bt447.1 > bt449.1 then (if x14_2.length < 17592186044416 then (Qav.l0 k2 a2 l3 l4 (x14_2 ++ [bt449.1]) t434 (wrap64 (x16_2 + 1))) else (none)) else (if x14_2.length < 17592186044416 then (Qav.l0 k2 a2 l3 l4 (x14_2 ++ [bt447.1]) t434 (wrap64 (x16_2 + 1))) else (none))))) = some (r1, r2) := H
        have A20 := Aside0.mk A200
        clear A200
        replace H := Option.bind_eq_some_iff.mp H
        obtain ⟨⟨t447, t448⟩, A210, H⟩ := H
        replace H : ((Qbb.f a2 t443 1000 3).bind fun bt449 => (if t447 > bt449.1 then (if x14_2.length < 17592186044416 then (Qav.l0 k2 a2 l3 l4 (x14_2 ++ [bt449.1]) t434 (wrap64 (x16_2 + 1))) else (none)) else (if x14_2.length < 17592186044416 then (Qav.l0 k2 a2 l3 l4 (x14_2 ++ [t447]) t434 (wrap64 (x16_2 + 1))) else (none)))) = some (r1, r2) := H
        have A21 := Aside0.mk A210
        clear A210
        replace H := Option.bind_eq_some_iff.mp H
        obtain ⟨⟨t449, t450⟩, A220, H⟩ := H
        replace H : (if t447 > t449 then (if x14_2.length < 17592186044416 then (Qav.l0 k2 a2 l3 l4 (x14_2 ++ [t449]) t434 (wrap64 (x16_2 + 1))) else (none)) else (if x14_2.length < 17592186044416 then (Qav.l0 k2 a2 l3 l4 (x14_2 ++ [t447]) t434 (wrap64 (x16_2 + 1))) else (none))) = some (r1, r2) := H
        have A22 := Aside0.mk A220
        clear A220
        have p437 : 0 ≤ (x16_2 : Int) := Ze
        have q437 : x16_2 < (t434.length : Int) := Ze
        obtain ⟨ad437, e437, hx437_0, hx437_1, hx437_2, hx437_3⟩ := at_T46 (Kd.R_reads' HO_15.out).2.2 x16_2 p437 q437
        cases e437
        replace p437 := eq_true p437
        replace q437 := eq_true q437
        try go_wp2_with (first | ((with_reducible refine Qax (f := 41) rfl ?_); refine goesL_ (some 56) rfl rfl Try.func41 (by kernel_rfl) rfl #[.slice A3 l3.length c3, .string ((rd_T46 t434 x16_2).f1)] rfl (Zl) ?_; (with_reducible refine (QaH.calls k2 _ _ l3 ((rd_T46 t434 x16_2).f1) t438 t439 t440 t441 t442 t443 t444 _ ?side1 ?side2 A20.out).mono ?_); (case side1 => exact Zv (Kd.C_below HR3.out HB.out)); (case side2 => exact HC3.out); rintro e w23 ⟨rfl, hb⟩; refine ⟨_, rfl, ?_⟩; replace HO_14 := Aside0.mk (Kd.R_below (Zr HO_14.out) hb); replace HO_15 := Aside0.mk (Kd.R_below (Zr HO_15.out) hb); replace BK431 := Aside0.mk (Zi BK431.out hb); replace HB := Aside0.mk (Qan (Zc1 GE431.out) hb); (try clear hb); (try clear hb2); (try clear hk); (try clear hi)) | ((with_reducible refine QaK (N := 17) rfl ?_); refine Zbx (N := 17) (cs := #[.string (⟨#[]⟩ : ByteArray), .int .i64 0, .int .i64 0, .int .i64 0, .int .i64 0, .int .i64 0]) (t := 84) ?_; intro gb445 hg w24 hbox hb; have BK445 := Aside0.mk (hbox); have GW445 := Aside0.mk (Zt w hg (Zc1 GE431.out)); have GE445 := GW445; have NB431_445 := Aside0.mk (Zn hg BK431.out); have NB445_431 := Aside0.mk NB431_445.out.symm; replace HO_14 := Aside0.mk (Kd.R_below (Zr HO_14.out) hb); replace HO_15 := Aside0.mk (Kd.R_below (Zr HO_15.out) hb); replace BK431 := Aside0.mk (Zi BK431.out hb); replace HB := Aside0.mk (Qan (Zc1 GE431.out) hb); clear hb hbox hg; have hnb25 := NB445_431.out; have hnc25 := NB431_445.out; obtain ⟨hcz26_0, hfz26_0⟩ := Zy (v := (.string (⟨#[]⟩ : ByteArray))) BK445.out 0; obtain ⟨hcz26_1, hfz26_1⟩ := Zy (v := (.int .i64 0)) BK445.out 1; obtain ⟨hcz26_2, hfz26_2⟩ := Zy (v := (.int .i64 0)) BK445.out 2; obtain ⟨hcz26_3, hfz26_3⟩ := Zy (v := (.int .i64 0)) BK445.out 3; obtain ⟨hcz26_4, hfz26_4⟩ := Zy (v := (.int .i64 0)) BK445.out 4; obtain ⟨hcz26_5, hfz26_5⟩ := Zy (v := (.int .i64 0)) BK445.out 5))
        have n0_ : Aside0 (Kd.R (Kd.int .i64) 3 ((((((w24.setCell ⟨gb445, 0, none⟩ (.string t438)).setCell ⟨gb445, 1, none⟩ (.int .i64 t439)).setCell ⟨gb445, 2, none⟩ (.int .i64 t440)).setCell ⟨gb445, 3, none⟩ (.int .i64 t441)).setCell ⟨gb445, 4, none⟩ (.int .i64 t442)).setCell ⟨gb445, 5, none⟩ (.int .i64 t443)) w.heap.size (fun _ => True) u14 x14_2) := ⟨by (with_reducible repeat (first | apply Kd.R_alloc | apply Kd.R_drewN | apply Kd.R_drew)); exact Kd.R_mono (Zf gb445 5 (Zf gb445 4 (Zf gb445 3 (Zf gb445 2 (Zf gb445 1 (Zf gb445 0 (Kd.R_types HO_14.out BK445.out (by decide)) (.string t438)) (.int .i64 t439)) (.int .i64 t440)) (.int .i64 t441)) (.int .i64 t442)) (.int .i64 t443)) (fun _ hk => trivial)⟩
        have n1_ : Aside0 (Kd.R k46 46 ((((((w24.setCell ⟨gb445, 0, none⟩ (.string t438)).setCell ⟨gb445, 1, none⟩ (.int .i64 t439)).setCell ⟨gb445, 2, none⟩ (.int .i64 t440)).setCell ⟨gb445, 3, none⟩ (.int .i64 t441)).setCell ⟨gb445, 4, none⟩ (.int .i64 t442)).setCell ⟨gb445, 5, none⟩ (.int .i64 t443)) w.heap.size (fun _ => True) (.slice (some ad437) t434.length co17) t434) := ⟨by (with_reducible repeat (first | apply Kd.R_alloc | apply Kd.R_drewN | apply Kd.R_drew)); exact Kd.R_mono (Zf gb445 5 (Zf gb445 4 (Zf gb445 3 (Zf gb445 2 (Zf gb445 1 (Zf gb445 0 (Kd.R_types HO_15.out BK445.out (by decide)) (.string t438)) (.int .i64 t439)) (.int .i64 t440)) (.int .i64 t441)) (.int .i64 t442)) (.int .i64 t443)) (fun _ hk => trivial)⟩
        have n2_ : Aside0 (((((((w24.setCell ⟨gb445, 0, none⟩ (.string t438)).setCell ⟨gb445, 1, none⟩ (.int .i64 t439)).setCell ⟨gb445, 2, none⟩ (.int .i64 t440)).setCell ⟨gb445, 3, none⟩ (.int .i64 t441)).setCell ⟨gb445, 4, none⟩ (.int .i64 t442)).setCell ⟨gb445, 5, none⟩ (.int .i64 t443)).heap[gb431]? = some (.cells #[.string a1_0, .string a1_1] 44 (0, 0))) := ⟨Zg6 BK431.out NB431_445.out NB431_445.out NB431_445.out NB431_445.out NB431_445.out NB431_445.out⟩
        have n3_ : Aside0 (((((((w24.setCell ⟨gb445, 0, none⟩ (.string t438)).setCell ⟨gb445, 1, none⟩ (.int .i64 t439)).setCell ⟨gb445, 2, none⟩ (.int .i64 t440)).setCell ⟨gb445, 3, none⟩ (.int .i64 t441)).setCell ⟨gb445, 4, none⟩ (.int .i64 t442)).setCell ⟨gb445, 5, none⟩ (.int .i64 t443)).heap[gb445]? = some (.cells #[.string t438, .int .i64 t439, .int .i64 t440, .int .i64 t441, .int .i64 t442, .int .i64 t443] 84 (0, 0))) := ⟨Zp2 BK445.out⟩
        have n4_ : Aside0 (Below w.heap.size w ((((((w24.setCell ⟨gb445, 0, none⟩ (.string t438)).setCell ⟨gb445, 1, none⟩ (.int .i64 t439)).setCell ⟨gb445, 2, none⟩ (.int .i64 t440)).setCell ⟨gb445, 3, none⟩ (.int .i64 t441)).setCell ⟨gb445, 4, none⟩ (.int .i64 t442)).setCell ⟨gb445, 5, none⟩ (.int .i64 t443))) := ⟨Zc2 GE431.out GE445.out⟩
        (try clear HO_14)
        (try clear HO_15)
        (try clear BK431)
        (try clear BK445)
        (try clear HB)
        generalize ((((((w24.setCell ⟨gb445, 0, none⟩ (.string t438)).setCell ⟨gb445, 1, none⟩ (.int .i64 t439)).setCell ⟨gb445, 2, none⟩ (.int .i64 t440)).setCell ⟨gb445, 3, none⟩ (.int .i64 t441)).setCell ⟨gb445, 4, none⟩ (.int .i64 t442)).setCell ⟨gb445, 5, none⟩ (.int .i64 t443)) = w27 at n0_ n1_ n2_ n3_ n4_ ⊢
        have HO_14 := n0_
        have HO_15 := n1_
        have BK431 := n2_
        have BK445 := n3_
        have HB := n4_
        clear n0_ n1_ n2_ n3_ n4_
        replace HO_14 := Aside0.mk (Kd.R_drew HO_14.out)
        replace HO_15 := Aside0.mk (Kd.R_drew HO_15.out)
        replace BK431 := Aside0.mk (Qad BK431.out)
        replace BK445 := Aside0.mk (Qad BK445.out)
        replace HB := Aside0.mk (Qaf HB.out)
        have p446 : 0 ≤ (x16_2 : Int) := Ze
        have q446 : x16_2 < (t434.length : Int) := Ze
        obtain ⟨ad446, e446, hx446_0, hx446_1, hx446_2, hx446_3⟩ := at_T46 (Kd.R_reads' HO_15.out).2.2 x16_2 p446 q446
        obtain rfl : ad437 = ad446 := (by injection e446)
        replace p446 := eq_true p446
        replace q446 := eq_true q446
        refine start_ (n := 13) (S := fun w' => w'.cell? ⟨gb445, 0, none⟩ = some (.string t438) ∧ w'.cell? ⟨gb445, 1, none⟩ = some (.int .i64 t439) ∧ w'.cell? ⟨gb445, 2, none⟩ = some (.int .i64 t440) ∧ w'.cell? ⟨gb445, 3, none⟩ = some (.int .i64 t441) ∧ w'.cell? ⟨gb445, 4, none⟩ = some (.int .i64 t442) ∧ w'.cell? ⟨gb445, 5, none⟩ = some (.int .i64 t443) ∧ w'.cell? (ad437.add ((x16_2).toNat * 4)) = some (.string ((rd_T46 t434 x16_2).f0.f0)) ∧ w'.cell? ⟨(ad437.add ((x16_2).toNat * 4)).block, (ad437.add ((x16_2).toNat * 4)).off + 1, none⟩ = some (.string ((rd_T46 t434 x16_2).f0.f1)) ∧ w'.cell? ⟨(ad437.add ((x16_2).toNat * 4)).block, (ad437.add ((x16_2).toNat * 4)).off + 2, none⟩ = some (.string ((rd_T46 t434 x16_2).f1)) ∧ w'.cell? ⟨(ad437.add ((x16_2).toNat * 4)).block, (ad437.add ((x16_2).toNat * 4)).off + 3, none⟩ = some (.int .i64 ((rd_T46 t434 x16_2).f2))) (ds := []) #[F, F, F, F, F, F, F, F, F, F, F, F, F] (by kernel_rfl) rfl rfl ⟨(Qai BK445.out 0).trans rfl, (Qai BK445.out 1).trans rfl, (Qai BK445.out 2).trans rfl, (Qai BK445.out 3).trans rfl, (Qai BK445.out 4).trans rfl, (Qai BK445.out 5).trans rfl, hx446_0, hx446_1, hx446_2, hx446_3⟩ (fun hHeld => ?_); refine Qb0 Qav.tab12 Qav.bits12 (fun HT_ HW_ => ?_)
        generalize w27.drew = w28 at HO_14 HO_15 BK431 BK445 HB hx446_0 hx446_1 hx446_2 hx446_3 hHeld ⊢
        refine pure_ (i := 1) (N := some 61) (v := ?_) (a' := ?_) #[F, T, F, F, F, F, F, F, F, F, F, F, F] rfl rfl (any_of HT_.out (by kernel_rfl)) (fun _ _ _ h => h) (Or.inl ⟨by rfl, ?_⟩) ?_ ?_
        rotate_left
        ·intro w'
         go_simp
         with_reducible rfl
        rotate_left
        ·simp only [Act.put, Zj, Zk, Zm, i64_w, i32_w]
         rfl
        refine pure_ (i := 2) (N := some 62) (v := ?_) (a' := ?_) #[F, T, T, F, F, F, F, F, F, F, F, F, F] rfl rfl (any_of HT_.out (by kernel_rfl)) (fun _ _ _ h => h) (Or.inl ⟨by rfl, ?_⟩) ?_ ?_
        rotate_left
        ·intro w'
         go_simp
         with_reducible rfl
        rotate_left
        ·simp only [Act.put, Zj, Zk, Zm, i64_w, i32_w]
         rfl
        refine pure_ (i := 3) (N := some 63) (v := ?_) (a' := ?_) #[F, T, T, T, F, F, F, F, F, F, F, F, F] rfl rfl (any_of HT_.out (by kernel_rfl)) (fun _ _ _ h => h) (Or.inl ⟨by rfl, ?_⟩) ?_ ?_
        rotate_left
        ·intro w'
         go_simp
         with_reducible rfl
        rotate_left
        ·simp only [Act.put, Zj, Zk, Zm, i64_w, i32_w]
         rfl
        refine pure_ (i := 4) (N := some 64) (v := ?_) (a' := ?_) #[F, T, T, T, T, F, F, F, F, F, F, F, F] rfl rfl (any_of HT_.out (by kernel_rfl)) (fun _ _ _ h => h) (Or.inl ⟨by rfl, ?_⟩) ?_ ?_
        rotate_left
        ·intro w'
         go_simp
         with_reducible rfl
        rotate_left
        ·simp only [Act.put, Zj, Zk, Zm, i64_w, i32_w]
         rfl
        refine pure_ (i := 6) (N := some 66) (v := ?_) (a' := ?_) #[F, T, T, T, T, F, T, F, F, F, F, F, F] rfl rfl (any_of HT_.out (by kernel_rfl)) (fun _ _ _ h => h) (Or.inl ⟨by rfl, ?_⟩) ?_ ?_
        rotate_left
        ·intro w'
         go_simp
         with_reducible rfl
        rotate_left
        ·simp only [Act.put, Zj, Zk, Zm, i64_w, i32_w]
         rfl
        refine take_ (i := 0) (N := some 60) (v := ?_) (a' := ?_) #[T, T, T, T, T, F, T, F, F, F, F, F, F] rfl rfl (QbH HT_.out HW_.out (by kernel_rfl)) (fun _ _ _ h => h) (Or.inl ⟨by rfl, ?_⟩) hHeld ?_ ?_
        rotate_left
        ·rintro w' ⟨s0, s1, s2, s3, s4, s5, s6, s7, s8, s9⟩
         go_simp
         with_reducible rfl
        rotate_left
        ·simp only [Act.put, Zj, Zk, Zm, i64_w, i32_w]
         rfl
        refine take_ (i := 5) (N := some 65) (v := ?_) (a' := ?_) #[T, T, T, T, T, T, T, F, F, F, F, F, F] rfl rfl (QbH HT_.out HW_.out (by kernel_rfl)) (fun _ _ _ h => h) (Or.inl ⟨by rfl, ?_⟩) hHeld ?_ ?_
        rotate_left
        ·rintro w' ⟨s0, s1, s2, s3, s4, s5, s6, s7, s8, s9⟩
         go_simp
         with_reducible rfl
        rotate_left
        ·simp only [Act.put, Zj, Zk, Zm, i64_w, i32_w]
         rfl
        refine one_ (i := 7) (N := some 67) #[T, T, T, T, T, T, T, T, F, F, F, F, F] rfl rfl (one_of HT_.out (by kernel_rfl)) (by decide) (fun K hK => ?_)
        refine goes_ Try.func42 (by kernel_rfl) rfl #[.agg #[.string t438, .int .i64 t439, .int .i64 t440, .int .i64 t441, .int .i64 t442, .int .i64 t443], .int .i64 ((rd_T46 t434 x16_2).f2), .slice A4 l4.length c4] (by rfl) rfl rfl (Zl) ?_
        with_reducible refine (Qa9.calls k2 t438 t439 t440 t441 t442 t443 ((rd_T46 t434 x16_2).f2) _ _ l4 t447 t448 _ ?side1 ?side2 A21.out).mono ?_
        (case side1 => exact Zv (Kd.C_below HR4.out HB.out))
        (case side2 => exact HC4.out)
        rintro e w29 ⟨rfl, hb⟩
        have HS6_ := (hb.cell (World.block_lt_of_cell? _ _ (hHeld.2.2.2.2.2.2.1))).trans (hHeld.2.2.2.2.2.2.1)
        have HS7_ := (hb.cell (World.block_lt_of_cell? _ _ (hHeld.2.2.2.2.2.2.2.1))).trans (hHeld.2.2.2.2.2.2.2.1)
        have HS8_ := (hb.cell (World.block_lt_of_cell? _ _ (hHeld.2.2.2.2.2.2.2.2.1))).trans (hHeld.2.2.2.2.2.2.2.2.1)
        have HS9_ := (hb.cell (World.block_lt_of_cell? _ _ (hHeld.2.2.2.2.2.2.2.2.2))).trans (hHeld.2.2.2.2.2.2.2.2.2)
        refine ⟨_, rfl, ?_⟩
        replace HO_14 := Aside0.mk (Kd.R_below (Zr HO_14.out) hb)
        replace HO_15 := Aside0.mk (Kd.R_below (Zr HO_15.out) hb)
        replace BK431 := Aside0.mk (Zi BK431.out hb)
        replace BK445 := Aside0.mk (Zi BK445.out hb)
        replace HB := Aside0.mk (Qan (Zc2 GE431.out GE445.out) hb)
        (try clear hb)
        (try clear hb2)
        (try clear hk)
        (try clear hi)
        refine hK.out _ _ ⟨(Qai BK445.out 0).trans rfl, (Qai BK445.out 1).trans rfl, (Qai BK445.out 2).trans rfl, (Qai BK445.out 3).trans rfl, (Qai BK445.out 4).trans rfl, (Qai BK445.out 5).trans rfl, HS6_, HS7_, HS8_, HS9_⟩ (fun hHeld => ?_)
        clear hK K
        refine norm_ (a' := ?_) ?_ ?_
        rotate_left
        ·show Act.put _ (some 67) _ = _
         simp only [Act.put, Zj, Zk, Zm, i64_w, i32_w]
         rfl
        refine pure_ (i := 8) (N := some 59) (v := ?_) (a' := ?_) #[T, T, T, T, T, T, T, T, T, F, F, F, F] rfl rfl (any_of HT_.out (by kernel_rfl)) (fun _ _ _ h => h) (Or.inl ⟨by rfl, ?_⟩) ?_ ?_
        rotate_left
        ·intro w'
         go_simp
         with_reducible rfl
        rotate_left
        ·simp only [Act.put, Zj, Zk, Zm, i64_w, i32_w]
         rfl
        refine pure_ (i := 9) (N := some 68) (v := ?_) (a' := ?_) #[T, T, T, T, T, T, T, T, T, T, F, F, F] rfl rfl (any_of HT_.out (by kernel_rfl)) (fun _ _ _ h => h) (Or.inl ⟨by rfl, ?_⟩) ?_ ?_
        rotate_left
        ·intro w'
         go_simp
         with_reducible rfl
        rotate_left
        ·simp only [Act.put, Zj, Zk, Zm, i64_w, i32_w]
         rfl
        refine pure_ (i := 10) (N := some 69) (v := ?_) (a' := ?_) #[T, T, T, T, T, T, T, T, T, T, T, F, F] rfl rfl (any_of HT_.out (by kernel_rfl)) (fun _ _ _ h => h) (Or.inl ⟨by rfl, ?_⟩) ?_ ?_
        rotate_left
        ·intro w'
         go_simp
         with_reducible rfl
        rotate_left
        ·simp only [Act.put, Zj, Zk, Zm, i64_w, i32_w]
         rfl
        refine pure_ (i := 11) (N := some 19) (v := ?_) (a' := ?_) #[T, T, T, T, T, T, T, T, T, T, T, T, F] rfl rfl (any_of HT_.out (by kernel_rfl)) (fun _ _ _ h => h) (Or.inl ⟨by rfl, ?_⟩) ?_ ?_
        rotate_left
        ·intro w'
         go_simp
         with_reducible rfl
        rotate_left
        ·simp only [Act.put, Zj, Zk, Zm, i64_w, i32_w]
         rfl
        refine pure_ (i := 12) (N := some 20) (v := ?_) (a' := ?_) #[T, T, T, T, T, T, T, T, T, T, T, T, T] rfl rfl (any_of HT_.out (by kernel_rfl)) (fun _ _ _ h => h) (Or.inl ⟨by rfl, ?_⟩) ?_ ?_
        rotate_left
        ·intro w'
         go_simp
         with_reducible rfl
        rotate_left
        ·simp only [Act.put, Zj, Zk, Zm, i64_w, i32_w]
         rfl
        refine done_ (Qb6 HT_.out (by kernel_rfl)) ?_
        obtain ⟨hcz30_0, hfz30_0⟩ := Zy (v := (.string t438)) BK445.out 0
        obtain ⟨hcz30_1, hfz30_1⟩ := Zy (v := (.int .i64 t439)) BK445.out 1
        obtain ⟨hcz30_2, hfz30_2⟩ := Zy (v := (.int .i64 t440)) BK445.out 2
        obtain ⟨hcz30_3, hfz30_3⟩ := Zy (v := (.int .i64 t441)) BK445.out 3
        obtain ⟨hcz30_4, hfz30_4⟩ := Zy (v := (.int .i64 t442)) BK445.out 4
        obtain ⟨hcz30_5, hfz30_5⟩ := Zy (v := (.int .i64 t443)) BK445.out 5
        go_upto_if 79 with (first | ((with_reducible refine Qax (f := 58) rfl ?_); refine goesL_ (some 74) rfl rfl Try.func58 (by kernel_rfl) rfl #[.int .i64 a2, .int .i64 t443, .int .i64 1000, .int .i64 3] rfl (Zl) ?_; (with_reducible refine (Qbb.calls a2 t443 1000 3 t449 t450 _ A22.out).mono ?_); rintro e w31 ⟨rfl, hb⟩; refine ⟨_, rfl, ?_⟩; replace HO_14 := Aside0.mk (Kd.R_below (Zr HO_14.out) hb); replace HO_15 := Aside0.mk (Kd.R_below (Zr HO_15.out) hb); replace BK431 := Aside0.mk (Zi BK431.out hb); replace BK445 := Aside0.mk (Zi BK445.out hb); replace HB := Aside0.mk (Qan (Zc2 GE431.out GE445.out) hb); (try clear hb); (try clear hb2); (try clear hk); (try clear hi)))
        (try simp only [Act.put, Zj, Zk, Zm])
        by_cases c32 : t447 > t449
        ·rw [if_pos c32] at H
         have c32b0 : decide (t449 < t447) = T := decide_eq_true c32
         clear c32
         (try simp only [c32b0])
         by_cases c33 : x14_2.length < 17592186044416
         ·rw [if_pos c33] at H
          have LMc33 := Aside0.mk c33
          clear c33
          obtain ⟨y451, hy451⟩ : ∃ y_ : List Int, y_ = (x14_2 ++ [t449]) := ⟨_, rfl⟩
          replace H : (Qav.l0 k2 a2 l3 l4 y451 t434 (wrap64 (x16_2 + 1))) = some (r1, r2) := by first | (rw [hy451]; with_reducible exact H) | (have H2_ := (Option.bind_some _ _).symm.trans H; rw [hy451]; with_reducible exact H2_) | (have H2_ := (Option.bind_some _ _).symm.trans H; with_reducible exact H2_) | with_reducible exact H | (rw [hy451]; exact H) | exact H
          have Ny451 := Aside0.mk hy451
          clear hy451
          have H' := Aside0.mk H
          clear H
          go_wp2_with (first | ((with_reducible refine QbL (b := .append) (xs := #[.tmp 81, .tmp 83]) rfl ?_); at_builtin; refine Kd.R_append (Kd.int .i64) (w0 := w) w.heap.size rfl (.tmp 81) (.tmp 83) 63 3 (.int .i64 0) 8 rfl Try.underlying63 info3 rfl (by decide) (by omega) u14 x14_2 t449 [.int .i64 t449] (fun _ => True) (fun _ => False) rfl rfl ?aP (fun _ hk => hk.elim) ?aF ?aO ?aB ?aS ?aL ?_; (case aP => exact rfl); (case aB => exact (Zc2 GE431.out GE445.out)); (case aF => exact (fun _ _ => trivial)); (case aO => exact (Zr HO_14.out)); (case aS => exact (Qam (Zc2 GE431.out GE445.out))); (case aL => have := LMc33.out; omega); intro v452 w34 ho hb hg hat; rw [← Ny451.out] at ho; have HO453 := Aside0.mk (ho); replace HO_15 := Aside0.mk (Kd.R_over' (Zr HO_15.out) (Kd.R_typed (Zr HO_14.out)) (by decide) hg); replace BK431 := Aside0.mk (Qbg (g := gb431) (o := .cells #[.string a1_0, .string a1_1] 44 (0, 0)) (Zu BK431.out) hg (Kd.R_ne HO_14.out BK431.out (by decide))); replace BK445 := Aside0.mk (Qbg (g := gb445) (o := .cells #[.string t438, .int .i64 t439, .int .i64 t440, .int .i64 t441, .int .i64 t442, .int .i64 t443] 84 (0, 0)) (Zu BK445.out) hg (Kd.R_ne HO_14.out BK445.out (by decide))); replace HB := Aside0.mk (hb); clear HO_14; clear ho hb hg hat))
          go_roundg k2
          case measure => have := HJ10.out; have := HK2.out; omega
          case rel => exact ⟨(y451), (wrap64 (x16_2 + 1)), (Zs), H', ⟨by have := HJ10.out; have := HK2.out; omega⟩, ⟨Zr HO453.out⟩, ⟨Zr HO_15.out⟩, ⟨Zu BK431.out⟩, ⟨Zc2 GE431.out GE445.out⟩⟩
         rw [if_neg c33] at H
         exact absurd H (by simp)
        rw [if_neg c32] at H
        have c32b0 : decide (t449 < t447) = F := decide_eq_false c32
        clear c32
        (try simp only [c32b0])
        by_cases c35 : x14_2.length < 17592186044416
        ·rw [if_pos c35] at H
         have LMc35 := Aside0.mk c35
         clear c35
         obtain ⟨y454, hy454⟩ : ∃ y_ : List Int, y_ = (x14_2 ++ [t447]) := ⟨_, rfl⟩
         replace H : (Qav.l0 k2 a2 l3 l4 y454 t434 (wrap64 (x16_2 + 1))) = some (r1, r2) := by first | (rw [hy454]; with_reducible exact H) | (have H2_ := (Option.bind_some _ _).symm.trans H; rw [hy454]; with_reducible exact H2_) | (have H2_ := (Option.bind_some _ _).symm.trans H; with_reducible exact H2_) | with_reducible exact H | (rw [hy454]; exact H) | exact H
         have Ny454 := Aside0.mk hy454
         clear hy454
         have H' := Aside0.mk H
         clear H
         go_wp2_with (first | ((with_reducible refine QbL (b := .append) (xs := #[.tmp 81, .tmp 83]) rfl ?_); at_builtin; refine Kd.R_append (Kd.int .i64) (w0 := w) w.heap.size rfl (.tmp 81) (.tmp 83) 63 3 (.int .i64 0) 8 rfl Try.underlying63 info3 rfl (by decide) (by omega) u14 x14_2 t447 [.int .i64 t447] (fun _ => True) (fun _ => False) rfl rfl ?aP (fun _ hk => hk.elim) ?aF ?aO ?aB ?aS ?aL ?_; (case aP => exact rfl); (case aB => exact (Zc2 GE431.out GE445.out)); (case aF => exact (fun _ _ => trivial)); (case aO => exact (Zr HO_14.out)); (case aS => exact (Qam (Zc2 GE431.out GE445.out))); (case aL => have := LMc35.out; omega); intro v455 w36 ho hb hg hat; rw [← Ny454.out] at ho; have HO456 := Aside0.mk (ho); replace HO_15 := Aside0.mk (Kd.R_over' (Zr HO_15.out) (Kd.R_typed (Zr HO_14.out)) (by decide) hg); replace BK431 := Aside0.mk (Qbg (g := gb431) (o := .cells #[.string a1_0, .string a1_1] 44 (0, 0)) (Zu BK431.out) hg (Kd.R_ne HO_14.out BK431.out (by decide))); replace BK445 := Aside0.mk (Qbg (g := gb445) (o := .cells #[.string t438, .int .i64 t439, .int .i64 t440, .int .i64 t441, .int .i64 t442, .int .i64 t443] 84 (0, 0)) (Zu BK445.out) hg (Kd.R_ne HO_14.out BK445.out (by decide))); replace HB := Aside0.mk (hb); clear HO_14; clear ho hb hg hat))
         go_roundg k2
         case measure => have := HJ10.out; have := HK2.out; omega
         case rel => exact ⟨(y454), (wrap64 (x16_2 + 1)), (Zs), H', ⟨by have := HJ10.out; have := HK2.out; omega⟩, ⟨Zr HO456.out⟩, ⟨Zr HO_15.out⟩, ⟨Zu BK431.out⟩, ⟨Zc2 GE431.out GE445.out⟩⟩
        rw [if_neg c35] at H
        exact absurd H (by simp)
       rw [if_neg c19] at H
       exact absurd H (by simp)
      rw [if_neg c18] at H
      have c18b0 : decide (x16_2 < (t434.length : Int)) = F := decide_eq_false c18
      clear c18
      (try simp only [c18b0])
      simp only [Option.some.injEq, Prod.mk.injEq] at H
      obtain ⟨rfl, rfl⟩ := H
      go_wp2
      go_ret2
      exact ⟨_, Zq, Zr HO_14.out, Zc1 GE431.out⟩
 rw [if_neg c10] at H
 have c10b0 : (t433 == 0) = F := beq_eq_false_iff_ne.mpr c10
 have c10b1 : (t433 != 0) = T := bne_iff_ne.mpr c10
 (try simp only [c10b0, c10b1])
 simp only [Option.some.injEq, Prod.mk.injEq] at H
 obtain ⟨rfl, rfl⟩ := H
 go_wp2
 go_ret2
 exact ⟨_, Zq, by first | exact Kd.R_nil _ _ _ _ _ | exact Kd.N_nil _ _ _ _ _ | exact Kd.V_nil _ _ _ _ _ | exact Kd.Q_nil _ _ _ _ _ | exact Kd.S_nil _ _ _ _ _, Zc1 GE431.out⟩
def Qbn.f (k : Nat) (l0 : List (S46)) (a1_0 : ByteArray) (a1_1 : ByteArray) (a2 : Int) (l3 : List (S84)) (l4 : List (S98)) : Option (Int × Int) := (Qav.f k l0 a1_0 a1_1 a2 l3 l4).bind fun bt458 => (if bt458.2 = 0 then ((QaT.f k bt458.1).bind fun bt462 => (some (bt462.1, bt462.2))) else (some (0, bt458.2)))
theorem Qbn.mono : ∀ a0 a1 a2 a3 a4 a5 k, LeO (Qbn.f k a0 a1 a2 a3 a4 a5) (Qbn.f (k + 1) a0 a1 a2 a3 a4 a5) := by
 intro a0 a1 a2 a3 a4 a5 k
 unfold Qbn.f
 exact ZM2 QaT.mono Qav.mono
theorem Qbn.calls (k : Nat) (A0 : Option Addr) (c0 : Nat) (l0 : List (S46)) (a1_0 : ByteArray) (a1_1 : ByteArray) (a2 : Int) (A3 : Option Addr) (c3 : Nat) (l3 : List (S84)) (A4 : Option Addr) (c4 : Nat) (l4 : List (S98)) (r1 : Int) (r2 : Int) (w : World) (hr0 : Kd.C k46 w A0 l0.length l0) (hc0 : l0.length ≤ c0) (hr3 : Kd.C k84 w A3 l3.length l3) (hc3 : l3.length ≤ c3) (hr4 : Kd.C k98 w A4 l4.length l4) (hc4 : l4.length ≤ c4) (h : Qbn.f k l0 a1_0 a1_1 a2 l3 l4 = some (r1, r2)) :
  Calls Try.prog 31 #[.slice A0 l0.length c0, .agg #[.string a1_0, .string a1_1], .int .i64 a2, .slice A3 l3.length c3, .slice A4 l4.length c4] w fun e w' => e = .returned (.tuple #[.int .i64 r1, .int .i64 r2]) ∧ Below w.heap.size w w' := by
 have hu44 := Try.underlying44
 have HR0 := Aside0.mk hr0
 have HC0 := Aside0.mk hc0
 clear hr0 hc0
 have HR3 := Aside0.mk hr3
 have HC3 := Aside0.mk hc3
 clear hr3 hc3
 have HR4 := Aside0.mk hr4
 have HC4 := Aside0.mk hc4
 clear hr4 hc4
 have HB := Aside0.mk (Below.refl w.heap.size w)
 have H : ((Qav.f k l0 a1_0 a1_1 a2 l3 l4).bind fun bt458 => (if bt458.2 = 0 then ((QaT.f k bt458.1).bind fun bt462 => (some (bt462.1, bt462.2))) else (some (0, bt458.2)))) = some (r1, r2) := h
 clear h
 replace H := Option.bind_eq_some_iff.mp H
 obtain ⟨⟨t458, t461⟩, A60, H⟩ := H
 replace H : (if t461 = 0 then ((QaT.f k t458).bind fun bt462 => (some (bt462.1, bt462.2))) else (some (0, t461))) = some (r1, r2) := H
 have A6 := Aside0.mk A60
 clear A60
 go_enter Try.func31, Try.ntmps31
 go_upto_if 24 with (first | ((with_reducible refine QaK (N := 6) rfl ?_); refine Zbx (N := 6) (cs := #[.string a1_0, .string a1_1]) (t := 44) ?_; intro gb457 hg w7 hbox hb; have BK457 := Aside0.mk (hbox); have GW457 := Aside0.mk (Zt w hg (Zb)); have GE457 := GW457; replace HB := Aside0.mk (Qan (Zb) hb); clear hb hbox hg; obtain ⟨hcz8_0, hfz8_0⟩ := Zy (v := (.string a1_0)) BK457.out 0; obtain ⟨hcz8_1, hfz8_1⟩ := Zy (v := (.string a1_1)) BK457.out 1) | ((with_reducible refine Qax (f := 29) rfl ?_); refine goesL_ (some 20) rfl rfl Try.func29 (by kernel_rfl) rfl #[.slice A0 l0.length c0, .agg #[.string a1_0, .string a1_1], .int .i64 a2, .slice A3 l3.length c3, .slice A4 l4.length c4] rfl (Zl) ?_; (with_reducible refine (Qav.calls k _ _ l0 a1_0 a1_1 a2 _ _ l3 _ _ l4 t458 t461 _ ?side1 ?side2 ?side3 ?side4 ?side5 ?side6 A6.out).mono ?_); (case side1 => exact Zv (Kd.C_below HR0.out HB.out)); (case side2 => exact HC0.out); (case side3 => exact Zv (Kd.C_below HR3.out HB.out)); (case side4 => exact HC3.out); (case side5 => exact Zv (Kd.C_below HR4.out HB.out)); (case side6 => exact HC4.out); rintro e w9 ⟨v459, rfl, ho0, hb⟩; refine ⟨_, rfl, ?_⟩; have HO460 := Aside0.mk (Kd.R_lower ho0 (Qam (Zc1 GE457.out))); replace BK457 := Aside0.mk (Zi BK457.out hb); replace HB := Aside0.mk (Qan (Zc1 GE457.out) hb); (try clear hb); (try clear hb2); (try clear hk); (try clear hi); (try clear ho0)))
 (try simp only [Act.put, Zj, Zk, Zm])
 by_cases c10 : t461 = 0
 ·rw [if_pos c10] at H
  have c10b0 : (t461 == 0) = T := beq_iff_eq.mpr c10
  have c10b1 : (t461 != 0) = F := bne_eq_false_iff_eq.mpr c10
  clear c10
  (try simp only [c10b0, c10b1])
  replace H := Option.bind_eq_some_iff.mp H
  obtain ⟨⟨t462, t463⟩, A110, H⟩ := H
  replace H : (some (t462, t463)) = some (r1, r2) := H
  have A11 := Aside0.mk A110
  clear A110
  simp only [Option.some.injEq, Prod.mk.injEq] at H
  obtain ⟨rfl, rfl⟩ := H
  obtain ⟨Ao12, co12, eo12⟩ := Kd.R_slice HO460.out
  subst eo12
  go_wp2_with (first | ((with_reducible refine Qax (f := 60) rfl ?_); refine goesL_ (some 27) rfl rfl Try.func60 (by kernel_rfl) rfl #[.slice Ao12 t458.length co12] rfl (Zl) ?_; (with_reducible refine (QaT.calls k _ _ t458 t462 t463 _ ?side1 ?side2 A11.out).mono ?_); (case side1 => exact Zv (Kd.R_reads' HO460.out).2.2); (case side2 => exact (Kd.R_reads' HO460.out).2.1); rintro e w' ⟨rfl, ⟨nd, rfl⟩⟩; refine ⟨_, rfl, ?_⟩))
  go_ret2
  exact ⟨Zq, Zc1 GE457.out⟩
 rw [if_neg c10] at H
 have c10b0 : (t461 == 0) = F := beq_eq_false_iff_ne.mpr c10
 have c10b1 : (t461 != 0) = T := bne_iff_ne.mpr c10
 (try simp only [c10b0, c10b1])
 simp only [Option.some.injEq, Prod.mk.injEq] at H
 obtain ⟨rfl, rfl⟩ := H
 go_wp2
 go_ret2
 exact ⟨Zq, Zc1 GE457.out⟩
def QaD.l0 : Nat → List (S46) → ByteArray → Int → List (S84) → List (S98) → Int → Int → ByteArray → ByteArray → Option (Int × Int)
 | 0, _, _, _, _, _, _, _, _, _ => none
 | k + 1, x0, x2, x3, x4, x5, x18, x19, x762000, x762001 => if x18 < x19 then ((QaA.f k x0 x762000 x762001 x2 (wrap64 (x18 + (wrap64 (Int.tdiv (wrap64 ((wrap64 (x19 - x18)) + 1)) 2))))).bind fun t773 => ((Qbn.f k t773 x762000 x762001 x3 x4 x5).bind fun bt776 => (if bt776.2 = 0 then (if bt776.1 ≥ x3 then (QaD.l0 k x0 x2 x3 x4 x5 (wrap64 (x18 + (wrap64 (Int.tdiv (wrap64 ((wrap64 (x19 - x18)) + 1)) 2)))) x19 x762000 x762001) else (QaD.l0 k x0 x2 x3 x4 x5 x18 (wrap64 ((wrap64 (x18 + (wrap64 (Int.tdiv (wrap64 ((wrap64 (x19 - x18)) + 1)) 2)))) - 1)) x762000 x762001)) else (QaD.l0 k x0 x2 x3 x4 x5 x18 (wrap64 ((wrap64 (x18 + (wrap64 (Int.tdiv (wrap64 ((wrap64 (x19 - x18)) + 1)) 2)))) - 1)) x762000 x762001)))) else (some (x18, 0))
def QaD.f (k : Nat) (l0 : List (S46)) (a1_0 : ByteArray) (a1_1 : ByteArray) (a2 : ByteArray) (a3 : Int) (l4 : List (S84)) (l5 : List (S98)) : Option (Int × Int) := (Qbn.f k l0 a1_0 a1_1 a3 l4 l5).bind fun bt762 => (if bt762.2 = 0 then ((QaH.f k l4 a2).bind fun bt764 => (if bt764.2.2.2.2.2.2 = T then (if bt762.1 < a3 then (some (0, 0)) else ((Qa1.f k l0 a1_0 a1_1 a2).bind fun t772 => (QaD.l0 k l0 a2 a3 l4 l5 0 t772 a1_0 a1_1))) else (some (0, 11)))) else (some (0, bt762.2)))
theorem QaD.mono_l : ∀ k, (∀ y0 y1 y2 y3 y4 y5 y6 y7 y8, LeO (QaD.l0 k y0 y1 y2 y3 y4 y5 y6 y7 y8) (QaD.l0 (k + 1) y0 y1 y2 y3 y4 y5 y6 y7 y8))
 | 0 => fun _ _ _ _ _ _ _ _ _ r h => by simp [QaD.l0] at h
 | k + 1 => by
  have ih0 := QaD.mono_l k
  intro y0 y1 y2 y3 y4 y5 y6 y7 y8
  unfold QaD.l0
  exact ZM5 ih0 QaH.mono Qa1.mono Qbn.mono QaA.mono
theorem QaD.mono : ∀ a0 a1 a2 a3 a4 a5 a6 k, LeO (QaD.f k a0 a1 a2 a3 a4 a5 a6) (QaD.f (k + 1) a0 a1 a2 a3 a4 a5 a6) := by
 intro a0 a1 a2 a3 a4 a5 a6 k
 have ih0 := QaD.mono_l k
 unfold QaD.f
 exact ZM5 ih0 QaH.mono Qa1.mono Qbn.mono QaA.mono
def QaD.T12 : Bool × List (List Nat × List Nat) := (T, [([], []), ([], []), ([], []), ([], []), ([0, 1, 2, 3], [0, 1, 2, 3]), ([], []), ([], []), ([], []), ([], []), ([4, 5, 6, 7, 8, 4], [4, 5, 6, 7, 8]), ([9], [9]), ([10], [10]), ([10], [10]), ([11, 9, 0, 1, 2, 3, 4, 5, 6, 7, 8, 9, 10, 11], [11]), ([12, 13, 0, 1, 2, 3, 4, 5, 6, 7, 8, 9, 10, 11, 12, 13], [12])])
def QaD.B12 : List Nat := [0, 0, 0, 0, 15, 0, 0, 0, 0, 511, 1023, 2047, 2047, 4095, 16383]
theorem QaD.tab12 : rtab .any (opsOf Try.f34 12) = QaD.T12 := by kernel_rfl
theorem QaD.bits12 : Qb3 QaD.T12.2 QaD.B12 = T := by kernel_rfl
theorem QaD.calls (k : Nat) (A0 : Option Addr) (c0 : Nat) (l0 : List (S46)) (a1_0 : ByteArray) (a1_1 : ByteArray) (a2 : ByteArray) (a3 : Int) (A4 : Option Addr) (c4 : Nat) (l4 : List (S84)) (A5 : Option Addr) (c5 : Nat) (l5 : List (S98)) (r1 : Int) (r2 : Int) (w : World) (hr0 : Kd.C k46 w A0 l0.length l0) (hc0 : l0.length ≤ c0) (hr4 : Kd.C k84 w A4 l4.length l4) (hc4 : l4.length ≤ c4) (hr5 : Kd.C k98 w A5 l5.length l5) (hc5 : l5.length ≤ c5) (h : QaD.f k l0 a1_0 a1_1 a2 a3 l4 l5 = some (r1, r2)) :
  Calls Try.prog 34 #[.slice A0 l0.length c0, .agg #[.string a1_0, .string a1_1], .string a2, .int .i64 a3, .slice A4 l4.length c4, .slice A5 l5.length c5] w fun e w' => e = .returned (.tuple #[.int .i64 r1, .int .i64 r2]) ∧ Below w.heap.size w w' := by
 have hu44 := Try.underlying44
 have hu84 := Try.underlying84
 have HR0 := Aside0.mk hr0
 have HC0 := Aside0.mk hc0
 clear hr0 hc0
 have HR4 := Aside0.mk hr4
 have HC4 := Aside0.mk hc4
 clear hr4 hc4
 have HR5 := Aside0.mk hr5
 have HC5 := Aside0.mk hc5
 clear hr5 hc5
 have HB := Aside0.mk (Below.refl w.heap.size w)
 have H : ((Qbn.f k l0 a1_0 a1_1 a3 l4 l5).bind fun bt762 => (if bt762.2 = 0 then ((QaH.f k l4 a2).bind fun bt764 => (if bt764.2.2.2.2.2.2 = T then (if bt762.1 < a3 then (some (0, 0)) else ((Qa1.f k l0 a1_0 a1_1 a2).bind fun t772 => (QaD.l0 k l0 a2 a3 l4 l5 0 t772 a1_0 a1_1))) else (some (0, 11)))) else (some (0, bt762.2)))) = some (r1, r2) := h
 clear h
 replace H := Option.bind_eq_some_iff.mp H
 obtain ⟨⟨t762, t763⟩, A70, H⟩ := H
 replace H : (if t763 = 0 then ((QaH.f k l4 a2).bind fun bt764 => (if bt764.2.2.2.2.2.2 = T then (if t762 < a3 then (some (0, 0)) else ((Qa1.f k l0 a1_0 a1_1 a2).bind fun t772 => (QaD.l0 k l0 a2 a3 l4 l5 0 t772 a1_0 a1_1))) else (some (0, 11)))) else (some (0, t763))) = some (r1, r2) := H
 have A7 := Aside0.mk A70
 clear A70
 go_enter Try.func34, Try.ntmps34
 go_upto_if 33 with (first | ((with_reducible refine QaK (N := 7) rfl ?_); refine Zbx (N := 7) (cs := #[.string a1_0, .string a1_1]) (t := 44) ?_; intro gb761 hg w8 hbox hb; have BK761 := Aside0.mk (hbox); have GW761 := Aside0.mk (Zt w hg (Zb)); have GE761 := GW761; replace HB := Aside0.mk (Qan (Zb) hb); clear hb hbox hg; obtain ⟨hcz9_0, hfz9_0⟩ := Zy (v := (.string a1_0)) BK761.out 0; obtain ⟨hcz9_1, hfz9_1⟩ := Zy (v := (.string a1_1)) BK761.out 1) | ((with_reducible refine Qax (f := 31) rfl ?_); refine goesL_ (some 29) rfl rfl Try.func31 (by kernel_rfl) rfl #[.slice A0 l0.length c0, .agg #[.string a1_0, .string a1_1], .int .i64 a3, .slice A4 l4.length c4, .slice A5 l5.length c5] rfl (Zl) ?_; (with_reducible refine (Qbn.calls k _ _ l0 a1_0 a1_1 a3 _ _ l4 _ _ l5 t762 t763 _ ?side1 ?side2 ?side3 ?side4 ?side5 ?side6 A7.out).mono ?_); (case side1 => exact Zv (Kd.C_below HR0.out HB.out)); (case side2 => exact HC0.out); (case side3 => exact Zv (Kd.C_below HR4.out HB.out)); (case side4 => exact HC4.out); (case side5 => exact Zv (Kd.C_below HR5.out HB.out)); (case side6 => exact HC5.out); rintro e w10 ⟨rfl, hb⟩; refine ⟨_, rfl, ?_⟩; replace BK761 := Aside0.mk (Zi BK761.out hb); replace HB := Aside0.mk (Qan (Zc1 GE761.out) hb); (try clear hb); (try clear hb2); (try clear hk); (try clear hi)))
 (try simp only [Act.put, Zj, Zk, Zm])
 by_cases c11 : t763 = 0
 ·rw [if_pos c11] at H
  have c11b0 : (t763 == 0) = T := beq_iff_eq.mpr c11
  have c11b1 : (t763 != 0) = F := bne_eq_false_iff_eq.mpr c11
  clear c11
  (try simp only [c11b0, c11b1])
  replace H := Option.bind_eq_some_iff.mp H
  obtain ⟨⟨t764, t765, t766, t767, t768, t769, t770⟩, A120, H⟩ := H
  replace H : (if t770 = T then (if t762 < a3 then (some (0, 0)) else ((Qa1.f k l0 a1_0 a1_1 a2).bind fun t772 => (QaD.l0 k l0 a2 a3 l4 l5 0 t772 a1_0 a1_1))) else (some (0, 11))) = some (r1, r2) := H
  have A12 := Aside0.mk A120
  clear A120
  go_upto_if 42 with (first | ((with_reducible refine Qax (f := 41) rfl ?_); refine goesL_ (some 38) rfl rfl Try.func41 (by kernel_rfl) rfl #[.slice A4 l4.length c4, .string a2] rfl (Zl) ?_; (with_reducible refine (QaH.calls k _ _ l4 a2 t764 t765 t766 t767 t768 t769 t770 _ ?side1 ?side2 A12.out).mono ?_); (case side1 => exact Zv (Kd.C_below HR4.out HB.out)); (case side2 => exact HC4.out); rintro e w13 ⟨rfl, hb⟩; refine ⟨_, rfl, ?_⟩; replace BK761 := Aside0.mk (Zi BK761.out hb); replace HB := Aside0.mk (Qan (Zc1 GE761.out) hb); (try clear hb); (try clear hb2); (try clear hk); (try clear hi)) | ((with_reducible refine QaK (N := 16) rfl ?_); refine Zbx (N := 16) (cs := #[.string (⟨#[]⟩ : ByteArray), .int .i64 0, .int .i64 0, .int .i64 0, .int .i64 0, .int .i64 0]) (t := 84) ?_; intro gb771 hg w14 hbox hb; have BK771 := Aside0.mk (hbox); have GW771 := Aside0.mk (Zt w hg (Zc1 GE761.out)); have GE771 := GW771; have NB761_771 := Aside0.mk (Zn hg BK761.out); have NB771_761 := Aside0.mk NB761_771.out.symm; replace BK761 := Aside0.mk (Zi BK761.out hb); replace HB := Aside0.mk (Qan (Zc1 GE761.out) hb); clear hb hbox hg; have hnb15 := NB771_761.out; have hnc15 := NB761_771.out; obtain ⟨hcz16_0, hfz16_0⟩ := Zy (v := (.string (⟨#[]⟩ : ByteArray))) BK771.out 0; obtain ⟨hcz16_1, hfz16_1⟩ := Zy (v := (.int .i64 0)) BK771.out 1; obtain ⟨hcz16_2, hfz16_2⟩ := Zy (v := (.int .i64 0)) BK771.out 2; obtain ⟨hcz16_3, hfz16_3⟩ := Zy (v := (.int .i64 0)) BK771.out 3; obtain ⟨hcz16_4, hfz16_4⟩ := Zy (v := (.int .i64 0)) BK771.out 4; obtain ⟨hcz16_5, hfz16_5⟩ := Zy (v := (.int .i64 0)) BK771.out 5))
  (try simp only [Act.put, Zj, Zk, Zm])
  by_cases c17 : t770 = T
  ·subst c17
   have H1 : (if t762 < a3 then (some (0, 0)) else ((Qa1.f k l0 a1_0 a1_1 a2).bind fun t772 => (QaD.l0 k l0 a2 a3 l4 l5 0 t772 a1_0 a1_1))) = some (r1, r2) := by rw [if_pos rfl] at H; exact H
   clear H
   have H := H1
   clear H1
   by_cases c18 : t762 < a3
   ·rw [if_pos c18] at H
    have c18b0 : decide (t762 < a3) = T := decide_eq_true c18
    clear c18
    (try simp only [c18b0])
    simp only [Option.some.injEq, Prod.mk.injEq] at H
    obtain ⟨rfl, rfl⟩ := H
    go_wp2
    go_ret2
    exact ⟨Zq, Zc2 GE761.out GE771.out⟩
   rw [if_neg c18] at H
   have c18b0 : decide (t762 < a3) = F := decide_eq_false c18
   clear c18
   (try simp only [c18b0])
   replace H := Option.bind_eq_some_iff.mp H
   obtain ⟨t772, A190, H⟩ := H
   replace H : (QaD.l0 k l0 a2 a3 l4 l5 0 t772 a1_0 a1_1) = some (r1, r2) := H
   have A19 := Aside0.mk A190
   clear A190
   have H' := Aside0.mk H
   clear H
   have hnb20 := NB761_771.out
   have hnc20 := NB771_761.out
   obtain ⟨hcz21_0, hfz21_0⟩ := Zy (v := (.string a1_0)) BK761.out 0
   obtain ⟨hcz21_1, hfz21_1⟩ := Zy (v := (.string a1_1)) BK761.out 1
   go_wp2_with (first | ((with_reducible refine Qax (f := 38) rfl ?_); refine goesL_ (some 49) rfl rfl Try.func38 (by kernel_rfl) rfl #[.slice A0 l0.length c0, .agg #[.string a1_0, .string a1_1], .string a2] rfl (Zl) ?_; (with_reducible refine (Qa1.calls k _ _ l0 a1_0 a1_1 a2 t772 _ ?side1 ?side2 A19.out).mono ?_); (case side1 => exact Kd.C_below HR0.out (Zc2 GE761.out GE771.out)); (case side2 => exact HC0.out); rintro e w22 ⟨rfl, hb⟩; refine ⟨_, rfl, ?_⟩; replace BK761 := Aside0.mk (Qal (g := gb761) (o := .cells #[.string a1_0, .string a1_1] 44 (0, 0)) (Zg6 BK761.out NB761_771.out NB761_771.out NB761_771.out NB761_771.out NB761_771.out NB761_771.out) hb); replace BK771 := Aside0.mk (Zpi #[.string t764, .int .i64 t765, .int .i64 t766, .int .i64 t767, .int .i64 t768, .int .i64 t769] BK771.out hb); replace HB := Aside0.mk (Qan (Zc2 GE761.out GE771.out) hb); (try clear hb); (try clear hb2); (try clear hk); (try clear hi)))
   go_loopg [18, 19] k (fun kq v18 v19 w' => ∃ (x18_1 : Int) (x19_1 : Int), v18 = .int .i64 x18_1 ∧ v19 = .int .i64 x19_1 ∧ Aside0 (QaD.l0 kq l0 a2 a3 l4 l5 x18_1 x19_1 a1_0 a1_1 = some (r1, r2)) ∧ Aside0 (kq ≤ k) ∧ Aside0 (w'.heap[gb761]? = some (.cells #[.string a1_0, .string a1_1] 44 (0, 0))) ∧ Aside0 (w'.heap[gb771]? = some (.cells #[.string t764, .int .i64 t765, .int .i64 t766, .int .i64 t767, .int .i64 t768, .int .i64 t769] 84 (0, 0))) ∧ Aside0 (Below w.heap.size w w'))
   case atStart => exact ⟨(0), (t772), (Zs), (Zs), H', ⟨Nat.le_refl _⟩, ⟨Zu BK761.out⟩, ⟨Zu BK771.out⟩, ⟨Zc2 GE761.out GE771.out⟩⟩
   case round =>
    clear H'
    try clear c1
    try clear c2
    try clear p2
    try clear c3
    try clear c4
    try clear c5
    try clear c11
    try clear c11b0
    try clear c11b1
    try clear c15
    try clear c17
    try clear c18
    try clear c18b0
    try clear c20
    try clear hcz16_0
    try clear hcz16_1
    try clear hcz16_2
    try clear hcz16_3
    try clear hcz16_4
    try clear hcz16_5
    try clear hcz21_0
    try clear hcz21_1
    try clear hcz9_0
    try clear hcz9_1
    try clear hfz16_0
    try clear hfz16_1
    try clear hfz16_2
    try clear hfz16_3
    try clear hfz16_4
    try clear hfz16_5
    try clear hfz21_0
    try clear hfz21_1
    try clear hfz9_0
    try clear hfz9_1
    obtain ⟨x18_1, x19_1, rfl, rfl, HA, HK1, BK761, BK771, HB⟩ := hrel
    cases gk with
    | zero => exact absurd HA.out (by simp [QaD.l0])
    | succ k1 =>
     have H := HA.out
     clear HA
     simp only [QaD.l0] at H
     by_cases c23 : x18_1 < x19_1
     ·rw [if_pos c23] at H
      have c23b0 : decide (x18_1 < x19_1) = T := decide_eq_true c23
      clear c23
      (try simp only [c23b0])
      replace H := Option.bind_eq_some_iff.mp H
      obtain ⟨t773, A240, H⟩ := H
      replace H : ((Qbn.f k1 t773 a1_0 a1_1 a3 l4 l5).bind fun bt776 => (if bt776.2 = 0 then (if bt776.1 ≥ a3 then (QaD.l0 k1 l0 a2 a3 l4 l5 (wrap64 (x18_1 + (wrap64 (Int.tdiv (wrap64 ((wrap64 (x19_1 - x18_1)) + 1)) 2)))) x19_1 a1_0 a1_1) else (QaD.l0 k1 l0 a2 a3 l4 l5 x18_1 (wrap64 ((wrap64 (x18_1 + (wrap64 (Int.tdiv (wrap64 ((wrap64 (x19_1 - x18_1)) + 1)) 2)))) - 1)) a1_0 a1_1)) else (QaD.l0 k1 l0 a2 a3 l4 l5 x18_1 (wrap64 ((wrap64 (x18_1 + (wrap64 (Int.tdiv (wrap64 ((wrap64 (x19_1 - x18_1)) + 1)) 2)))) - 1)) a1_0 a1_1))) = some (r1, r2) := H
      have A24 := Aside0.mk A240
      clear A240
      replace H := Option.bind_eq_some_iff.mp H
      obtain ⟨⟨t776, t777⟩, A250, H⟩ := H
      replace H : (if t777 = 0 then (if t776 ≥ a3 then (QaD.l0 k1 l0 a2 a3 l4 l5 (wrap64 (x18_1 + (wrap64 (Int.tdiv (wrap64 ((wrap64 (x19_1 - x18_1)) + 1)) 2)))) x19_1 a1_0 a1_1) else (QaD.l0 k1 l0 a2 a3 l4 l5 x18_1 (wrap64 ((wrap64 (x18_1 + (wrap64 (Int.tdiv (wrap64 ((wrap64 (x19_1 - x18_1)) + 1)) 2)))) - 1)) a1_0 a1_1)) else (QaD.l0 k1 l0 a2 a3 l4 l5 x18_1 (wrap64 ((wrap64 (x18_1 + (wrap64 (Int.tdiv (wrap64 ((wrap64 (x19_1 - x18_1)) + 1)) 2)))) - 1)) a1_0 a1_1)) = some (r1, r2) := H
      have A25 := Aside0.mk A250
      clear A250
      try go_wp2
      replace BK761 := Aside0.mk (Qad BK761.out)
      replace BK771 := Aside0.mk (Qad BK771.out)
      replace HB := Aside0.mk (Qaf HB.out)
      refine start_ (n := 15) (S := fun w' => w'.cell? ⟨gb761, 0, none⟩ = some (.string a1_0) ∧ w'.cell? ⟨gb761, 1, none⟩ = some (.string a1_1)) (ds := []) #[F, F, F, F, F, F, F, F, F, F, F, F, F, F, F] (by kernel_rfl) rfl rfl ⟨(Qai BK761.out 0).trans rfl, (Qai BK761.out 1).trans rfl⟩ (fun hHeld => ?_); refine Qb0 QaD.tab12 QaD.bits12 (fun HT_ HW_ => ?_)
      generalize wr.drew = w26 at BK761 BK771 HB hHeld ⊢
      refine pure_ (i := 0) (N := some 61) (v := ?_) (a' := ?_) #[T, F, F, F, F, F, F, F, F, F, F, F, F, F, F] rfl rfl (any_of HT_.out (by kernel_rfl)) (fun _ _ _ h => h) (Or.inl ⟨by rfl, ?_⟩) ?_ ?_
      rotate_left
      ·intro w'
       go_simp
       with_reducible rfl
      rotate_left
      ·simp only [Act.put, Zj, Zk, Zm, i64_w, i32_w]
       rfl
      refine pure_ (i := 2) (N := some 63) (v := ?_) (a' := ?_) #[T, F, T, F, F, F, F, F, F, F, F, F, F, F, F] rfl rfl (any_of HT_.out (by kernel_rfl)) (fun _ _ _ h => h) (Or.inl ⟨by rfl, ?_⟩) ?_ ?_
      rotate_left
      ·intro w'
       go_simp
       with_reducible rfl
      rotate_left
      ·simp only [Act.put, Zj, Zk, Zm, i64_w, i32_w]
       rfl
      refine pure_ (i := 3) (N := some 64) (v := ?_) (a' := ?_) #[T, F, T, T, F, F, F, F, F, F, F, F, F, F, F] rfl rfl (any_of HT_.out (by kernel_rfl)) (fun _ _ _ h => h) (Or.inl ⟨by rfl, ?_⟩) ?_ ?_
      rotate_left
      ·intro w'
       go_simp
       with_reducible rfl
      rotate_left
      ·simp only [Act.put, Zj, Zk, Zm, i64_w, i32_w]
       rfl
      refine pure_ (i := 6) (N := some 67) (v := ?_) (a' := ?_) #[T, F, T, T, F, F, T, F, F, F, F, F, F, F, F] rfl rfl (any_of HT_.out (by kernel_rfl)) (fun _ _ _ h => h) (Or.inl ⟨by rfl, ?_⟩) ?_ ?_
      rotate_left
      ·intro w'
       go_simp
       with_reducible rfl
      rotate_left
      ·simp only [Act.put, Zj, Zk, Zm, i64_w, i32_w]
       rfl
      refine pure_ (i := 7) (N := some 68) (v := ?_) (a' := ?_) #[T, F, T, T, F, F, T, T, F, F, F, F, F, F, F] rfl rfl (any_of HT_.out (by kernel_rfl)) (fun _ _ _ h => h) (Or.inl ⟨by rfl, ?_⟩) ?_ ?_
      rotate_left
      ·intro w'
       go_simp
       with_reducible rfl
      rotate_left
      ·simp only [Act.put, Zj, Zk, Zm, i64_w, i32_w]
       rfl
      refine pure_ (i := 8) (N := some 69) (v := ?_) (a' := ?_) #[T, F, T, T, F, F, T, T, T, F, F, F, F, F, F] rfl rfl (any_of HT_.out (by kernel_rfl)) (fun _ _ _ h => h) (Or.inl ⟨by rfl, ?_⟩) ?_ ?_
      rotate_left
      ·intro w'
       go_simp
       with_reducible rfl
      rotate_left
      ·simp only [Act.put, Zj, Zk, Zm, i64_w, i32_w]
       rfl
      refine take_ (i := 1) (N := some 62) (v := ?_) (a' := ?_) #[T, T, T, T, F, F, T, T, T, F, F, F, F, F, F] rfl rfl (QbH HT_.out HW_.out (by kernel_rfl)) (fun _ _ _ h => h) (Or.inl ⟨by rfl, ?_⟩) hHeld ?_ ?_
      rotate_left
      ·rintro w' ⟨s0, s1⟩
       go_simp
       with_reducible rfl
      rotate_left
      ·simp only [Act.put, Zj, Zk, Zm, i64_w, i32_w]
       rfl
      refine take_ (i := 5) (N := some 66) (v := ?_) (a' := ?_) #[T, T, T, T, F, T, T, T, T, F, F, F, F, F, F] rfl rfl (QbH HT_.out HW_.out (by kernel_rfl)) (fun _ _ _ h => h) (Or.inl ⟨by rfl, ?_⟩) hHeld ?_ ?_
      rotate_left
      ·rintro w' ⟨s0, s1⟩
       go_simp
       with_reducible rfl
      rotate_left
      ·simp only [Act.put, Zj, Zk, Zm, i64_w, i32_w]
       rfl
      refine one_ (i := 4) (N := some 65) #[T, T, T, T, T, T, T, T, T, F, F, F, F, F, F] rfl rfl (one_of HT_.out (by kernel_rfl)) (by decide) (fun K hK => ?_)
      refine goes_ Try.func64 (by kernel_rfl) rfl #[.slice A0 l0.length c0, .agg #[.string a1_0, .string a1_1], .string a2, .int .i64 (wrap64 (x18_1 + (wrap64 (Int.tdiv (wrap64 ((wrap64 (x19_1 - x18_1)) + 1)) 2))))] (by rfl) rfl rfl (Zl) ?_
      with_reducible refine (QaA.calls k1 _ _ l0 a1_0 a1_1 a2 (wrap64 (x18_1 + (wrap64 (Int.tdiv (wrap64 ((wrap64 (x19_1 - x18_1)) + 1)) 2)))) t773 _ ?side1 ?side2 A24.out).mono ?_
      (case side1 => exact Zv (Kd.C_below HR0.out HB.out))
      (case side2 => exact HC0.out)
      rintro e w27 ⟨v774, rfl, ho0, hb⟩
      refine ⟨_, rfl, ?_⟩
      have HO775 := Aside0.mk (Kd.R_lower ho0 (Qam (Zc2 GE761.out GE771.out)))
      replace BK761 := Aside0.mk (Zi BK761.out hb)
      replace BK771 := Aside0.mk (Zi BK771.out hb)
      replace HB := Aside0.mk (Qan (Zc2 GE761.out GE771.out) hb)
      (try clear hb)
      (try clear hb2)
      (try clear hk)
      (try clear hi)
      (try clear ho0)
      obtain ⟨Ao28, co28, eo28⟩ := Kd.R_slice HO775.out
      (first | subst eo28 | (injection eo28 with f1_ f2_ f3_; have f4_ := f1_.symm; have f5_ := f3_.symm; clear f1_ f2_ f3_; subst f4_; subst f5_))
      refine hK.out _ _ ⟨(Qai BK761.out 0).trans rfl, (Qai BK761.out 1).trans rfl⟩ (fun hHeld => ?_)
      clear hK K
      refine norm_ (a' := ?_) ?_ ?_
      rotate_left
      ·show Act.put _ (some 65) _ = _
       simp only [Act.put, Zj, Zk, Zm, i64_w, i32_w]
       rfl
      refine one_ (i := 9) (N := some 70) #[T, T, T, T, T, T, T, T, T, T, F, F, F, F, F] rfl rfl (one_of HT_.out (by kernel_rfl)) (by decide) (fun K hK => ?_)
      refine goes_ Try.func31 (by kernel_rfl) rfl #[.slice Ao28 t773.length co28, .agg #[.string a1_0, .string a1_1], .int .i64 a3, .slice A4 l4.length c4, .slice A5 l5.length c5] (by rfl) rfl rfl (Zl) ?_
      with_reducible refine (Qbn.calls k1 _ _ t773 a1_0 a1_1 a3 _ _ l4 _ _ l5 t776 t777 _ ?side1 ?side2 ?side3 ?side4 ?side5 ?side6 A25.out).mono ?_
      (case side1 => exact Zv (Kd.R_reads' HO775.out).2.2)
      (case side2 => exact (Kd.R_reads' HO775.out).2.1)
      (case side3 => exact Zv (Kd.C_below HR4.out HB.out))
      (case side4 => exact HC4.out)
      (case side5 => exact Zv (Kd.C_below HR5.out HB.out))
      (case side6 => exact HC5.out)
      rintro e w29 ⟨rfl, hb⟩
      refine ⟨_, rfl, ?_⟩
      replace HO775 := Aside0.mk (Kd.R_below (Zr HO775.out) hb)
      replace BK761 := Aside0.mk (Zi BK761.out hb)
      replace BK771 := Aside0.mk (Zi BK771.out hb)
      replace HB := Aside0.mk (Qan (Zc2 GE761.out GE771.out) hb)
      (try clear hb)
      (try clear hb2)
      (try clear hk)
      (try clear hi)
      refine hK.out _ _ ⟨(Qai BK761.out 0).trans rfl, (Qai BK761.out 1).trans rfl⟩ (fun hHeld => ?_)
      clear hK K
      refine norm_ (a' := ?_) ?_ ?_
      rotate_left
      ·show Act.put _ (some 70) _ = _
       simp only [Act.put, Zj, Zk, Zm, i64_w, i32_w]
       rfl
      refine pure_ (i := 10) (N := some 60) (v := ?_) (a' := ?_) #[T, T, T, T, T, T, T, T, T, T, T, F, F, F, F] rfl rfl (any_of HT_.out (by kernel_rfl)) (fun _ _ _ h => h) (Or.inl ⟨by rfl, ?_⟩) ?_ ?_
      rotate_left
      ·intro w'
       go_simp
       with_reducible rfl
      rotate_left
      ·simp only [Act.put, Zj, Zk, Zm, i64_w, i32_w]
       rfl
      refine pure_ (i := 11) (N := some 71) (v := ?_) (a' := ?_) #[T, T, T, T, T, T, T, T, T, T, T, T, F, F, F] rfl rfl (any_of HT_.out (by kernel_rfl)) (fun _ _ _ h => h) (Or.inl ⟨by rfl, ?_⟩) ?_ ?_
      rotate_left
      ·intro w'
       go_simp
       with_reducible rfl
      rotate_left
      ·simp only [Act.put, Zj, Zk, Zm, i64_w, i32_w]
       rfl
      refine pure_ (i := 12) (N := some 72) (v := ?_) (a' := ?_) #[T, T, T, T, T, T, T, T, T, T, T, T, T, F, F] rfl rfl (any_of HT_.out (by kernel_rfl)) (fun _ _ _ h => h) (Or.inl ⟨by rfl, ?_⟩) ?_ ?_
      rotate_left
      ·intro w'
       go_simp
       with_reducible rfl
      rotate_left
      ·simp only [Act.put, Zj, Zk, Zm, i64_w, i32_w]
       rfl
      refine pure_ (i := 13) (N := some 21) (v := ?_) (a' := ?_) #[T, T, T, T, T, T, T, T, T, T, T, T, T, T, F] rfl rfl (any_of HT_.out (by kernel_rfl)) (fun _ _ _ h => h) (Or.inl ⟨by rfl, ?_⟩) ?_ ?_
      rotate_left
      ·intro w'
       go_simp
       with_reducible rfl
      rotate_left
      ·simp only [Act.put, Zj, Zk, Zm, i64_w, i32_w]
       rfl
      refine pure_ (i := 14) (N := some 22) (v := ?_) (a' := ?_) #[T, T, T, T, T, T, T, T, T, T, T, T, T, T, T] rfl rfl (any_of HT_.out (by kernel_rfl)) (fun _ _ _ h => h) (Or.inl ⟨by rfl, ?_⟩) ?_ ?_
      rotate_left
      ·intro w'
       go_simp
       with_reducible rfl
      rotate_left
      ·simp only [Act.put, Zj, Zk, Zm, i64_w, i32_w]
       rfl
      refine done_ (Qb6 HT_.out (by kernel_rfl)) ?_
      go_upto_region 13 with (fail)
      by_cases c30 : t777 = 0
      ·rw [if_pos c30] at H
       have c30b0 : (t777 == 0) = T := beq_iff_eq.mpr c30
       have c30b1 : (t777 != 0) = F := bne_eq_false_iff_eq.mpr c30
       clear c30
       (try simp only [c30b0, c30b1])
       by_cases c31 : t776 ≥ a3
       ·rw [if_pos c31] at H
        have c31b0 : decide (a3 ≤ t776) = T := decide_eq_true c31
        clear c31
        (try simp only [c31b0])
        have H' := Aside0.mk H
        clear H
        go_wp2
        go_roundg k1
        case measure => have := HK1.out; omega
        case rel => exact ⟨(wrap64 (x18_1 + (wrap64 (Int.tdiv (wrap64 ((wrap64 (x19_1 - x18_1)) + 1)) 2)))), (x19_1), (Zs), (Zs), H', ⟨by have := HK1.out; omega⟩, ⟨Zu BK761.out⟩, ⟨Zu BK771.out⟩, ⟨Zc2 GE761.out GE771.out⟩⟩
       rw [if_neg c31] at H
       have c31b0 : decide (a3 ≤ t776) = F := decide_eq_false c31
       clear c31
       (try simp only [c31b0])
       have H' := Aside0.mk H
       clear H
       go_wp2
       go_roundg k1
       case measure => have := HK1.out; omega
       case rel => exact ⟨(x18_1), (wrap64 ((wrap64 (x18_1 + (wrap64 (Int.tdiv (wrap64 ((wrap64 (x19_1 - x18_1)) + 1)) 2)))) - 1)), (Zs), (Zs), H', ⟨by have := HK1.out; omega⟩, ⟨Zu BK761.out⟩, ⟨Zu BK771.out⟩, ⟨Zc2 GE761.out GE771.out⟩⟩
      rw [if_neg c30] at H
      have c30b0 : (t777 == 0) = F := beq_eq_false_iff_ne.mpr c30
      have c30b1 : (t777 != 0) = T := bne_iff_ne.mpr c30
      (try simp only [c30b0, c30b1])
      have H' := Aside0.mk H
      clear H
      go_wp2
      go_roundg k1
      case measure => have := HK1.out; omega
      case rel => exact ⟨(x18_1), (wrap64 ((wrap64 (x18_1 + (wrap64 (Int.tdiv (wrap64 ((wrap64 (x19_1 - x18_1)) + 1)) 2)))) - 1)), (Zs), (Zs), H', ⟨by have := HK1.out; omega⟩, ⟨Zu BK761.out⟩, ⟨Zu BK771.out⟩, ⟨Zc2 GE761.out GE771.out⟩⟩
     rw [if_neg c23] at H
     have c23b0 : decide (x18_1 < x19_1) = F := decide_eq_false c23
     clear c23
     (try simp only [c23b0])
     simp only [Option.some.injEq, Prod.mk.injEq] at H
     obtain ⟨rfl, rfl⟩ := H
     go_wp2
     go_ret2
     exact ⟨Zq, Zc2 GE761.out GE771.out⟩
  replace c17 := Bool.eq_false_iff.mpr c17
  subst c17
  have H1 : (some (0, 11)) = some (r1, r2) := by rw [if_neg (show ¬ (F = T) by decide)] at H; exact H
  clear H
  have H := H1
  clear H1
  simp only [Option.some.injEq, Prod.mk.injEq] at H
  obtain ⟨rfl, rfl⟩ := H
  go_wp2
  go_ret2
  exact ⟨Zq, Zc2 GE761.out GE771.out⟩
 rw [if_neg c11] at H
 have c11b0 : (t763 == 0) = F := beq_eq_false_iff_ne.mpr c11
 have c11b1 : (t763 != 0) = T := bne_iff_ne.mpr c11
 (try simp only [c11b0, c11b1])
 simp only [Option.some.injEq, Prod.mk.injEq] at H
 obtain ⟨rfl, rfl⟩ := H
 go_wp2
 go_ret2
 exact ⟨Zq, Zc1 GE761.out⟩
def contangolaw33_LimitFree.f (k : Nat) (l0_0 : List (S46)) (a0_1 : ByteArray) (a0_2 : ByteArray) (a0_3 : Int) (l0_4 : List (S84)) (l0_5 : List (S98)) (a1 : ByteArray) : Option (Bool) := (QbU.f l0_0 a0_1 a0_2 a0_3 l0_4 l0_5).bind fun t779 => (if t779 = T then ((QaP.f k l0_0 a0_1 a0_2 a1 a0_3 l0_4 l0_5).bind fun bt780 => ((QaD.f k l0_0 a0_1 a0_2 a1 a0_3 l0_4 l0_5).bind fun bt782 => (if bt780.1 = bt782.1 then (if bt780.2 = bt782.2 then ((Qbf.f k).bind fun t784 => (some t784)) else (some F)) else (some F)))) else ((Qbf.f k).bind fun t785 => (some t785)))
theorem contangolaw33_LimitFree.mono : ∀ a0 a1 a2 a3 a4 a5 a6 k, LeO (contangolaw33_LimitFree.f k a0 a1 a2 a3 a4 a5 a6) (contangolaw33_LimitFree.f (k + 1) a0 a1 a2 a3 a4 a5 a6) := by
 intro a0 a1 a2 a3 a4 a5 a6 k
 unfold contangolaw33_LimitFree.f
 exact ZM3 Qbf.mono QaD.mono QaP.mono
theorem contangolaw33_LimitFree.calls (k : Nat) (A0_0 : Option Addr) (c0_0 : Nat) (l0_0 : List (S46)) (a0_1 : ByteArray) (a0_2 : ByteArray) (a0_3 : Int) (A0_4 : Option Addr) (c0_4 : Nat) (l0_4 : List (S84)) (A0_5 : Option Addr) (c0_5 : Nat) (l0_5 : List (S98)) (a1 : ByteArray) (r : Bool) (w : World) (hr0_0 : Kd.C k46 w A0_0 l0_0.length l0_0) (hc0_0 : l0_0.length ≤ c0_0) (hr0_4 : Kd.C k84 w A0_4 l0_4.length l0_4) (hc0_4 : l0_4.length ≤ c0_4) (hr0_5 : Kd.C k98 w A0_5 l0_5.length l0_5) (hc0_5 : l0_5.length ≤ c0_5) (h : contangolaw33_LimitFree.f k l0_0 a0_1 a0_2 a0_3 l0_4 l0_5 a1 = some r) :
  Calls Try.prog 9 #[.agg #[.slice A0_0 l0_0.length c0_0, .string a0_1, .string a0_2, .int .i64 a0_3, .slice A0_4 l0_4.length c0_4, .slice A0_5 l0_5.length c0_5], .string a1] w fun e w' => e = .returned (.bool r) ∧ Below w.heap.size w w' := by
 have hu61 := Try.underlying61
 have hu44 := Try.underlying44
 have HR0_0 := Aside0.mk hr0_0
 have HC0_0 := Aside0.mk hc0_0
 clear hr0_0 hc0_0
 have HR0_4 := Aside0.mk hr0_4
 have HC0_4 := Aside0.mk hc0_4
 clear hr0_4 hc0_4
 have HR0_5 := Aside0.mk hr0_5
 have HC0_5 := Aside0.mk hc0_5
 clear hr0_5 hc0_5
 have HB := Aside0.mk (Below.refl w.heap.size w)
 have H : ((QbU.f l0_0 a0_1 a0_2 a0_3 l0_4 l0_5).bind fun t779 => (if t779 = T then ((QaP.f k l0_0 a0_1 a0_2 a1 a0_3 l0_4 l0_5).bind fun bt780 => ((QaD.f k l0_0 a0_1 a0_2 a1 a0_3 l0_4 l0_5).bind fun bt782 => (if bt780.1 = bt782.1 then (if bt780.2 = bt782.2 then ((Qbf.f k).bind fun t784 => (some t784)) else (some F)) else (some F)))) else ((Qbf.f k).bind fun t785 => (some t785)))) = some r := h
 clear h
 replace H := Option.bind_eq_some_iff.mp H
 obtain ⟨t779, A30, H⟩ := H
 replace H : (if t779 = T then ((QaP.f k l0_0 a0_1 a0_2 a1 a0_3 l0_4 l0_5).bind fun bt780 => ((QaD.f k l0_0 a0_1 a0_2 a1 a0_3 l0_4 l0_5).bind fun bt782 => (if bt780.1 = bt782.1 then (if bt780.2 = bt782.2 then ((Qbf.f k).bind fun t784 => (some t784)) else (some F)) else (some F)))) else ((Qbf.f k).bind fun t785 => (some t785))) = some r := H
 have A3 := Aside0.mk A30
 clear A30
 go_enter Try.func9, Try.ntmps9
 go_upto_if 11 with (first | ((with_reducible refine QaK (N := 2) rfl ?_); refine Zbx (N := 2) (cs := #[.slice A0_0 l0_0.length c0_0, .string a0_1, .string a0_2, .int .i64 a0_3, .slice A0_4 l0_4.length c0_4, .slice A0_5 l0_5.length c0_5]) (t := 61) ?_; intro gb778 hg w4 hbox hb; have BK778 := Aside0.mk (hbox); have GW778 := Aside0.mk (Zt w hg (Zb)); have GE778 := GW778; replace HB := Aside0.mk (Qan (Zb) hb); clear hb hbox hg; obtain ⟨hcz5_0, hfz5_0⟩ := Zy (v := (.slice A0_0 l0_0.length c0_0)) BK778.out 0; obtain ⟨hcz5_1, hfz5_1⟩ := Zy (v := (.string a0_1)) BK778.out 1; obtain ⟨hcz5_2, hfz5_2⟩ := Zy (v := (.string a0_2)) BK778.out 2; obtain ⟨hcz5_3, hfz5_3⟩ := Zy (v := (.int .i64 a0_3)) BK778.out 3; obtain ⟨hcz5_4, hfz5_4⟩ := Zy (v := (.slice A0_4 l0_4.length c0_4)) BK778.out 4; obtain ⟨hcz5_5, hfz5_5⟩ := Zy (v := (.slice A0_5 l0_5.length c0_5)) BK778.out 5) | ((with_reducible refine Qax (f := 26) rfl ?_); refine goesL_ (some 10) rfl rfl Try.func26 (by kernel_rfl) rfl #[.agg #[.slice A0_0 l0_0.length c0_0, .string a0_1, .string a0_2, .int .i64 a0_3, .slice A0_4 l0_4.length c0_4, .slice A0_5 l0_5.length c0_5]] rfl (Zl) ?_; (with_reducible refine (QbU.calls _ _ l0_0 a0_1 a0_2 a0_3 _ _ l0_4 _ _ l0_5 t779 _ ?side1 ?side2 ?side3 ?side4 ?side5 ?side6 A3.out).mono ?_); (case side1 => exact Zv (Kd.C_below HR0_0.out HB.out)); (case side2 => exact HC0_0.out); (case side3 => exact Zv (Kd.C_below HR0_4.out HB.out)); (case side4 => exact HC0_4.out); (case side5 => exact Zv (Kd.C_below HR0_5.out HB.out)); (case side6 => exact HC0_5.out); rintro e w6 ⟨rfl, hb⟩; refine ⟨_, rfl, ?_⟩; replace BK778 := Aside0.mk (Zi BK778.out hb); replace HB := Aside0.mk (Qan (Zc1 GE778.out) hb); (try clear hb); (try clear hb2); (try clear hk); (try clear hi)))
 (try simp only [Act.put, Zj, Zk, Zm])
 by_cases c7 : t779 = T
 ·subst c7
  have H1 : ((QaP.f k l0_0 a0_1 a0_2 a1 a0_3 l0_4 l0_5).bind fun bt780 => ((QaD.f k l0_0 a0_1 a0_2 a1 a0_3 l0_4 l0_5).bind fun bt782 => (if bt780.1 = bt782.1 then (if bt780.2 = bt782.2 then ((Qbf.f k).bind fun t784 => (some t784)) else (some F)) else (some F)))) = some r := by rw [if_pos rfl] at H; exact H
  clear H
  have H := H1
  clear H1
  replace H := Option.bind_eq_some_iff.mp H
  obtain ⟨⟨t780, t781⟩, A80, H⟩ := H
  replace H : ((QaD.f k l0_0 a0_1 a0_2 a1 a0_3 l0_4 l0_5).bind fun bt782 => (if t780 = bt782.1 then (if t781 = bt782.2 then ((Qbf.f k).bind fun t784 => (some t784)) else (some F)) else (some F))) = some r := H
  have A8 := Aside0.mk A80
  clear A80
  replace H := Option.bind_eq_some_iff.mp H
  obtain ⟨⟨t782, t783⟩, A90, H⟩ := H
  replace H : (if t780 = t782 then (if t781 = t783 then ((Qbf.f k).bind fun t784 => (some t784)) else (some F)) else (some F)) = some r := H
  have A9 := Aside0.mk A90
  clear A90
  obtain ⟨hcz10_0, hfz10_0⟩ := Zy (v := (.slice A0_0 l0_0.length c0_0)) BK778.out 0
  obtain ⟨hcz10_1, hfz10_1⟩ := Zy (v := (.string a0_1)) BK778.out 1
  obtain ⟨hcz10_2, hfz10_2⟩ := Zy (v := (.string a0_2)) BK778.out 2
  obtain ⟨hcz10_3, hfz10_3⟩ := Zy (v := (.int .i64 a0_3)) BK778.out 3
  obtain ⟨hcz10_4, hfz10_4⟩ := Zy (v := (.slice A0_4 l0_4.length c0_4)) BK778.out 4
  obtain ⟨hcz10_5, hfz10_5⟩ := Zy (v := (.slice A0_5 l0_5.length c0_5)) BK778.out 5
  go_upto_region 5 with (first | ((with_reducible refine Qax (f := 33) rfl ?_); refine goesL_ (some 25) rfl rfl Try.func33 (by kernel_rfl) rfl #[.slice A0_0 l0_0.length c0_0, .agg #[.string a0_1, .string a0_2], .string a1, .int .i64 a0_3, .slice A0_4 l0_4.length c0_4, .slice A0_5 l0_5.length c0_5] rfl (Zl) ?_; (with_reducible refine (QaP.calls k _ _ l0_0 a0_1 a0_2 a1 a0_3 _ _ l0_4 _ _ l0_5 t780 t781 _ ?side1 ?side2 ?side3 ?side4 ?side5 ?side6 A8.out).mono ?_); (case side1 => exact Zv (Kd.C_below HR0_0.out HB.out)); (case side2 => exact HC0_0.out); (case side3 => exact Zv (Kd.C_below HR0_4.out HB.out)); (case side4 => exact HC0_4.out); (case side5 => exact Zv (Kd.C_below HR0_5.out HB.out)); (case side6 => exact HC0_5.out); rintro e w11 ⟨rfl, hb⟩; refine ⟨_, rfl, ?_⟩; replace BK778 := Aside0.mk (Zi BK778.out hb); replace HB := Aside0.mk (Qan (Zc1 GE778.out) hb); (try clear hb); (try clear hb2); (try clear hk); (try clear hi); obtain ⟨hcz12_0, hfz12_0⟩ := Zy (v := (.slice A0_0 l0_0.length c0_0)) BK778.out 0; obtain ⟨hcz12_1, hfz12_1⟩ := Zy (v := (.string a0_1)) BK778.out 1; obtain ⟨hcz12_2, hfz12_2⟩ := Zy (v := (.string a0_2)) BK778.out 2; obtain ⟨hcz12_3, hfz12_3⟩ := Zy (v := (.int .i64 a0_3)) BK778.out 3; obtain ⟨hcz12_4, hfz12_4⟩ := Zy (v := (.slice A0_4 l0_4.length c0_4)) BK778.out 4; obtain ⟨hcz12_5, hfz12_5⟩ := Zy (v := (.slice A0_5 l0_5.length c0_5)) BK778.out 5) | ((with_reducible refine Qax (f := 34) rfl ?_); refine goesL_ (some 40) rfl rfl Try.func34 (by kernel_rfl) rfl #[.slice A0_0 l0_0.length c0_0, .agg #[.string a0_1, .string a0_2], .string a1, .int .i64 a0_3, .slice A0_4 l0_4.length c0_4, .slice A0_5 l0_5.length c0_5] rfl (Zl) ?_; (with_reducible refine (QaD.calls k _ _ l0_0 a0_1 a0_2 a1 a0_3 _ _ l0_4 _ _ l0_5 t782 t783 _ ?side1 ?side2 ?side3 ?side4 ?side5 ?side6 A9.out).mono ?_); (case side1 => exact Zv (Kd.C_below HR0_0.out HB.out)); (case side2 => exact HC0_0.out); (case side3 => exact Zv (Kd.C_below HR0_4.out HB.out)); (case side4 => exact HC0_4.out); (case side5 => exact Zv (Kd.C_below HR0_5.out HB.out)); (case side6 => exact HC0_5.out); rintro e w13 ⟨rfl, hb⟩; refine ⟨_, rfl, ?_⟩; replace BK778 := Aside0.mk (Zi BK778.out hb); replace HB := Aside0.mk (Qan (Zc1 GE778.out) hb); (try clear hb); (try clear hb2); (try clear hk); (try clear hi)))
  (try simp only [Act.put, Zj, Zk, Zm])
  by_cases c14 : t780 = t782
  ·rw [if_pos c14] at H
   have c14b0 : (t780 == t782) = T := beq_iff_eq.mpr c14
   have c14b1 : (t780 != t782) = F := bne_eq_false_iff_eq.mpr c14
   clear c14
   (try simp only [c14b0, c14b1])
   by_cases c15 : t781 = t783
   ·rw [if_pos c15] at H
    have c15b0 : (t781 == t783) = T := beq_iff_eq.mpr c15
    have c15b1 : (t781 != t783) = F := bne_eq_false_iff_eq.mpr c15
    clear c15
    replace H := Option.bind_eq_some_iff.mp H
    obtain ⟨t784, A160, H⟩ := H
    replace H : (some t784) = some r := H
    have A16 := Aside0.mk A160
    clear A160
    obtain rfl := Option.some.inj H
    go_wp2_with (first | (go_at_call 27; (with_reducible refine (Qbf.calls k  t784 _ A16.out).mono ?_); rintro e w17 ⟨rfl, hb⟩; replace BK778 := Aside0.mk (Zi BK778.out hb); replace HB := Aside0.mk (Qan (Zc1 GE778.out) hb); (try clear hb); (try clear hb2); (try clear hk); (try clear hi)))
    go_ret
    exact ⟨Zq, Zc1 GE778.out⟩
   rw [if_neg c15] at H
   have c15b0 : (t781 == t783) = F := beq_eq_false_iff_ne.mpr c15
   have c15b1 : (t781 != t783) = T := bne_iff_ne.mpr c15
   obtain rfl := Option.some.inj H
   go_wp2
   go_ret
   exact ⟨Zq, Zc1 GE778.out⟩
  rw [if_neg c14] at H
  have c14b0 : (t780 == t782) = F := beq_eq_false_iff_ne.mpr c14
  have c14b1 : (t780 != t782) = T := bne_iff_ne.mpr c14
  (try simp only [c14b0, c14b1])
  obtain rfl := Option.some.inj H
  go_wp2
  go_ret
  exact ⟨Zq, Zc1 GE778.out⟩
 replace c7 := Bool.eq_false_iff.mpr c7
 subst c7
 have H1 : ((Qbf.f k).bind fun t785 => (some t785)) = some r := by rw [if_neg (show ¬ (F = T) by decide)] at H; exact H
 clear H
 have H := H1
 clear H1
 replace H := Option.bind_eq_some_iff.mp H
 obtain ⟨t785, A180, H⟩ := H
 replace H : (some t785) = some r := H
 have A18 := Aside0.mk A180
 clear A180
 obtain rfl := Option.some.inj H
 go_wp2_with (first | ((with_reducible refine Qax (f := 27) rfl ?_); refine goesL_ (some 12) rfl rfl Try.func27 (by kernel_rfl) rfl #[] rfl (Zl) ?_; (with_reducible refine (Qbf.calls k  t785 _ A18.out).mono ?_); rintro e w19 ⟨rfl, hb⟩; refine ⟨_, rfl, ?_⟩; replace BK778 := Aside0.mk (Zi BK778.out hb); replace HB := Aside0.mk (Qan (Zc1 GE778.out) hb); (try clear hb); (try clear hb2); (try clear hk); (try clear hi)))
 go_ret
 exact ⟨Zq, Zc1 GE778.out⟩
end Go.Proofs.Ytfcaaefdmabkhaa.Pr
