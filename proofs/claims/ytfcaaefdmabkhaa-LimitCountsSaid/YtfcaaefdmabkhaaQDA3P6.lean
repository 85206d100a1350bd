/- Functions' values and contracts, as the print wrote them. -/
import Derived.Test.YtfcaaefdmabkhaaQDA3P0
import Derived.Test.YtfcaaefdmabkhaaQDA3P2
import Derived.Test.YtfcaaefdmabkhaaQDA3P3
import Derived.Test.YtfcaaefdmabkhaaQDA3P5
import Derived.Test.YtfcaaefdmabkhaaQDA3P1
namespace Go.Proofs.Ytfcaaefdmabkhaa.Pr
open Bool renaming true → T
open Bool renaming false → F
open Go.RowKit Go.Proofs.YtfcaaefdmabkhaaW.PrintWords Go.Proofs.YtfcaaefdmabkhaaW.PrintLast Go.Proofs.YtfcaaefdmabkhaaW.PrintMore
attribute [local go_sem] QaQ QaS Qa1 Qa2 QaJ QaK QaR QaT   -- for this text's walks alone
set_option linter.unusedVariables false
set_option linter.unusedSimpArgs false
set_option maxRecDepth 100000
set_option maxHeartbeats 8000000
mutual
def Qaq.j0 : Nat → List (S46) → Int → List (S84) → List (S98) → Bool → ByteArray → ByteArray → Option (List Int × Int)
 | 0, _, _, _, _, _, _, _ => none
 | k + 1, x0, x2, x3, x4, x39, x432000, x432001 => if x39 = T then (some (([] : List Int), 2)) else ((QaI.f k x0 x432000 x432001).bind fun t434 => (Qaq.l0 k x2 x3 x4 ([] : List Int) t434 0))
def Qaq.l0 : Nat → Int → List (S84) → List (S98) → List Int → List (S46) → Int → Option (List Int × Int)
 | 0, _, _, _, _, _, _ => none
 | k + 1, x2, x3, x4, x14, x15, x16 => if x16 < (x15.length : Int) then (if 0 ≤ x16 then ((QaM.f k x3 ((rd_T46 x15 x16).f1)).bind fun bt438 => ((Qa7.f k bt438.1 bt438.2.1 bt438.2.2.1 bt438.2.2.2.1 bt438.2.2.2.2.1 bt438.2.2.2.2.2.1 ((rd_T46 x15 x16).f2) x4).bind fun bt447 => ((Qa9.f x2 bt438.2.2.2.2.2.1 1000 3).bind fun bt449 => (if bt447.1 > bt449.1 then (if x14.length < 17592186044416 then (Qaq.l0 k x2 x3 x4 (x14 ++ [bt449.1]) x15 (wrap64 (x16 + 1))) else (none)) else (if x14.length < 17592186044416 then (Qaq.l0 k x2 x3 x4 (x14 ++ [bt447.1]) x15 (wrap64 (x16 + 1))) else (none)))))) else (none)) else (some (x14, 0))
end
def Qaq.f (k : Nat) (l0 : List (S46)) (a1_0 : ByteArray) (a1_1 : ByteArray) (a2 : Int) (l3 : List (S84)) (l4 : List (S98)) : Option (List Int × Int) := (QaB.f k l0 a1_0 a1_1 l3 l4).bind fun bt432 => (if bt432.2 = 0 then (if a2 < 0 then (Qaq.j0 k l0 a2 l3 l4 T a1_0 a1_1) else (Qaq.j0 k l0 a2 l3 l4 (decide (a2 > 1152921504606846976)) a1_0 a1_1)) else (some (([] : List Int), bt432.2)))
theorem Qaq.mono_l : ∀ k, (∀ y0 y1 y2 y3 y4 y5 y6, LeO (Qaq.j0 k y0 y1 y2 y3 y4 y5 y6) (Qaq.j0 (k + 1) y0 y1 y2 y3 y4 y5 y6)) ∧ (∀ y0 y1 y2 y3 y4 y5, LeO (Qaq.l0 k y0 y1 y2 y3 y4 y5) (Qaq.l0 (k + 1) y0 y1 y2 y3 y4 y5))
 | 0 => ⟨fun _ _ _ _ _ _ _ r h => by simp [Qaq.j0] at h, fun _ _ _ _ _ _ r h => by simp [Qaq.l0] at h⟩
 | k + 1 => by
  obtain ⟨ih0, ih1⟩ := Qaq.mono_l k
  refine ⟨?_, ?_⟩
  ·intro y0 y1 y2 y3 y4 y5 y6
   unfold Qaq.j0
   exact ZM6 ih0 ih1 QaM.mono Qa7.mono QaI.mono QaB.mono
  intro y0 y1 y2 y3 y4 y5
  unfold Qaq.l0
  exact ZM6 ih0 ih1 QaM.mono Qa7.mono QaI.mono QaB.mono
theorem Qaq.mono : ∀ a0 a1 a2 a3 a4 a5 k, LeO (Qaq.f k a0 a1 a2 a3 a4 a5) (Qaq.f (k + 1) a0 a1 a2 a3 a4 a5) := by
 intro a0 a1 a2 a3 a4 a5 k
 obtain ⟨ih0, ih1⟩ := Qaq.mono_l k
 unfold Qaq.f
 exact ZM6 ih0 ih1 QaM.mono Qa7.mono QaI.mono QaB.mono
def Qaq.T12 : Bool × List (List Nat × List Nat) := (T, [([], []), ([], []), ([], []), ([1, 2], [1, 2]), ([3], [3]), ([4], [4]), ([], []), ([0, 5, 6], [0, 5, 6]), ([7], [7]), ([8], [8]), ([8], [8]), ([9, 7, 0, 1, 2, 3, 4, 5, 6, 7, 8, 9], [9]), ([10, 11, 0, 1, 2, 3, 4, 5, 6, 7, 8, 9, 10, 11], [10])])
def Qaq.B12 : List Nat := [0, 0, 0, 6, 14, 30, 0, 127, 255, 511, 511, 1023, 4095]
theorem Qaq.tab12 : rtab .any (opsOf Try.f29 12) = Qaq.T12 := by kernel_rfl
theorem Qaq.bits12 : Qb0 Qaq.T12.2 Qaq.B12 = T := by kernel_rfl
theorem Qaq.calls (k : Nat) (A0 : Option Addr) (c0 : Nat) (l0 : List (S46)) (a1_0 : ByteArray) (a1_1 : ByteArray) (a2 : Int) (A3 : Option Addr) (c3 : Nat) (l3 : List (S84)) (A4 : Option Addr) (c4 : Nat) (l4 : List (S98)) (r1 : List Int) (r2 : Int) (w : World) (hr0 : Kd.C k46 w A0 l0.length l0) (hc0 : l0.length ≤ c0) (hr3 : Kd.C k84 w A3 l3.length l3) (hc3 : l3.length ≤ c3) (hr4 : Kd.C k98 w A4 l4.length l4) (hc4 : l4.length ≤ c4) (h : Qaq.f k l0 a1_0 a1_1 a2 l3 l4 = some (r1, r2)) :
  Calls Try.prog 29 #[.slice A0 l0.length c0, .agg #[.string a1_0, .string a1_1], .int .i64 a2, .slice A3 l3.length c3, .slice A4 l4.length c4] w fun e w' => ∃ v0_ : Value, e = .returned (.tuple #[v0_, .int .i64 r2]) ∧ Kd.R (Kd.int .i64) 3 w' w.heap.size (fun _ => True) v0_ r1 ∧ Below w.heap.size w w' := by
 have hu44 := Try.underlying44
 have hu84 := Try.underlying84
 have HR0 := Aside0.mk hr0
 have HC0 := Aside0.mk hc0
 clear hr0 hc0
 have HR3 := Aside0.mk hr3
 have HC3 := Aside0.mk hc3
 clear hr3 hc3
 have HR4 := Aside0.mk hr4
 have HC4 := Aside0.mk hc4
 clear hr4 hc4
 have HB := Aside0.mk (Below.refl w.heap.size w)
 have H : ((QaB.f k l0 a1_0 a1_1 l3 l4).bind fun bt432 => (if bt432.2 = 0 then (if a2 < 0 then (Qaq.j0 k l0 a2 l3 l4 T a1_0 a1_1) else (Qaq.j0 k l0 a2 l3 l4 (decide (a2 > 1152921504606846976)) a1_0 a1_1)) else (some (([] : List Int), bt432.2)))) = some (r1, r2) := h
 clear h
 replace H := Option.bind_eq_some_iff.mp H
 obtain ⟨⟨t432, t433⟩, A60, H⟩ := H
 replace H : (if t433 = 0 then (if a2 < 0 then (Qaq.j0 k l0 a2 l3 l4 T a1_0 a1_1) else (Qaq.j0 k l0 a2 l3 l4 (decide (a2 > 1152921504606846976)) a1_0 a1_1)) else (some (([] : List Int), t433))) = some (r1, r2) := H
 have A6 := Aside0.mk A60
 clear A60
 go_enter Try.func29, Try.ntmps29
 go_upto_if 32 with (first | ((with_reducible refine QaL (N := 6) rfl ?_); refine Zbx (N := 6) (cs := #[.string a1_0, .string a1_1]) (t := 44) ?_; intro gb431 hg w7 hbox hb; have BK431 := Aside0.mk (hbox); have GW431 := Aside0.mk (Zt w hg (Zb)); have GE431 := GW431; replace HB := Aside0.mk (Qan (Zb) hb); clear hb hbox hg; obtain ⟨hcz8_0, hfz8_0⟩ := Zy (v := (.string a1_0)) BK431.out 0; obtain ⟨hcz8_1, hfz8_1⟩ := Zy (v := (.string a1_1)) BK431.out 1) | ((with_reducible refine Qaw (f := 37) rfl ?_); refine goesL_ (some 28) rfl rfl Try.func37 (by kernel_rfl) rfl #[.slice A0 l0.length c0, .agg #[.string a1_0, .string a1_1], .slice A3 l3.length c3, .slice A4 l4.length c4] rfl (Zl) ?_; (with_reducible refine (QaB.calls k _ _ l0 a1_0 a1_1 _ _ l3 _ _ l4 t432 t433 _ ?side1 ?side2 ?side3 ?side4 ?side5 ?side6 A6.out).mono ?_); (case side1 => exact Zv (Kd.C_below HR0.out HB.out)); (case side2 => exact HC0.out); (case side3 => exact Zv (Kd.C_below HR3.out HB.out)); (case side4 => exact HC3.out); (case side5 => exact Zv (Kd.C_below HR4.out HB.out)); (case side6 => exact HC4.out); rintro e w9 ⟨rfl, hb⟩; refine ⟨_, rfl, ?_⟩; replace BK431 := Aside0.mk (Zi BK431.out hb); replace HB := Aside0.mk (Qan (Zc1 GE431.out) hb); (try clear hb); (try clear hb2); (try clear hk); (try clear hi)))
 (try simp only [Act.put, Zj, Zk, Zm])
 by_cases c10 : t433 = 0
 ·rw [if_pos c10] at H
  have c10b0 : (t433 == 0) = T := beq_iff_eq.mpr c10
  have c10b1 : (t433 != 0) = F := bne_eq_false_iff_eq.mpr c10
  clear c10
  (try simp only [c10b0, c10b1])
  have HC11 := Aside0.mk H
  clear H
  go_upto_region 4 with (fail)
  go_cut [39] (fun v39 wc => ∃ (kq : Nat) (x39_10 : Bool), v39 = .bool x39_10 ∧ Aside0 (Qaq.j0 kq l0 a2 l3 l4 x39_10 a1_0 a1_1 = some (r1, r2)) ∧ Aside0 (kq ≤ k) ∧ Aside0 (wc.heap[gb431]? = some (.cells #[.string a1_0, .string a1_1] 44 (0, 0))) ∧ Aside0 (Below w.heap.size w wc))
  case first =>
   have H := HC11.out
   clear HC11
   by_cases c12 : a2 < 0
   ·rw [if_pos c12] at H
    have c12b0 : decide (a2 < 0) = T := decide_eq_true c12
    clear c12
    have H' := Aside0.mk H
    clear H
    go_wp2
    go_meet
    case rel => exact ⟨_, (T), (Zs), H', ⟨by first | omega | exact Nat.le_refl _⟩, ⟨Zu BK431.out⟩, ⟨Zc1 GE431.out⟩⟩
   rw [if_neg c12] at H
   have c12b0 : decide (a2 < 0) = F := decide_eq_false c12
   clear c12
   have H' := Aside0.mk H
   clear H
   go_wp2
   go_meet
   case rel => exact ⟨_, (decide (a2 > 1152921504606846976)), (Zs), H', ⟨by first | omega | exact Nat.le_refl _⟩, ⟨Zu BK431.out⟩, ⟨Zc1 GE431.out⟩⟩
  case rest =>
   clear HC11
   try clear c1
   try clear c2
   try clear p2
   try clear c3
   try clear c4
   try clear c10
   try clear c10b0
   try clear c10b1
   try clear c12
   try clear c12b0
   try clear hcz8_0
   try clear hcz8_1
   try clear hfz8_0
   try clear hfz8_1
   obtain ⟨kq, x39_10, rfl, HA, HJ10, BK431, HB⟩ := hcut
   cases kq with
   | zero => exact absurd HA.out (by simp [Qaq.j0])
   | succ kj10 =>
    have H := HA.out
    clear HA
    simp only [Qaq.j0] at H
    by_cases c13 : x39_10 = T
    ·subst c13
     have H1 : (some (([] : List Int), 2)) = some (r1, r2) := by rw [if_pos rfl] at H; exact H
     clear H
     have H := H1
     clear H1
     simp only [Option.some.injEq, Prod.mk.injEq] at H
     obtain ⟨rfl, rfl⟩ := H
     go_wp2
     go_ret2
     exact ⟨_, Zq, by first | exact Kd.R_nil _ _ _ _ _ | exact Kd.N_nil _ _ _ _ _ | exact Kd.V_nil _ _ _ _ _ | exact Kd.Q_nil _ _ _ _ _ | exact Kd.S_nil _ _ _ _ _, Zc1 GE431.out⟩
    replace c13 := Bool.eq_false_iff.mpr c13
    subst c13
    have H1 : ((QaI.f kj10 l0 a1_0 a1_1).bind fun t434 => (Qaq.l0 kj10 a2 l3 l4 ([] : List Int) t434 0)) = some (r1, r2) := by rw [if_neg (show ¬ (F = T) by decide)] at H; exact H
    clear H
    have H := H1
    clear H1
    replace H := Option.bind_eq_some_iff.mp H
    obtain ⟨t434, A140, H⟩ := H
    replace H : (Qaq.l0 kj10 a2 l3 l4 ([] : List Int) t434 0) = some (r1, r2) := H
    have A14 := Aside0.mk A140
    clear A140
    have H' := Aside0.mk H
    clear H
    obtain ⟨hcz15_0, hfz15_0⟩ := Zy (v := (.string a1_0)) BK431.out 0
    obtain ⟨hcz15_1, hfz15_1⟩ := Zy (v := (.string a1_1)) BK431.out 1
    go_wp2_with (first | ((with_reducible refine Qaw (f := 40) rfl ?_); refine goesL_ (some 42) rfl rfl Try.func40 (by kernel_rfl) rfl #[.slice A0 l0.length c0, .agg #[.string a1_0, .string a1_1]] rfl (Zl) ?_; (with_reducible refine (QaI.calls kj10 _ _ l0 a1_0 a1_1 t434 _ ?side1 ?side2 A14.out).mono ?_); (case side1 => exact Zv (Kd.C_below HR0.out HB.out)); (case side2 => exact HC0.out); rintro e w16 ⟨v435, rfl, ho0, hb⟩; refine ⟨_, rfl, ?_⟩; have HO436 := Aside0.mk (Kd.R_lower ho0 (Qam (Zc1 GE431.out))); replace BK431 := Aside0.mk (Zi BK431.out hb); replace HB := Aside0.mk (Qan (Zc1 GE431.out) hb); (try clear hb); (try clear hb2); (try clear hk); (try clear hi); (try clear ho0)))
    go_loopg [14, 16] kj10 (fun kq v14 v16 w' => ∃ (x14_2 : List Int) (x16_2 : Int), v16 = .int .i64 x16_2 ∧ Aside0 (Qaq.l0 kq a2 l3 l4 x14_2 t434 x16_2 = some (r1, r2)) ∧ Aside0 (kq ≤ kj10) ∧ Aside0 (Kd.R (Kd.int .i64) 3 w' w.heap.size (fun _ => True) v14 x14_2) ∧ Aside0 (Kd.R k46 46 w' w.heap.size (fun _ => True) v435 t434) ∧ Aside0 (w'.heap[gb431]? = some (.cells #[.string a1_0, .string a1_1] 44 (0, 0))) ∧ Aside0 (Below w.heap.size w w'))
    case atStart => exact ⟨(([] : List Int)), (0), (Zs), H', ⟨Nat.le_refl _⟩, ⟨by first | exact Kd.R_nil _ _ _ _ _ | exact Kd.N_nil _ _ _ _ _ | exact Kd.V_nil _ _ _ _ _ | exact Kd.Q_nil _ _ _ _ _ | exact Kd.S_nil _ _ _ _ _⟩, ⟨Zr HO436.out⟩, ⟨Zu BK431.out⟩, ⟨Zc1 GE431.out⟩⟩
    case round =>
     clear H'
     try clear c1
     try clear c2
     try clear p2
     try clear c3
     try clear c4
     try clear c10
     try clear c10b0
     try clear c10b1
     try clear c12
     try clear c12b0
     try clear c13
     try clear hcz15_0
     try clear hcz15_1
     try clear hcz8_0
     try clear hcz8_1
     try clear hfz15_0
     try clear hfz15_1
     try clear hfz8_0
     try clear hfz8_1
     try clear p2
     obtain ⟨x14_2, x16_2, rfl, HA, HK2, HO_14, HO_15, BK431, HB⟩ := hrel
     cases gk with
     | zero => exact absurd HA.out (by simp [Qaq.l0])
     | succ k2 =>
      have H := HA.out
      clear HA
      simp only [Qaq.l0] at H
      obtain ⟨Ao17, co17, eo17⟩ := Kd.R_slice HO_15.out
      subst eo17
      go_upto_if 46 with (fail)
      by_cases c18 : x16_2 < (t434.length : Int)
      ·rw [if_pos c18] at H
       have c18b0 : decide (x16_2 < (t434.length : Int)) = T := decide_eq_true c18
       clear c18
       (try simp only [c18b0])
       by_cases c19 : 0 ≤ x16_2
       ·rw [if_pos c19] at H
        have c19b0 : decide (0 ≤ x16_2) = T := decide_eq_true c19
        clear c19
        replace H := Option.bind_eq_some_iff.mp H
        obtain ⟨⟨t438, t439, t440, t441, t442, t443, t444⟩, A200, H⟩ := H
        replace H : ((Qa7.f k2 t438 t439 t440 t441 t442 t443 ((rd_T46 t434 x16_2).f2) l4).bind fun bt447 => ((Qa9.f a2 t443 1000 3).bind fun bt449 => (if bt447.1 > bt449.1 then (if x14_2.length < 17592186044416 then (Qaq.l0 k2 a2 l3 l4 (x14_2 ++ [bt449.1]) t434 (wrap64 (x16_2 + 1))) else (none)) else (if x14_2.length < 17592186044416 then (Qaq.l0 k2 a2 l3 l4 (x14_2 ++ [bt447.1]) t434 (wrap64 (x16_2 + 1))) else (none))))) = some (r1, r2) := H
        have A20 := Aside0.mk A200
        clear A200
        replace H := Option.bind_eq_some_iff.mp H
        obtain ⟨⟨t447, t448⟩, A210, H⟩ := H
        replace H : ((Qa9.f a2 t443 1000 3).bind fun bt449 => (if t447 > bt449.1 then (if x14_2.length < 17592186044416 then (Qaq.l0 k2 a2 l3 l4 (x14_2 ++ [bt449.1]) t434 (wrap64 (x16_2 + 1))) else (none)) else (if x14_2.length < 17592186044416 then (Qaq.l0 k2 a2 l3 l4 (x14_2 ++ [t447]) t434 (wrap64 (x16_2 + 1))) else (none)))) = some (r1, r2) := H
        have A21 := Aside0.mk A210
        clear A210
        replace H := Option.bind_eq_some_iff.mp H
        obtain ⟨⟨t449, t450⟩, A220, H⟩ := H
        replace H : (if t447 > t449 then (if x14_2.length < 17592186044416 then (Qaq.l0 k2 a2 l3 l4 (x14_2 ++ [t449]) t434 (wrap64 (x16_2 + 1))) else (none)) else (if x14_2.length < 17592186044416 then (Qaq.l0 k2 a2 l3 l4 (x14_2 ++ [t447]) t434 (wrap64 (x16_2 + 1))) else (none))) = some (r1, r2) := H
        have A22 := Aside0.mk A220
        clear A220
        have p437 : 0 ≤ (x16_2 : Int) := Ze
        have q437 : x16_2 < (t434.length : Int) := Ze
        obtain ⟨ad437, e437, hx437_0, hx437_1, hx437_2, hx437_3⟩ := at_T46 (Kd.R_reads' HO_15.out).2.2 x16_2 p437 q437
        cases e437
        replace p437 := eq_true p437
        replace q437 := eq_true q437
        try go_wp2_with (first | ((with_reducible refine Qaw (f := 41) rfl ?_); refine goesL_ (some 56) rfl rfl Try.func41 (by kernel_rfl) rfl #[.slice A3 l3.length c3, .string ((rd_T46 t434 x16_2).f1)] rfl (Zl) ?_; (with_reducible refine (QaM.calls k2 _ _ l3 ((rd_T46 t434 x16_2).f1) t438 t439 t440 t441 t442 t443 t444 _ ?side1 ?side2 A20.out).mono ?_); (case side1 => exact Zv (Kd.C_below HR3.out HB.out)); (case side2 => exact HC3.out); rintro e w23 ⟨rfl, hb⟩; refine ⟨_, rfl, ?_⟩; replace HO_14 := Aside0.mk (Kd.R_below (Zr HO_14.out) hb); replace HO_15 := Aside0.mk (Kd.R_below (Zr HO_15.out) hb); replace BK431 := Aside0.mk (Zi BK431.out hb); replace HB := Aside0.mk (Qan (Zc1 GE431.out) hb); (try clear hb); (try clear hb2); (try clear hk); (try clear hi)) | ((with_reducible refine QaL (N := 17) rfl ?_); refine Zbx (N := 17) (cs := #[.string (⟨#[]⟩ : ByteArray), .int .i64 0, .int .i64 0, .int .i64 0, .int .i64 0, .int .i64 0]) (t := 84) ?_; intro gb445 hg w24 hbox hb; have BK445 := Aside0.mk (hbox); have GW445 := Aside0.mk (Zt w hg (Zc1 GE431.out)); have GE445 := GW445; have NB431_445 := Aside0.mk (Zn hg BK431.out); have NB445_431 := Aside0.mk NB431_445.out.symm; replace HO_14 := Aside0.mk (Kd.R_below (Zr HO_14.out) hb); replace HO_15 := Aside0.mk (Kd.R_below (Zr HO_15.out) hb); replace BK431 := Aside0.mk (Zi BK431.out hb); replace HB := Aside0.mk (Qan (Zc1 GE431.out) hb); clear hb hbox hg; have hnb25 := NB445_431.out; have hnc25 := NB431_445.out; obtain ⟨hcz26_0, hfz26_0⟩ := Zy (v := (.string (⟨#[]⟩ : ByteArray))) BK445.out 0; obtain ⟨hcz26_1, hfz26_1⟩ := Zy (v := (.int .i64 0)) BK445.out 1; obtain ⟨hcz26_2, hfz26_2⟩ := Zy (v := (.int .i64 0)) BK445.out 2; obtain ⟨hcz26_3, hfz26_3⟩ := Zy (v := (.int .i64 0)) BK445.out 3; obtain ⟨hcz26_4, hfz26_4⟩ := Zy (v := (.int .i64 0)) BK445.out 4; obtain ⟨hcz26_5, hfz26_5⟩ := Zy (v := (.int .i64 0)) BK445.out 5))
        have n0_ : Aside0 (Kd.R (Kd.int .i64) 3 ((((((w24.setCell ⟨gb445, 0, none⟩ (.string t438)).setCell ⟨gb445, 1, none⟩ (.int .i64 t439)).setCell ⟨gb445, 2, none⟩ (.int .i64 t440)).setCell ⟨gb445, 3, none⟩ (.int .i64 t441)).setCell ⟨gb445, 4, none⟩ (.int .i64 t442)).setCell ⟨gb445, 5, none⟩ (.int .i64 t443)) w.heap.size (fun _ => True) u14 x14_2) := ⟨by (with_reducible repeat (first | apply Kd.R_alloc | apply Kd.R_drewN | apply Kd.R_drew)); exact Kd.R_mono (Zf gb445 5 (Zf gb445 4 (Zf gb445 3 (Zf gb445 2 (Zf gb445 1 (Zf gb445 0 (Kd.R_types HO_14.out BK445.out (by decide)) (.string t438)) (.int .i64 t439)) (.int .i64 t440)) (.int .i64 t441)) (.int .i64 t442)) (.int .i64 t443)) (fun _ hk => trivial)⟩
        have n1_ : Aside0 (Kd.R k46 46 ((((((w24.setCell ⟨gb445, 0, none⟩ (.string t438)).setCell ⟨gb445, 1, none⟩ (.int .i64 t439)).setCell ⟨gb445, 2, none⟩ (.int .i64 t440)).setCell ⟨gb445, 3, none⟩ (.int .i64 t441)).setCell ⟨gb445, 4, none⟩ (.int .i64 t442)).setCell ⟨gb445, 5, none⟩ (.int .i64 t443)) w.heap.size (fun _ => True) (.slice (some ad437) t434.length co17) t434) := ⟨by (with_reducible repeat (first | apply Kd.R_alloc | apply Kd.R_drewN | apply Kd.R_drew)); exact Kd.R_mono (Zf gb445 5 (Zf gb445 4 (Zf gb445 3 (Zf gb445 2 (Zf gb445 1 (Zf gb445 0 (Kd.R_types HO_15.out BK445.out (by decide)) (.string t438)) (.int .i64 t439)) (.int .i64 t440)) (.int .i64 t441)) (.int .i64 t442)) (.int .i64 t443)) (fun _ hk => trivial)⟩
        have n2_ : Aside0 (((((((w24.setCell ⟨gb445, 0, none⟩ (.string t438)).setCell ⟨gb445, 1, none⟩ (.int .i64 t439)).setCell ⟨gb445, 2, none⟩ (.int .i64 t440)).setCell ⟨gb445, 3, none⟩ (.int .i64 t441)).setCell ⟨gb445, 4, none⟩ (.int .i64 t442)).setCell ⟨gb445, 5, none⟩ (.int .i64 t443)).heap[gb431]? = some (.cells #[.string a1_0, .string a1_1] 44 (0, 0))) := ⟨Zg6 BK431.out NB431_445.out NB431_445.out NB431_445.out NB431_445.out NB431_445.out NB431_445.out⟩
        have n3_ : Aside0 (((((((w24.setCell ⟨gb445, 0, none⟩ (.string t438)).setCell ⟨gb445, 1, none⟩ (.int .i64 t439)).setCell ⟨gb445, 2, none⟩ (.int .i64 t440)).setCell ⟨gb445, 3, none⟩ (.int .i64 t441)).setCell ⟨gb445, 4, none⟩ (.int .i64 t442)).setCell ⟨gb445, 5, none⟩ (.int .i64 t443)).heap[gb445]? = some (.cells #[.string t438, .int .i64 t439, .int .i64 t440, .int .i64 t441, .int .i64 t442, .int .i64 t443] 84 (0, 0))) := ⟨Zp2 BK445.out⟩
        have n4_ : Aside0 (Below w.heap.size w ((((((w24.setCell ⟨gb445, 0, none⟩ (.string t438)).setCell ⟨gb445, 1, none⟩ (.int .i64 t439)).setCell ⟨gb445, 2, none⟩ (.int .i64 t440)).setCell ⟨gb445, 3, none⟩ (.int .i64 t441)).setCell ⟨gb445, 4, none⟩ (.int .i64 t442)).setCell ⟨gb445, 5, none⟩ (.int .i64 t443))) := ⟨Zc2 GE431.out GE445.out⟩
        (try clear HO_14)
        (try clear HO_15)
        (try clear BK431)
        (try clear BK445)
        (try clear HB)
        generalize ((((((w24.setCell ⟨gb445, 0, none⟩ (.string t438)).setCell ⟨gb445, 1, none⟩ (.int .i64 t439)).setCell ⟨gb445, 2, none⟩ (.int .i64 t440)).setCell ⟨gb445, 3, none⟩ (.int .i64 t441)).setCell ⟨gb445, 4, none⟩ (.int .i64 t442)).setCell ⟨gb445, 5, none⟩ (.int .i64 t443)) = w27 at n0_ n1_ n2_ n3_ n4_ ⊢
        have HO_14 := n0_
        have HO_15 := n1_
        have BK431 := n2_
        have BK445 := n3_
        have HB := n4_
        clear n0_ n1_ n2_ n3_ n4_
        replace HO_14 := Aside0.mk (Kd.R_drew HO_14.out)
        replace HO_15 := Aside0.mk (Kd.R_drew HO_15.out)
        replace BK431 := Aside0.mk (Qad BK431.out)
        replace BK445 := Aside0.mk (Qad BK445.out)
        replace HB := Aside0.mk (Qag HB.out)
        have p446 : 0 ≤ (x16_2 : Int) := Ze
        have q446 : x16_2 < (t434.length : Int) := Ze
        obtain ⟨ad446, e446, hx446_0, hx446_1, hx446_2, hx446_3⟩ := at_T46 (Kd.R_reads' HO_15.out).2.2 x16_2 p446 q446
        obtain rfl : ad437 = ad446 := (by injection e446)
        replace p446 := eq_true p446
        replace q446 := eq_true q446
        refine start_ (n := 13) (S := fun w' => w'.cell? ⟨gb445, 0, none⟩ = some (.string t438) ∧ w'.cell? ⟨gb445, 1, none⟩ = some (.int .i64 t439) ∧ w'.cell? ⟨gb445, 2, none⟩ = some (.int .i64 t440) ∧ w'.cell? ⟨gb445, 3, none⟩ = some (.int .i64 t441) ∧ w'.cell? ⟨gb445, 4, none⟩ = some (.int .i64 t442) ∧ w'.cell? ⟨gb445, 5, none⟩ = some (.int .i64 t443) ∧ w'.cell? (ad437.add ((x16_2).toNat * 4)) = some (.string ((rd_T46 t434 x16_2).f0.f0)) ∧ w'.cell? ⟨(ad437.add ((x16_2).toNat * 4)).block, (ad437.add ((x16_2).toNat * 4)).off + 1, none⟩ = some (.string ((rd_T46 t434 x16_2).f0.f1)) ∧ w'.cell? ⟨(ad437.add ((x16_2).toNat * 4)).block, (ad437.add ((x16_2).toNat * 4)).off + 2, none⟩ = some (.string ((rd_T46 t434 x16_2).f1)) ∧ w'.cell? ⟨(ad437.add ((x16_2).toNat * 4)).block, (ad437.add ((x16_2).toNat * 4)).off + 3, none⟩ = some (.int .i64 ((rd_T46 t434 x16_2).f2))) (ds := []) #[F, F, F, F, F, F, F, F, F, F, F, F, F] (by kernel_rfl) rfl rfl ⟨(Qai BK445.out 0).trans rfl, (Qai BK445.out 1).trans rfl, (Qai BK445.out 2).trans rfl, (Qai BK445.out 3).trans rfl, (Qai BK445.out 4).trans rfl, (Qai BK445.out 5).trans rfl, hx446_0, hx446_1, hx446_2, hx446_3⟩ (fun hHeld => ?_); refine QbW Qaq.tab12 Qaq.bits12 (fun HT_ HW_ => ?_)
        generalize w27.drew = w28 at HO_14 HO_15 BK431 BK445 HB hx446_0 hx446_1 hx446_2 hx446_3 hHeld ⊢
        refine pure_ (i := 1) (N := some 61) (v := ?_) (a' := ?_) #[F, T, F, F, F, F, F, F, F, F, F, F, F] rfl rfl (any_of HT_.out (by kernel_rfl)) (fun _ _ _ h => h) (Or.inl ⟨by rfl, ?_⟩) ?_ ?_
        rotate_left
        ·intro w'
         go_simp
         with_reducible rfl
        rotate_left
        ·simp only [Act.put, Zj, Zk, Zm, i64_w, i32_w]
         rfl
        refine pure_ (i := 2) (N := some 62) (v := ?_) (a' := ?_) #[F, T, T, F, F, F, F, F, F, F, F, F, F] rfl rfl (any_of HT_.out (by kernel_rfl)) (fun _ _ _ h => h) (Or.inl ⟨by rfl, ?_⟩) ?_ ?_
        rotate_left
        ·intro w'
         go_simp
         with_reducible rfl
        rotate_left
        ·simp only [Act.put, Zj, Zk, Zm, i64_w, i32_w]
         rfl
        refine pure_ (i := 3) (N := some 63) (v := ?_) (a' := ?_) #[F, T, T, T, F, F, F, F, F, F, F, F, F] rfl rfl (any_of HT_.out (by kernel_rfl)) (fun _ _ _ h => h) (Or.inl ⟨by rfl, ?_⟩) ?_ ?_
        rotate_left
        ·intro w'
         go_simp
         with_reducible rfl
        rotate_left
        ·simp only [Act.put, Zj, Zk, Zm, i64_w, i32_w]
         rfl
        refine pure_ (i := 4) (N := some 64) (v := ?_) (a' := ?_) #[F, T, T, T, T, F, F, F, F, F, F, F, F] rfl rfl (any_of HT_.out (by kernel_rfl)) (fun _ _ _ h => h) (Or.inl ⟨by rfl, ?_⟩) ?_ ?_
        rotate_left
        ·intro w'
         go_simp
         with_reducible rfl
        rotate_left
        ·simp only [Act.put, Zj, Zk, Zm, i64_w, i32_w]
         rfl
        refine pure_ (i := 6) (N := some 66) (v := ?_) (a' := ?_) #[F, T, T, T, T, F, T, F, F, F, F, F, F] rfl rfl (any_of HT_.out (by kernel_rfl)) (fun _ _ _ h => h) (Or.inl ⟨by rfl, ?_⟩) ?_ ?_
        rotate_left
        ·intro w'
         go_simp
         with_reducible rfl
        rotate_left
        ·simp only [Act.put, Zj, Zk, Zm, i64_w, i32_w]
         rfl
        refine take_ (i := 0) (N := some 60) (v := ?_) (a' := ?_) #[T, T, T, T, T, F, T, F, F, F, F, F, F] rfl rfl (QbJ HT_.out HW_.out (by kernel_rfl)) (fun _ _ _ h => h) (Or.inl ⟨by rfl, ?_⟩) hHeld ?_ ?_
        rotate_left
        ·rintro w' ⟨s0, s1, s2, s3, s4, s5, s6, s7, s8, s9⟩
         go_simp
         with_reducible rfl
        rotate_left
        ·simp only [Act.put, Zj, Zk, Zm, i64_w, i32_w]
         rfl
        refine take_ (i := 5) (N := some 65) (v := ?_) (a' := ?_) #[T, T, T, T, T, T, T, F, F, F, F, F, F] rfl rfl (QbJ HT_.out HW_.out (by kernel_rfl)) (fun _ _ _ h => h) (Or.inl ⟨by rfl, ?_⟩) hHeld ?_ ?_
        rotate_left
        ·rintro w' ⟨s0, s1, s2, s3, s4, s5, s6, s7, s8, s9⟩
         go_simp
         with_reducible rfl
        rotate_left
        ·simp only [Act.put, Zj, Zk, Zm, i64_w, i32_w]
         rfl
        refine one_ (i := 7) (N := some 67) #[T, T, T, T, T, T, T, T, F, F, F, F, F] rfl rfl (one_of HT_.out (by kernel_rfl)) (by decide) (fun K hK => ?_)
        refine goes_ Try.func42 (by kernel_rfl) rfl #[.agg #[.string t438, .int .i64 t439, .int .i64 t440, .int .i64 t441, .int .i64 t442, .int .i64 t443], .int .i64 ((rd_T46 t434 x16_2).f2), .slice A4 l4.length c4] (by rfl) rfl rfl (Zl) ?_
        with_reducible refine (Qa7.calls k2 t438 t439 t440 t441 t442 t443 ((rd_T46 t434 x16_2).f2) _ _ l4 t447 t448 _ ?side1 ?side2 A21.out).mono ?_
        (case side1 => exact Zv (Kd.C_below HR4.out HB.out))
        (case side2 => exact HC4.out)
        rintro e w29 ⟨rfl, hb⟩
        have HS6_ := (hb.cell (World.block_lt_of_cell? _ _ (hHeld.2.2.2.2.2.2.1))).trans (hHeld.2.2.2.2.2.2.1)
        have HS7_ := (hb.cell (World.block_lt_of_cell? _ _ (hHeld.2.2.2.2.2.2.2.1))).trans (hHeld.2.2.2.2.2.2.2.1)
        have HS8_ := (hb.cell (World.block_lt_of_cell? _ _ (hHeld.2.2.2.2.2.2.2.2.1))).trans (hHeld.2.2.2.2.2.2.2.2.1)
        have HS9_ := (hb.cell (World.block_lt_of_cell? _ _ (hHeld.2.2.2.2.2.2.2.2.2))).trans (hHeld.2.2.2.2.2.2.2.2.2)
        refine ⟨_, rfl, ?_⟩
        replace HO_14 := Aside0.mk (Kd.R_below (Zr HO_14.out) hb)
        replace HO_15 := Aside0.mk (Kd.R_below (Zr HO_15.out) hb)
        replace BK431 := Aside0.mk (Zi BK431.out hb)
        replace BK445 := Aside0.mk (Zi BK445.out hb)
        replace HB := Aside0.mk (Qan (Zc2 GE431.out GE445.out) hb)
        (try clear hb)
        (try clear hb2)
        (try clear hk)
        (try clear hi)
        refine hK.out _ _ ⟨(Qai BK445.out 0).trans rfl, (Qai BK445.out 1).trans rfl, (Qai BK445.out 2).trans rfl, (Qai BK445.out 3).trans rfl, (Qai BK445.out 4).trans rfl, (Qai BK445.out 5).trans rfl, HS6_, HS7_, HS8_, HS9_⟩ (fun hHeld => ?_)
        clear hK K
        refine norm_ (a' := ?_) ?_ ?_
        rotate_left
        ·show Act.put _ (some 67) _ = _
         simp only [Act.put, Zj, Zk, Zm, i64_w, i32_w]
         rfl
        refine pure_ (i := 8) (N := some 59) (v := ?_) (a' := ?_) #[T, T, T, T, T, T, T, T, T, F, F, F, F] rfl rfl (any_of HT_.out (by kernel_rfl)) (fun _ _ _ h => h) (Or.inl ⟨by rfl, ?_⟩) ?_ ?_
        rotate_left
        ·intro w'
         go_simp
         with_reducible rfl
        rotate_left
        ·simp only [Act.put, Zj, Zk, Zm, i64_w, i32_w]
         rfl
        refine pure_ (i := 9) (N := some 68) (v := ?_) (a' := ?_) #[T, T, T, T, T, T, T, T, T, T, F, F, F] rfl rfl (any_of HT_.out (by kernel_rfl)) (fun _ _ _ h => h) (Or.inl ⟨by rfl, ?_⟩) ?_ ?_
        rotate_left
        ·intro w'
         go_simp
         with_reducible rfl
        rotate_left
        ·simp only [Act.put, Zj, Zk, Zm, i64_w, i32_w]
         rfl
        refine pure_ (i := 10) (N := some 69) (v := ?_) (a' := ?_) #[T, T, T, T, T, T, T, T, T, T, T, F, F] rfl rfl (any_of HT_.out (by kernel_rfl)) (fun _ _ _ h => h) (Or.inl ⟨by rfl, ?_⟩) ?_ ?_
        rotate_left
        ·intro w'
         go_simp
         with_reducible rfl
        rotate_left
        ·simp only [Act.put, Zj, Zk, Zm, i64_w, i32_w]
         rfl
        refine pure_ (i := 11) (N := some 19) (v := ?_) (a' := ?_) #[T, T, T, T, T, T, T, T, T, T, T, T, F] rfl rfl (any_of HT_.out (by kernel_rfl)) (fun _ _ _ h => h) (Or.inl ⟨by rfl, ?_⟩) ?_ ?_
        rotate_left
        ·intro w'
         go_simp
         with_reducible rfl
        rotate_left
        ·simp only [Act.put, Zj, Zk, Zm, i64_w, i32_w]
         rfl
        refine pure_ (i := 12) (N := some 20) (v := ?_) (a' := ?_) #[T, T, T, T, T, T, T, T, T, T, T, T, T] rfl rfl (any_of HT_.out (by kernel_rfl)) (fun _ _ _ h => h) (Or.inl ⟨by rfl, ?_⟩) ?_ ?_
        rotate_left
        ·intro w'
         go_simp
         with_reducible rfl
        rotate_left
        ·simp only [Act.put, Zj, Zk, Zm, i64_w, i32_w]
         rfl
        refine done_ (Qb4 HT_.out (by kernel_rfl)) ?_
        obtain ⟨hcz30_0, hfz30_0⟩ := Zy (v := (.string t438)) BK445.out 0
        obtain ⟨hcz30_1, hfz30_1⟩ := Zy (v := (.int .i64 t439)) BK445.out 1
        obtain ⟨hcz30_2, hfz30_2⟩ := Zy (v := (.int .i64 t440)) BK445.out 2
        obtain ⟨hcz30_3, hfz30_3⟩ := Zy (v := (.int .i64 t441)) BK445.out 3
        obtain ⟨hcz30_4, hfz30_4⟩ := Zy (v := (.int .i64 t442)) BK445.out 4
        obtain ⟨hcz30_5, hfz30_5⟩ := Zy (v := (.int .i64 t443)) BK445.out 5
        go_upto_if 79 with (first | ((with_reducible refine Qaw (f := 58) rfl ?_); refine goesL_ (some 74) rfl rfl Try.func58 (by kernel_rfl) rfl #[.int .i64 a2, .int .i64 t443, .int .i64 1000, .int .i64 3] rfl (Zl) ?_; (with_reducible refine (Qa9.calls a2 t443 1000 3 t449 t450 _ A22.out).mono ?_); rintro e w31 ⟨rfl, hb⟩; refine ⟨_, rfl, ?_⟩; replace HO_14 := Aside0.mk (Kd.R_below (Zr HO_14.out) hb); replace HO_15 := Aside0.mk (Kd.R_below (Zr HO_15.out) hb); replace BK431 := Aside0.mk (Zi BK431.out hb); replace BK445 := Aside0.mk (Zi BK445.out hb); replace HB := Aside0.mk (Qan (Zc2 GE431.out GE445.out) hb); (try clear hb); (try clear hb2); (try clear hk); (try clear hi)))
        (try simp only [Act.put, Zj, Zk, Zm])
        by_cases c32 : t447 > t449
        ·rw [if_pos c32] at H
         have c32b0 : decide (t449 < t447) = T := decide_eq_true c32
         clear c32
         (try simp only [c32b0])
         by_cases c33 : x14_2.length < 17592186044416
         ·rw [if_pos c33] at H
          have LMc33 := Aside0.mk c33
          clear c33
          obtain ⟨y451, hy451⟩ : ∃ y_ : List Int, y_ = (x14_2 ++ [t449]) := ⟨_, rfl⟩
          replace H : (Qaq.l0 k2 a2 l3 l4 y451 t434 (wrap64 (x16_2 + 1))) = some (r1, r2) := by first | (rw [hy451]; with_reducible exact H) | (have H2_ := (Option.bind_some _ _).symm.trans H; rw [hy451]; with_reducible exact H2_) | (have H2_ := (Option.bind_some _ _).symm.trans H; with_reducible exact H2_) | with_reducible exact H | (rw [hy451]; exact H) | exact H
          have Ny451 := Aside0.mk hy451
          clear hy451
          have H' := Aside0.mk H
          clear H
          go_wp2_with (first | ((with_reducible refine QbO (b := .append) (xs := #[.tmp 81, .tmp 83]) rfl ?_); at_builtin; refine Kd.R_append (Kd.int .i64) (w0 := w) w.heap.size rfl (.tmp 81) (.tmp 83) 63 3 (.int .i64 0) 8 rfl Try.underlying63 info3 rfl (by decide) (by omega) u14 x14_2 t449 [.int .i64 t449] (fun _ => True) (fun _ => False) rfl rfl ?aP (fun _ hk => hk.elim) ?aF ?aO ?aB ?aS ?aL ?_; (case aP => exact rfl); (case aB => exact (Zc2 GE431.out GE445.out)); (case aF => exact (fun _ _ => trivial)); (case aO => exact (Zr HO_14.out)); (case aS => exact (Qam (Zc2 GE431.out GE445.out))); (case aL => have := LMc33.out; omega); intro v452 w34 ho hb hg hat; rw [← Ny451.out] at ho; have HO453 := Aside0.mk (ho); replace HO_15 := Aside0.mk (Kd.R_over' (Zr HO_15.out) (Kd.R_typed (Zr HO_14.out)) (by decide) hg); replace BK431 := Aside0.mk (Qbg (g := gb431) (o := .cells #[.string a1_0, .string a1_1] 44 (0, 0)) (Zu BK431.out) hg (Kd.R_ne HO_14.out BK431.out (by decide))); replace BK445 := Aside0.mk (Qbg (g := gb445) (o := .cells #[.string t438, .int .i64 t439, .int .i64 t440, .int .i64 t441, .int .i64 t442, .int .i64 t443] 84 (0, 0)) (Zu BK445.out) hg (Kd.R_ne HO_14.out BK445.out (by decide))); replace HB := Aside0.mk (hb); clear HO_14; clear ho hb hg hat))
          go_roundg k2
          case measure => have := HJ10.out; have := HK2.out; omega
          case rel => exact ⟨(y451), (wrap64 (x16_2 + 1)), (Zs), H', ⟨by have := HJ10.out; have := HK2.out; omega⟩, ⟨Zr HO453.out⟩, ⟨Zr HO_15.out⟩, ⟨Zu BK431.out⟩, ⟨Zc2 GE431.out GE445.out⟩⟩
         rw [if_neg c33] at H
         exact absurd H (by simp)
        rw [if_neg c32] at H
        have c32b0 : decide (t449 < t447) = F := decide_eq_false c32
        clear c32
        (try simp only [c32b0])
        by_cases c35 : x14_2.length < 17592186044416
        ·rw [if_pos c35] at H
         have LMc35 := Aside0.mk c35
         clear c35
         obtain ⟨y454, hy454⟩ : ∃ y_ : List Int, y_ = (x14_2 ++ [t447]) := ⟨_, rfl⟩
         replace H : (Qaq.l0 k2 a2 l3 l4 y454 t434 (wrap64 (x16_2 + 1))) = some (r1, r2) := by first | (rw [hy454]; with_reducible exact H) | (have H2_ := (Option.bind_some _ _).symm.trans H; rw [hy454]; with_reducible exact H2_) | (have H2_ := (Option.bind_some _ _).symm.trans H; with_reducible exact H2_) | with_reducible exact H | (rw [hy454]; exact H) | exact H
         have Ny454 := Aside0.mk hy454
         clear hy454
         have H' := Aside0.mk H
         clear H
         go_wp2_with (first | ((with_reducible refine QbO (b := .append) (xs := #[.tmp 81, .tmp 83]) rfl ?_); at_builtin; refine Kd.R_append (Kd.int .i64) (w0 := w) w.heap.size rfl (.tmp 81) (.tmp 83) 63 3 (.int .i64 0) 8 rfl Try.underlying63 info3 rfl (by decide) (by omega) u14 x14_2 t447 [.int .i64 t447] (fun _ => True) (fun _ => False) rfl rfl ?aP (fun _ hk => hk.elim) ?aF ?aO ?aB ?aS ?aL ?_; (case aP => exact rfl); (case aB => exact (Zc2 GE431.out GE445.out)); (case aF => exact (fun _ _ => trivial)); (case aO => exact (Zr HO_14.out)); (case aS => exact (Qam (Zc2 GE431.out GE445.out))); (case aL => have := LMc35.out; omega); intro v455 w36 ho hb hg hat; rw [← Ny454.out] at ho; have HO456 := Aside0.mk (ho); replace HO_15 := Aside0.mk (Kd.R_over' (Zr HO_15.out) (Kd.R_typed (Zr HO_14.out)) (by decide) hg); replace BK431 := Aside0.mk (Qbg (g := gb431) (o := .cells #[.string a1_0, .string a1_1] 44 (0, 0)) (Zu BK431.out) hg (Kd.R_ne HO_14.out BK431.out (by decide))); replace BK445 := Aside0.mk (Qbg (g := gb445) (o := .cells #[.string t438, .int .i64 t439, .int .i64 t440, .int .i64 t441, .int .i64 t442, .int .i64 t443] 84 (0, 0)) (Zu BK445.out) hg (Kd.R_ne HO_14.out BK445.out (by decide))); replace HB := Aside0.mk (hb); clear HO_14; clear ho hb hg hat))
         go_roundg k2
         case measure => have := HJ10.out; have := HK2.out; omega
         case rel => exact ⟨(y454), (wrap64 (x16_2 + 1)), (Zs), H', ⟨by have := HJ10.out; have := HK2.out; omega⟩, ⟨Zr HO456.out⟩, ⟨Zr HO_15.out⟩, ⟨Zu BK431.out⟩, ⟨Zc2 GE431.out GE445.out⟩⟩
        rw [if_neg c35] at H
        exact absurd H (by simp)
       rw [if_neg c19] at H
       exact absurd H (by simp)
      rw [if_neg c18] at H
      have c18b0 : decide (x16_2 < (t434.length : Int)) = F := decide_eq_false c18
      clear c18
      (try simp only [c18b0])
      simp only [Option.some.injEq, Prod.mk.injEq] at H
      obtain ⟨rfl, rfl⟩ := H
      go_wp2
      go_ret2
      exact ⟨_, Zq, Zr HO_14.out, Zc1 GE431.out⟩
 rw [if_neg c10] at H
 have c10b0 : (t433 == 0) = F := beq_eq_false_iff_ne.mpr c10
 have c10b1 : (t433 != 0) = T := bne_iff_ne.mpr c10
 (try simp only [c10b0, c10b1])
 simp only [Option.some.injEq, Prod.mk.injEq] at H
 obtain ⟨rfl, rfl⟩ := H
 go_wp2
 go_ret2
 exact ⟨_, Zq, by first | exact Kd.R_nil _ _ _ _ _ | exact Kd.N_nil _ _ _ _ _ | exact Kd.V_nil _ _ _ _ _ | exact Kd.Q_nil _ _ _ _ _ | exact Kd.S_nil _ _ _ _ _, Zc1 GE431.out⟩
def Qbk.f (k : Nat) (l0 : List (S46)) (a1_0 : ByteArray) (a1_1 : ByteArray) (a2 : Int) (l3 : List (S84)) (l4 : List (S98)) : Option (Int × Int) := (Qaq.f k l0 a1_0 a1_1 a2 l3 l4).bind fun bt458 => (if bt458.2 = 0 then ((QaP.f k bt458.1).bind fun bt462 => (some (bt462.1, bt462.2))) else (some (0, bt458.2)))
theorem Qbk.mono : ∀ a0 a1 a2 a3 a4 a5 k, LeO (Qbk.f k a0 a1 a2 a3 a4 a5) (Qbk.f (k + 1) a0 a1 a2 a3 a4 a5) := by
 intro a0 a1 a2 a3 a4 a5 k
 unfold Qbk.f
 exact ZM2 QaP.mono Qaq.mono
theorem Qbk.calls (k : Nat) (A0 : Option Addr) (c0 : Nat) (l0 : List (S46)) (a1_0 : ByteArray) (a1_1 : ByteArray) (a2 : Int) (A3 : Option Addr) (c3 : Nat) (l3 : List (S84)) (A4 : Option Addr) (c4 : Nat) (l4 : List (S98)) (r1 : Int) (r2 : Int) (w : World) (hr0 : Kd.C k46 w A0 l0.length l0) (hc0 : l0.length ≤ c0) (hr3 : Kd.C k84 w A3 l3.length l3) (hc3 : l3.length ≤ c3) (hr4 : Kd.C k98 w A4 l4.length l4) (hc4 : l4.length ≤ c4) (h : Qbk.f k l0 a1_0 a1_1 a2 l3 l4 = some (r1, r2)) :
  Calls Try.prog 31 #[.slice A0 l0.length c0, .agg #[.string a1_0, .string a1_1], .int .i64 a2, .slice A3 l3.length c3, .slice A4 l4.length c4] w fun e w' => e = .returned (.tuple #[.int .i64 r1, .int .i64 r2]) ∧ Below w.heap.size w w' := by
 have hu44 := Try.underlying44
 have HR0 := Aside0.mk hr0
 have HC0 := Aside0.mk hc0
 clear hr0 hc0
 have HR3 := Aside0.mk hr3
 have HC3 := Aside0.mk hc3
 clear hr3 hc3
 have HR4 := Aside0.mk hr4
 have HC4 := Aside0.mk hc4
 clear hr4 hc4
 have HB := Aside0.mk (Below.refl w.heap.size w)
 have H : ((Qaq.f k l0 a1_0 a1_1 a2 l3 l4).bind fun bt458 => (if bt458.2 = 0 then ((QaP.f k bt458.1).bind fun bt462 => (some (bt462.1, bt462.2))) else (some (0, bt458.2)))) = some (r1, r2) := h
 clear h
 replace H := Option.bind_eq_some_iff.mp H
 obtain ⟨⟨t458, t461⟩, A60, H⟩ := H
 replace H : (if t461 = 0 then ((QaP.f k t458).bind fun bt462 => (some (bt462.1, bt462.2))) else (some (0, t461))) = some (r1, r2) := H
 have A6 := Aside0.mk A60
 clear A60
 go_enter Try.func31, Try.ntmps31
 go_upto_if 24 with (first | ((with_reducible refine QaL (N := 6) rfl ?_); refine Zbx (N := 6) (cs := #[.string a1_0, .string a1_1]) (t := 44) ?_; intro gb457 hg w7 hbox hb; have BK457 := Aside0.mk (hbox); have GW457 := Aside0.mk (Zt w hg (Zb)); have GE457 := GW457; replace HB := Aside0.mk (Qan (Zb) hb); clear hb hbox hg; obtain ⟨hcz8_0, hfz8_0⟩ := Zy (v := (.string a1_0)) BK457.out 0; obtain ⟨hcz8_1, hfz8_1⟩ := Zy (v := (.string a1_1)) BK457.out 1) | ((with_reducible refine Qaw (f := 29) rfl ?_); refine goesL_ (some 20) rfl rfl Try.func29 (by kernel_rfl) rfl #[.slice A0 l0.length c0, .agg #[.string a1_0, .string a1_1], .int .i64 a2, .slice A3 l3.length c3, .slice A4 l4.length c4] rfl (Zl) ?_; (with_reducible refine (Qaq.calls k _ _ l0 a1_0 a1_1 a2 _ _ l3 _ _ l4 t458 t461 _ ?side1 ?side2 ?side3 ?side4 ?side5 ?side6 A6.out).mono ?_); (case side1 => exact Zv (Kd.C_below HR0.out HB.out)); (case side2 => exact HC0.out); (case side3 => exact Zv (Kd.C_below HR3.out HB.out)); (case side4 => exact HC3.out); (case side5 => exact Zv (Kd.C_below HR4.out HB.out)); (case side6 => exact HC4.out); rintro e w9 ⟨v459, rfl, ho0, hb⟩; refine ⟨_, rfl, ?_⟩; have HO460 := Aside0.mk (Kd.R_lower ho0 (Qam (Zc1 GE457.out))); replace BK457 := Aside0.mk (Zi BK457.out hb); replace HB := Aside0.mk (Qan (Zc1 GE457.out) hb); (try clear hb); (try clear hb2); (try clear hk); (try clear hi); (try clear ho0)))
 (try simp only [Act.put, Zj, Zk, Zm])
 by_cases c10 : t461 = 0
 ·rw [if_pos c10] at H
  have c10b0 : (t461 == 0) = T := beq_iff_eq.mpr c10
  have c10b1 : (t461 != 0) = F := bne_eq_false_iff_eq.mpr c10
  clear c10
  (try simp only [c10b0, c10b1])
  replace H := Option.bind_eq_some_iff.mp H
  obtain ⟨⟨t462, t463⟩, A110, H⟩ := H
  replace H : (some (t462, t463)) = some (r1, r2) := H
  have A11 := Aside0.mk A110
  clear A110
  simp only [Option.some.injEq, Prod.mk.injEq] at H
  obtain ⟨rfl, rfl⟩ := H
  obtain ⟨Ao12, co12, eo12⟩ := Kd.R_slice HO460.out
  subst eo12
  go_wp2_with (first | ((with_reducible refine Qaw (f := 60) rfl ?_); refine goesL_ (some 27) rfl rfl Try.func60 (by kernel_rfl) rfl #[.slice Ao12 t458.length co12] rfl (Zl) ?_; (with_reducible refine (QaP.calls k _ _ t458 t462 t463 _ ?side1 ?side2 A11.out).mono ?_); (case side1 => exact Zv (Kd.R_reads' HO460.out).2.2); (case side2 => exact (Kd.R_reads' HO460.out).2.1); rintro e w' ⟨rfl, ⟨nd, rfl⟩⟩; refine ⟨_, rfl, ?_⟩))
  go_ret2
  exact ⟨Zq, Zc1 GE457.out⟩
 rw [if_neg c10] at H
 have c10b0 : (t461 == 0) = F := beq_eq_false_iff_ne.mpr c10
 have c10b1 : (t461 != 0) = T := bne_iff_ne.mpr c10
 (try simp only [c10b0, c10b1])
 simp only [Option.some.injEq, Prod.mk.injEq] at H
 obtain ⟨rfl, rfl⟩ := H
 go_wp2
 go_ret2
 exact ⟨Zq, Zc1 GE457.out⟩
def Qax.l0 : Nat → List (S46) → Int → Int → ByteArray → ByteArray → ByteArray → Int → Option (Int × Bool)
 | 0, _, _, _, _, _, _, _ => none
 | k + 1, x0, x8, x9, x612000, x612001, x612002, x612003 => if x8 < x9 then (if 0 ≤ (wrap64 (Int.tdiv (wrap64 (x8 + x9)) 2)) then (if (wrap64 (Int.tdiv (wrap64 (x8 + x9)) 2)) < (x0.length : Int) then ((QbA.f ((rd_T46 x0 (wrap64 (Int.tdiv (wrap64 (x8 + x9)) 2))).f0.f0) ((rd_T46 x0 (wrap64 (Int.tdiv (wrap64 (x8 + x9)) 2))).f0.f1) ((rd_T46 x0 (wrap64 (Int.tdiv (wrap64 (x8 + x9)) 2))).f1) ((rd_T46 x0 (wrap64 (Int.tdiv (wrap64 (x8 + x9)) 2))).f2) x612000 x612001 x612002 x612003).bind fun t613 => (if t613 < 0 then (Qax.l0 k x0 (wrap64 ((wrap64 (Int.tdiv (wrap64 (x8 + x9)) 2)) + 1)) x9 x612000 x612001 x612002 x612003) else (Qax.l0 k x0 x8 (wrap64 (Int.tdiv (wrap64 (x8 + x9)) 2)) x612000 x612001 x612002 x612003))) else (none)) else (none)) else (if x8 < (x0.length : Int) then (if 0 ≤ x8 then ((QbA.f ((rd_T46 x0 x8).f0.f0) ((rd_T46 x0 x8).f0.f1) ((rd_T46 x0 x8).f1) ((rd_T46 x0 x8).f2) x612000 x612001 x612002 x612003).bind fun t615 => (some (x8, (t615 == 0)))) else (none)) else (some (x8, F)))
def Qax.f (k : Nat) (l0 : List (S46)) (a1_0 : ByteArray) (a1_1 : ByteArray) (a1_2 : ByteArray) (a1_3 : Int)  : Option (Int × Bool) := Qax.l0 k l0 0 (l0.length : Int) a1_0 a1_1 a1_2 a1_3
theorem Qax.mono_l : ∀ k, (∀ y0 y1 y2 y3 y4 y5 y6, LeO (Qax.l0 k y0 y1 y2 y3 y4 y5 y6) (Qax.l0 (k + 1) y0 y1 y2 y3 y4 y5 y6))
 | 0 => fun _ _ _ _ _ _ _ r h => by simp [Qax.l0] at h
 | k + 1 => by
  have ih0 := Qax.mono_l k
  intro y0 y1 y2 y3 y4 y5 y6
  unfold Qax.l0
  exact ZM1 ih0
theorem Qax.mono : ∀ a0 a1 a2 a3 a4 k, LeO (Qax.f k a0 a1 a2 a3 a4) (Qax.f (k + 1) a0 a1 a2 a3 a4) := by
 intro a0 a1 a2 a3 a4 k
 have ih0 := Qax.mono_l k
 unfold Qax.f
 exact ZM1 ih0
def Qax.T4 : Bool × List (List Nat × List Nat) := (T, [([], []), ([], []), ([], []), ([1, 2], [1, 2]), ([3], [3]), ([], []), ([0, 4, 5], [0, 4, 5]), ([6], [6])])
def Qax.B4 : List Nat := [0, 0, 0, 6, 14, 0, 63, 127]
theorem Qax.tab4 : rtab .any (opsOf Try.f73 4) = Qax.T4 := by kernel_rfl
theorem Qax.bits4 : Qb0 Qax.T4.2 Qax.B4 = T := by kernel_rfl
def Qax.T7 : Bool × List (List Nat × List Nat) := (T, [([], []), ([], []), ([], []), ([2], [2]), ([1, 3], [1, 3]), ([4], [4]), ([5], [5]), ([5], [5]), ([5], [5]), ([7, 8, 5], [5, 7, 8]), ([9, 5], [5, 9]), ([5], [5]), ([6, 10, 11, 5, 5], [5, 6, 10, 11]), ([12, 5], [5, 12]), ([5, 13], [5, 13]), ([0, 12, 0], [0]), ([14, 15, 0, 1, 2, 3, 4, 5, 6, 7, 8, 9, 10, 11, 12, 13, 14, 15], [14])])
def Qax.B7 : List Nat := [0, 0, 0, 4, 14, 30, 62, 62, 62, 446, 958, 62, 4094, 8190, 16382, 8191, 65535]
theorem Qax.tab7 : rtab .any (opsOf Try.f73 7) = Qax.T7 := by kernel_rfl
theorem Qax.bits7 : Qb0 Qax.T7.2 Qax.B7 = T := by kernel_rfl
theorem Qax.calls (k : Nat) (A0 : Option Addr) (c0 : Nat) (l0 : List (S46)) (a1_0 : ByteArray) (a1_1 : ByteArray) (a1_2 : ByteArray) (a1_3 : Int)  (r1 : Int) (r2 : Bool) (w : World) (hr0 : Kd.C k46 w A0 l0.length l0) (hc0 : l0.length ≤ c0) (h : Qax.f k l0 a1_0 a1_1 a1_2 a1_3 = some (r1, r2)) :
  Calls Try.prog 73 #[.slice A0 l0.length c0, .agg #[.string a1_0, .string a1_1, .string a1_2, .int .i64 a1_3], .func (.func 74) #[] #[]] w fun e w' => e = .returned (.tuple #[.int .i64 r1, .bool r2]) ∧ Below w.heap.size w w' := by
 have hu46 := Try.underlying46
 have HR0 := Aside0.mk hr0
 have HC0 := Aside0.mk hc0
 clear hr0 hc0
 have HB := Aside0.mk (Below.refl w.heap.size w)
 have H : (Qax.l0 k l0 0 (l0.length : Int) a1_0 a1_1 a1_2 a1_3) = some (r1, r2) := h
 clear h
 have H' := Aside0.mk H
 clear H
 go_enter Try.func73, Try.ntmps73
 go_wp2_with (first | ((with_reducible refine QaL (N := 4) rfl ?_); refine Zbx (N := 4) (cs := #[.string a1_0, .string a1_1, .string a1_2, .int .i64 a1_3]) (t := 46) ?_; intro gb611 hg w4 hbox hb; have BK611 := Aside0.mk (hbox); have GW611 := Aside0.mk (Zt w hg (Zb)); have GE611 := GW611; replace HB := Aside0.mk (Qan (Zb) hb); clear hb hbox hg))
 go_loopg [8, 9] k (fun kq v8 v9 w' => ∃ (x8_1 : Int) (x9_1 : Int), v8 = .int .i64 x8_1 ∧ v9 = .int .i64 x9_1 ∧ Aside0 (Qax.l0 kq l0 x8_1 x9_1 a1_0 a1_1 a1_2 a1_3 = some (r1, r2)) ∧ Aside0 (kq ≤ k) ∧ Aside0 (w'.heap[gb611]? = some (.cells #[.string a1_0, .string a1_1, .string a1_2, .int .i64 a1_3] 46 (0, 0))) ∧ Aside0 (Below w.heap.size w w'))
 case atStart => exact ⟨(0), ((l0.length : Int)), (Zs), (Zs), H', ⟨Nat.le_refl _⟩, ⟨Zu BK611.out⟩, ⟨Zc1 GE611.out⟩⟩
 case round =>
  clear H'
  try clear p2
  obtain ⟨x8_1, x9_1, rfl, rfl, HA, HK1, BK611, HB⟩ := hrel
  cases gk with
  | zero => exact absurd HA.out (by simp [Qax.l0])
  | succ k1 =>
   have H := HA.out
   clear HA
   simp only [Qax.l0] at H
   by_cases c5 : x8_1 < x9_1
   ·rw [if_pos c5] at H
    have c5b0 : decide (x8_1 < x9_1) = T := decide_eq_true c5
    clear c5
    (try simp only [c5b0])
    obtain ⟨ji6, hji6⟩ : ∃ j_ : Int, (wrap64 (Int.tdiv (wrap64 (x8_1 + x9_1)) 2)) = j_ := ⟨_, rfl⟩
    replace H : (if 0 ≤ (ji6) then (if (ji6) < (l0.length : Int) then ((QbA.f ((rd_T46 l0 (ji6)).f0.f0) ((rd_T46 l0 (ji6)).f0.f1) ((rd_T46 l0 (ji6)).f1) ((rd_T46 l0 (ji6)).f2) a1_0 a1_1 a1_2 a1_3).bind fun t613 => (if t613 < 0 then (Qax.l0 k1 l0 (wrap64 ((ji6) + 1)) x9_1 a1_0 a1_1 a1_2 a1_3) else (Qax.l0 k1 l0 x8_1 ji6 a1_0 a1_1 a1_2 a1_3))) else (none)) else (none)) = some (r1, r2) := by first | (rw [hji6] at H; exact H) | (simp only [hji6] at H ⊢; exact H)
    have hji6w : (IntKind.i64.wrap (Int.tdiv (wrap64 (x8_1 + x9_1)) 2)) = ji6 := (i64_w _).trans hji6
    by_cases c7 : 0 ≤ (ji6)
    ·rw [if_pos c7] at H
     have c7b0 : decide (0 ≤ (ji6)) = T := decide_eq_true c7
     clear c7
     by_cases c8 : (ji6) < (l0.length : Int)
     ·rw [if_pos c8] at H
      have c8b0 : decide ((ji6) < (l0.length : Int)) = T := decide_eq_true c8
      clear c8
      replace H := Option.bind_eq_some_iff.mp H
      obtain ⟨t613, A90, H⟩ := H
      replace H : (if t613 < 0 then (Qax.l0 k1 l0 (wrap64 ((ji6) + 1)) x9_1 a1_0 a1_1 a1_2 a1_3) else (Qax.l0 k1 l0 x8_1 ji6 a1_0 a1_1 a1_2 a1_3)) = some (r1, r2) := H
      have A9 := Aside0.mk A90
      clear A90
      try go_wp2
      replace BK611 := Aside0.mk (Qad BK611.out)
      replace HB := Aside0.mk (Qag HB.out)
      have p612 : 0 ≤ ((ji6) : Int) := Ze
      have q612 : (ji6) < (l0.length : Int) := Ze
      obtain ⟨ad612, e612, hx612_0, hx612_1, hx612_2, hx612_3⟩ := at_T46 HR0.out (ji6) p612 q612
      have hw612_3 := hx612_3
      have hw612_2 := hx612_2
      have hw612_1 := hx612_1
      have hw612_0 := hx612_0
      cases e612
      replace hx612_0 := Zx HB.out hx612_0
      replace hx612_1 := Zx HB.out hx612_1
      replace hx612_2 := Zx HB.out hx612_2
      replace hx612_3 := Zx HB.out hx612_3
      replace p612 := eq_true p612
      replace q612 := eq_true q612
      refine start_ (n := 8) (S := fun w' => w'.cell? ⟨gb611, 0, none⟩ = some (.string a1_0) ∧ w'.cell? ⟨gb611, 1, none⟩ = some (.string a1_1) ∧ w'.cell? ⟨gb611, 2, none⟩ = some (.string a1_2) ∧ w'.cell? ⟨gb611, 3, none⟩ = some (.int .i64 a1_3) ∧ w'.cell? (ad612.add (((ji6)).toNat * 4)) = some (.string ((rd_T46 l0 (ji6)).f0.f0)) ∧ w'.cell? ⟨(ad612.add (((ji6)).toNat * 4)).block, (ad612.add (((ji6)).toNat * 4)).off + 1, none⟩ = some (.string ((rd_T46 l0 (ji6)).f0.f1)) ∧ w'.cell? ⟨(ad612.add (((ji6)).toNat * 4)).block, (ad612.add (((ji6)).toNat * 4)).off + 2, none⟩ = some (.string ((rd_T46 l0 (ji6)).f1)) ∧ w'.cell? ⟨(ad612.add (((ji6)).toNat * 4)).block, (ad612.add (((ji6)).toNat * 4)).off + 3, none⟩ = some (.int .i64 ((rd_T46 l0 (ji6)).f2))) (ds := []) #[F, F, F, F, F, F, F, F] (by kernel_rfl) rfl rfl ⟨(Qai BK611.out 0).trans rfl, (Qai BK611.out 1).trans rfl, (Qai BK611.out 2).trans rfl, (Qai BK611.out 3).trans rfl, ((HB.out.cell (World.block_lt_of_cell? w _ hw612_0)).trans hw612_0), ((HB.out.cell (World.block_lt_of_cell? w _ hw612_1)).trans hw612_1), ((HB.out.cell (World.block_lt_of_cell? w _ hw612_2)).trans hw612_2), ((HB.out.cell (World.block_lt_of_cell? w _ hw612_3)).trans hw612_3)⟩ (fun hHeld => ?_); refine QbW Qax.tab4 Qax.bits4 (fun HT_ HW_ => ?_)
      generalize wr.drew = w10 at BK611 HB hx612_0 hx612_1 hx612_2 hx612_3 hHeld ⊢
      refine pure_ (i := 0) (N := some 20) (v := ?_) (a' := ?_) #[T, F, F, F, F, F, F, F] rfl rfl (any_of HT_.out (by kernel_rfl)) (fun _ _ _ h => h) (Or.inl ⟨by rfl, ?_⟩) ?_ ?_
      rotate_left
      ·intro w'
       go_simp
       with_reducible rfl
      rotate_left
      ·simp only [Act.put, Zj, Zk, Zm, i64_w, i32_w]
       rfl
      refine pure_ (i := 1) (N := some 21) (v := ?_) (a' := ?_) #[T, T, F, F, F, F, F, F] rfl rfl (any_of HT_.out (by kernel_rfl)) (fun _ _ _ h => h) (Or.inl ⟨by rfl, ?_⟩) ?_ ?_
      rotate_left
      ·intro w'
       go_simp
       with_reducible rfl
      rotate_left
      ·simp only [Act.put, Zj, Zk, Zm, i64_w, i32_w]
       rfl
      refine pure_ (i := 2) (N := some 22) (v := ?_) (a' := ?_) #[T, T, T, F, F, F, F, F] rfl rfl (any_of HT_.out (by kernel_rfl)) (fun _ _ _ h => h) (Or.inl ⟨by rfl, ?_⟩) ?_ ?_
      rotate_left
      ·intro w'
       go_simp
       with_reducible rfl
      rotate_left
      ·simp only [Act.put, Zj, Zk, Zm, i64_w, i32_w]
       rfl
      refine pure_ (i := 3) (N := some 23) (v := ?_) (a' := ?_) #[T, T, T, T, F, F, F, F] rfl rfl (any_of HT_.out (by kernel_rfl)) (fun _ _ _ h => h) (Or.inl ⟨by rfl, ?_⟩) ?_ ?_
      rotate_left
      ·intro w'
       go_simp
       with_reducible rfl
      rotate_left
      ·simp only [Act.put, Zj, Zk, Zm, i64_w, i32_w]
       rfl
      refine take_ (i := 4) (N := some 24) (v := ?_) (a' := ?_) #[T, T, T, T, T, F, F, F] rfl rfl (QbJ HT_.out HW_.out (by kernel_rfl)) (fun _ _ _ h => h) (Or.inl ⟨by rfl, ?_⟩) hHeld ?_ ?_
      rotate_left
      ·rintro w' ⟨s0, s1, s2, s3, s4, s5, s6, s7⟩
       go_simp
       with_reducible rfl
      rotate_left
      ·simp only [Act.put, Zj, Zk, Zm, i64_w, i32_w]
       rfl
      refine take_ (i := 5) (N := some 25) (v := ?_) (a' := ?_) #[T, T, T, T, T, T, F, F] rfl rfl (QbJ HT_.out HW_.out (by kernel_rfl)) (fun _ _ _ h => h) (Or.inl ⟨by rfl, ?_⟩) hHeld ?_ ?_
      rotate_left
      ·rintro w' ⟨s0, s1, s2, s3, s4, s5, s6, s7⟩
       go_simp
       with_reducible rfl
      rotate_left
      ·simp only [Act.put, Zj, Zk, Zm, i64_w, i32_w]
       rfl
      refine one_ (i := 6) (N := some 26) #[T, T, T, T, T, T, T, F] rfl rfl (one_of HT_.out (by kernel_rfl)) (by decide) (fun K hK => ?_)
      refine goesV_ Try.func74 (by kernel_rfl) rfl #[.agg #[.string ((rd_T46 l0 (ji6)).f0.f0), .string ((rd_T46 l0 (ji6)).f0.f1), .string ((rd_T46 l0 (ji6)).f1), .int .i64 ((rd_T46 l0 (ji6)).f2)], .agg #[.string a1_0, .string a1_1, .string a1_2, .int .i64 a1_3]] (by rfl) rfl rfl rfl (by (try simp only [List.map_toArray, List.map_cons, List.map_nil]); first | done | (simp only [hji6]; rfl) | rfl | (simp only [List.length_drop, List.length_take]; rfl)) ?_
      with_reducible refine (QbA.calls ((rd_T46 l0 (ji6)).f0.f0) ((rd_T46 l0 (ji6)).f0.f1) ((rd_T46 l0 (ji6)).f1) ((rd_T46 l0 (ji6)).f2) a1_0 a1_1 a1_2 a1_3 t613 _ A9.out).mono ?_
      rintro e w11 ⟨rfl, hb⟩
      refine ⟨_, rfl, ?_⟩
      replace BK611 := Aside0.mk (Zi BK611.out hb)
      replace HB := Aside0.mk (Qan (Zc1 GE611.out) hb)
      (try clear hb)
      (try clear hb2)
      (try clear hk)
      (try clear hi)
      refine hK.out _ _ ⟨(Qai BK611.out 0).trans rfl, (Qai BK611.out 1).trans rfl, (Qai BK611.out 2).trans rfl, (Qai BK611.out 3).trans rfl, ((HB.out.cell (World.block_lt_of_cell? w _ hw612_0)).trans hw612_0), ((HB.out.cell (World.block_lt_of_cell? w _ hw612_1)).trans hw612_1), ((HB.out.cell (World.block_lt_of_cell? w _ hw612_2)).trans hw612_2), ((HB.out.cell (World.block_lt_of_cell? w _ hw612_3)).trans hw612_3)⟩ (fun hHeld => ?_)
      clear hK K
      refine norm_ (a' := ?_) ?_ ?_
      rotate_left
      ·show Act.put _ (some 26) _ = _
       simp only [Act.put, Zj, Zk, Zm, i64_w, i32_w]
       rfl
      refine pure_ (i := 7) (N := some 27) (v := ?_) (a' := ?_) #[T, T, T, T, T, T, T, T] rfl rfl (any_of HT_.out (by kernel_rfl)) (fun _ _ _ h => h) (Or.inl ⟨by rfl, ?_⟩) ?_ ?_
      rotate_left
      ·intro w'
       go_simp
       with_reducible rfl
      rotate_left
      ·simp only [Act.put, Zj, Zk, Zm, i64_w, i32_w]
       rfl
      refine done_ (Qb4 HT_.out (by kernel_rfl)) ?_
      go_upto_if 27 with (fail)
      by_cases c12 : t613 < 0
      ·rw [if_pos c12] at H
       have c12b0 : decide (t613 < 0) = T := decide_eq_true c12
       clear c12
       (try simp only [c12b0])
       have H' := Aside0.mk H
       clear H
       go_wp2
       go_roundg k1
       case measure => have := HK1.out; omega
       case rel => exact ⟨(wrap64 ((ji6) + 1)), (x9_1), (by first | rfl | (simp; done) | (simp only [← hji6] <;> (first | rfl | simp)) | (simp [*]; done)), (Zs), H', ⟨by have := HK1.out; omega⟩, ⟨Zu BK611.out⟩, ⟨Zc1 GE611.out⟩⟩
      rw [if_neg c12] at H
      have c12b0 : decide (t613 < 0) = F := decide_eq_false c12
      clear c12
      (try simp only [c12b0])
      have H' := Aside0.mk H
      clear H
      go_wp2
      go_roundg k1
      case measure => have := HK1.out; omega
      case rel => exact ⟨(x8_1), (ji6), (Zs), (by first | rfl | (simp; done) | (simp only [← hji6] <;> (first | rfl | simp)) | (simp [*]; done)), H', ⟨by have := HK1.out; omega⟩, ⟨Zu BK611.out⟩, ⟨Zc1 GE611.out⟩⟩
     rw [if_neg c8] at H
     exact absurd H (by simp)
    rw [if_neg c7] at H
    exact absurd H (by simp)
   rw [if_neg c5] at H
   have c5b0 : decide (x8_1 < x9_1) = F := decide_eq_false c5
   clear c5
   (try simp only [c5b0])
   by_cases c13 : x8_1 < (l0.length : Int)
   ·rw [if_pos c13] at H
    have c13b0 : decide (x8_1 < (l0.length : Int)) = T := decide_eq_true c13
    clear c13
    by_cases c14 : 0 ≤ x8_1
    ·rw [if_pos c14] at H
     have c14b0 : decide (0 ≤ x8_1) = T := decide_eq_true c14
     clear c14
     replace H := Option.bind_eq_some_iff.mp H
     obtain ⟨t615, A150, H⟩ := H
     replace H : (some (x8_1, (t615 == 0))) = some (r1, r2) := H
     have A15 := Aside0.mk A150
     clear A150
     simp only [Option.some.injEq, Prod.mk.injEq] at H
     obtain ⟨rfl, rfl⟩ := H
     try go_wp2
     replace BK611 := Aside0.mk (Qad BK611.out)
     replace HB := Aside0.mk (Qag HB.out)
     have p614 : 0 ≤ (x8_1 : Int) := Ze
     have q614 : x8_1 < (l0.length : Int) := Ze
     obtain ⟨ad614, e614, hx614_0, hx614_1, hx614_2, hx614_3⟩ := at_T46 HR0.out x8_1 p614 q614
     have hw614_3 := hx614_3
     have hw614_2 := hx614_2
     have hw614_1 := hx614_1
     have hw614_0 := hx614_0
     cases e614
     replace hx614_0 := Zx HB.out hx614_0
     replace hx614_1 := Zx HB.out hx614_1
     replace hx614_2 := Zx HB.out hx614_2
     replace hx614_3 := Zx HB.out hx614_3
     replace p614 := eq_true p614
     replace q614 := eq_true q614
     refine start_ (n := 17) (S := fun w' => w'.cell? ⟨gb611, 0, none⟩ = some (.string a1_0) ∧ w'.cell? ⟨gb611, 1, none⟩ = some (.string a1_1) ∧ w'.cell? ⟨gb611, 2, none⟩ = some (.string a1_2) ∧ w'.cell? ⟨gb611, 3, none⟩ = some (.int .i64 a1_3) ∧ w'.cell? (ad614.add ((x8_1).toNat * 4)) = some (.string ((rd_T46 l0 x8_1).f0.f0)) ∧ w'.cell? ⟨(ad614.add ((x8_1).toNat * 4)).block, (ad614.add ((x8_1).toNat * 4)).off + 1, none⟩ = some (.string ((rd_T46 l0 x8_1).f0.f1)) ∧ w'.cell? ⟨(ad614.add ((x8_1).toNat * 4)).block, (ad614.add ((x8_1).toNat * 4)).off + 2, none⟩ = some (.string ((rd_T46 l0 x8_1).f1)) ∧ w'.cell? ⟨(ad614.add ((x8_1).toNat * 4)).block, (ad614.add ((x8_1).toNat * 4)).off + 3, none⟩ = some (.int .i64 ((rd_T46 l0 x8_1).f2))) (ds := []) #[F, F, F, F, F, F, F, F, F, F, F, F, F, F, F, F, F] (by kernel_rfl) rfl rfl ⟨(Qai BK611.out 0).trans rfl, (Qai BK611.out 1).trans rfl, (Qai BK611.out 2).trans rfl, (Qai BK611.out 3).trans rfl, ((HB.out.cell (World.block_lt_of_cell? w _ hw614_0)).trans hw614_0), ((HB.out.cell (World.block_lt_of_cell? w _ hw614_1)).trans hw614_1), ((HB.out.cell (World.block_lt_of_cell? w _ hw614_2)).trans hw614_2), ((HB.out.cell (World.block_lt_of_cell? w _ hw614_3)).trans hw614_3)⟩ (fun hHeld => ?_); refine QbW Qax.tab7 Qax.bits7 (fun HT_ HW_ => ?_)
     generalize wr.drew = w16 at BK611 HB hx614_0 hx614_1 hx614_2 hx614_3 hHeld ⊢
     refine pure_ (i := 0) (N := some 31) (v := ?_) (a' := ?_) #[T, F, F, F, F, F, F, F, F, F, F, F, F, F, F, F, F] rfl rfl (any_of HT_.out (by kernel_rfl)) (fun _ _ _ h => h) (Or.inl ⟨by rfl, ?_⟩) ?_ ?_
     rotate_left
     ·intro w'
      go_simp
      with_reducible rfl
     rotate_left
     ·simp only [Act.put, Zj, Zk, Zm, i64_w, i32_w]
      rfl
     refine pure_ (i := 1) (N := some 32) (v := ?_) (a' := ?_) #[T, T, F, F, F, F, F, F, F, F, F, F, F, F, F, F, F] rfl rfl (any_of HT_.out (by kernel_rfl)) (fun _ _ _ h => h) (Or.inl ⟨by rfl, ?_⟩) ?_ ?_
     rotate_left
     ·intro w'
      go_simp
      with_reducible rfl
     rotate_left
     ·simp only [Act.put, Zj, Zk, Zm, i64_w, i32_w]
      rfl
     refine pure_ (i := 2) (N := some 33) (v := ?_) (a' := ?_) #[T, T, T, F, F, F, F, F, F, F, F, F, F, F, F, F, F] rfl rfl (any_of HT_.out (by kernel_rfl)) (fun _ _ _ h => h) (Or.inl ⟨by rfl, ?_⟩) ?_ ?_
     rotate_left
     ·intro w'
      go_simp
      with_reducible rfl
     rotate_left
     ·simp only [Act.put, Zj, Zk, Zm, i64_w, i32_w]
      rfl
     refine pure_ (i := 3) (N := some 34) (v := ?_) (a' := ?_) #[T, T, T, T, F, F, F, F, F, F, F, F, F, F, F, F, F] rfl rfl (any_of HT_.out (by kernel_rfl)) (fun _ _ _ h => h) (Or.inl ⟨by rfl, ?_⟩) ?_ ?_
     rotate_left
     ·intro w'
      go_simp
      with_reducible rfl
     rotate_left
     ·simp only [Act.put, Zj, Zk, Zm, i64_w, i32_w]
      rfl
     refine pure_ (i := 4) (N := some 35) (v := ?_) (a' := ?_) #[T, T, T, T, T, F, F, F, F, F, F, F, F, F, F, F, F] rfl rfl (any_of HT_.out (by kernel_rfl)) (fun _ _ _ h => h) (Or.inl ⟨by rfl, ?_⟩) ?_ ?_
     rotate_left
     ·intro w'
      go_simp
      with_reducible rfl
     rotate_left
     ·simp only [Act.put, Zj, Zk, Zm, i64_w, i32_w]
      rfl
     refine pure_ (i := 5) (N := some 36) (v := ?_) (a' := ?_) #[T, T, T, T, T, T, F, F, F, F, F, F, F, F, F, F, F] rfl rfl (any_of HT_.out (by kernel_rfl)) (fun _ _ _ h => h) (Or.inl ⟨by rfl, ?_⟩) ?_ ?_
     rotate_left
     ·intro w'
      go_simp
      with_reducible rfl
     rotate_left
     ·simp only [Act.put, Zj, Zk, Zm, i64_w, i32_w]
      rfl
     refine pure_ (i := 6) (N := some 37) (v := ?_) (a' := ?_) #[T, T, T, T, T, T, T, F, F, F, F, F, F, F, F, F, F] rfl rfl (any_of HT_.out (by kernel_rfl)) (fun _ _ _ h => h) (Or.inl ⟨by rfl, ?_⟩) ?_ ?_
     rotate_left
     ·intro w'
      go_simp
      with_reducible rfl
     rotate_left
     ·simp only [Act.put, Zj, Zk, Zm, i64_w, i32_w]
      rfl
     refine pure_ (i := 7) (N := some 38) (v := ?_) (a' := ?_) #[T, T, T, T, T, T, T, T, F, F, F, F, F, F, F, F, F] rfl rfl (any_of HT_.out (by kernel_rfl)) (fun _ _ _ h => h) (Or.inl ⟨by rfl, ?_⟩) ?_ ?_
     rotate_left
     ·intro w'
      go_simp
      with_reducible rfl
     rotate_left
     ·simp only [Act.put, Zj, Zk, Zm, i64_w, i32_w]
      rfl
     refine pure_ (i := 8) (N := some 39) (v := ?_) (a' := ?_) #[T, T, T, T, T, T, T, T, T, F, F, F, F, F, F, F, F] rfl rfl (any_of HT_.out (by kernel_rfl)) (fun _ _ _ h => h) (Or.inl ⟨by rfl, ?_⟩) ?_ ?_
     rotate_left
     ·intro w'
      go_simp
      with_reducible rfl
     rotate_left
     ·simp only [Act.put, Zj, Zk, Zm, i64_w, i32_w]
      rfl
     refine pure_ (i := 9) (N := some 40) (v := ?_) (a' := ?_) #[T, T, T, T, T, T, T, T, T, T, F, F, F, F, F, F, F] rfl rfl (any_of HT_.out (by kernel_rfl)) (fun _ _ _ h => h) (Or.inl ⟨by rfl, ?_⟩) ?_ ?_
     rotate_left
     ·intro w'
      go_simp
      with_reducible rfl
     rotate_left
     ·simp only [Act.put, Zj, Zk, Zm, i64_w, i32_w]
      rfl
     refine take_ (i := 10) (N := some 41) (v := ?_) (a' := ?_) #[T, T, T, T, T, T, T, T, T, T, T, F, F, F, F, F, F] rfl rfl (QbJ HT_.out HW_.out (by kernel_rfl)) (fun _ _ _ h => h) (Or.inl ⟨by rfl, ?_⟩) hHeld ?_ ?_
     rotate_left
     ·rintro w' ⟨s0, s1, s2, s3, s4, s5, s6, s7⟩
      go_simp
      with_reducible rfl
     rotate_left
     ·simp only [Act.put, Zj, Zk, Zm, i64_w, i32_w]
      rfl
     refine take_ (i := 11) (N := some 42) (v := ?_) (a' := ?_) #[T, T, T, T, T, T, T, T, T, T, T, T, F, F, F, F, F] rfl rfl (QbJ HT_.out HW_.out (by kernel_rfl)) (fun _ _ _ h => h) (Or.inl ⟨by rfl, ?_⟩) hHeld ?_ ?_
     rotate_left
     ·rintro w' ⟨s0, s1, s2, s3, s4, s5, s6, s7⟩
      go_simp
      with_reducible rfl
     rotate_left
     ·simp only [Act.put, Zj, Zk, Zm, i64_w, i32_w]
      rfl
     refine one_ (i := 12) (N := some 43) #[T, T, T, T, T, T, T, T, T, T, T, T, T, F, F, F, F] rfl rfl (one_of HT_.out (by kernel_rfl)) (by decide) (fun K hK => ?_)
     refine goesV_ Try.func74 (by kernel_rfl) rfl #[.agg #[.string ((rd_T46 l0 x8_1).f0.f0), .string ((rd_T46 l0 x8_1).f0.f1), .string ((rd_T46 l0 x8_1).f1), .int .i64 ((rd_T46 l0 x8_1).f2)], .agg #[.string a1_0, .string a1_1, .string a1_2, .int .i64 a1_3]] (by rfl) rfl rfl rfl (Zl) ?_
     with_reducible refine (QbA.calls ((rd_T46 l0 x8_1).f0.f0) ((rd_T46 l0 x8_1).f0.f1) ((rd_T46 l0 x8_1).f1) ((rd_T46 l0 x8_1).f2) a1_0 a1_1 a1_2 a1_3 t615 _ A15.out).mono ?_
     rintro e w17 ⟨rfl, hb⟩
     refine ⟨_, rfl, ?_⟩
     replace BK611 := Aside0.mk (Zi BK611.out hb)
     replace HB := Aside0.mk (Qan (Zc1 GE611.out) hb)
     (try clear hb)
     (try clear hb2)
     (try clear hk)
     (try clear hi)
     refine hK.out _ _ ⟨(Qai BK611.out 0).trans rfl, (Qai BK611.out 1).trans rfl, (Qai BK611.out 2).trans rfl, (Qai BK611.out 3).trans rfl, ((HB.out.cell (World.block_lt_of_cell? w _ hw614_0)).trans hw614_0), ((HB.out.cell (World.block_lt_of_cell? w _ hw614_1)).trans hw614_1), ((HB.out.cell (World.block_lt_of_cell? w _ hw614_2)).trans hw614_2), ((HB.out.cell (World.block_lt_of_cell? w _ hw614_3)).trans hw614_3)⟩ (fun hHeld => ?_)
     clear hK K
     refine norm_ (a' := ?_) ?_ ?_
     rotate_left
     ·show Act.put _ (some 43) _ = _
      simp only [Act.put, Zj, Zk, Zm, i64_w, i32_w]
      rfl
     refine pure_ (i := 13) (N := some 44) (v := ?_) (a' := ?_) #[T, T, T, T, T, T, T, T, T, T, T, T, T, T, F, F, F] rfl rfl (any_of HT_.out (by kernel_rfl)) (fun _ _ _ h => h) (Or.inl ⟨by rfl, ?_⟩) ?_ ?_
     rotate_left
     ·intro w'
      go_simp
      with_reducible rfl
     rotate_left
     ·simp only [Act.put, Zj, Zk, Zm, i64_w, i32_w]
      rfl
     refine pure_ (i := 14) (N := some 45) (v := ?_) (a' := ?_) #[T, T, T, T, T, T, T, T, T, T, T, T, T, T, T, F, F] rfl rfl (any_of HT_.out (by kernel_rfl)) (fun _ _ _ h => h) (Or.inl ⟨by rfl, ?_⟩) ?_ ?_
     rotate_left
     ·intro w'
      go_simp
      with_reducible rfl
     rotate_left
     ·simp only [Act.put, Zj, Zk, Zm, i64_w, i32_w]
      rfl
     refine pure_ (i := 15) (N := some 6) (v := ?_) (a' := ?_) #[T, T, T, T, T, T, T, T, T, T, T, T, T, T, T, T, F] rfl rfl (any_of HT_.out (by kernel_rfl)) (fun _ _ _ h => h) (Or.inl ⟨by rfl, ?_⟩) ?_ ?_
     rotate_left
     ·intro w'
      go_simp
      with_reducible rfl
     rotate_left
     ·simp only [Act.put, Zj, Zk, Zm, i64_w, i32_w]
      rfl
     refine pure_ (i := 16) (N := some 7) (v := ?_) (a' := ?_) #[T, T, T, T, T, T, T, T, T, T, T, T, T, T, T, T, T] rfl rfl (any_of HT_.out (by kernel_rfl)) (fun _ _ _ h => h) (Or.inl ⟨by rfl, ?_⟩) ?_ ?_
     rotate_left
     ·intro w'
      go_simp
      with_reducible rfl
     rotate_left
     ·simp only [Act.put, Zj, Zk, Zm, i64_w, i32_w]
      rfl
     refine done_ (Qb4 HT_.out (by kernel_rfl)) ?_
     try go_wp2
     go_ret2
     exact ⟨Zq, Zc1 GE611.out⟩
    rw [if_neg c14] at H
    exact absurd H (by simp)
   rw [if_neg c13] at H
   have c13b0 : decide (x8_1 < (l0.length : Int)) = F := decide_eq_false c13
   clear c13
   simp only [Option.some.injEq, Prod.mk.injEq] at H
   obtain ⟨rfl, rfl⟩ := H
   try go_wp2
   replace BK611 := Aside0.mk (Qad BK611.out)
   replace HB := Aside0.mk (Qag HB.out)
   refine start_ (n := 17) (S := fun w' => True) (ds := []) #[F, F, F, F, F, F, F, F, F, F, F, F, F, F, F, F, F] (by kernel_rfl) rfl rfl trivial (fun hHeld => ?_); refine QbW Qax.tab7 Qax.bits7 (fun HT_ HW_ => ?_)
   generalize wr.drew = w18 at BK611 HB hHeld ⊢
   refine pure_ (i := 0) (N := some 31) (v := ?_) (a' := ?_) #[T, F, F, F, F, F, F, F, F, F, F, F, F, F, F, F, F] rfl rfl (any_of HT_.out (by kernel_rfl)) (fun _ _ _ h => h) (Or.inl ⟨by rfl, ?_⟩) ?_ ?_
   rotate_left
   ·intro w'
    go_simp
    with_reducible rfl
   rotate_left
   ·simp only [Act.put, Zj, Zk, Zm, i64_w, i32_w]
    rfl
   refine pure_ (i := 1) (N := some 32) (v := ?_) (a' := ?_) #[T, T, F, F, F, F, F, F, F, F, F, F, F, F, F, F, F] rfl rfl (any_of HT_.out (by kernel_rfl)) (fun _ _ _ h => h) (Or.inl ⟨by rfl, ?_⟩) ?_ ?_
   rotate_left
   ·intro w'
    go_simp
    with_reducible rfl
   rotate_left
   ·simp only [Act.put, Zj, Zk, Zm, i64_w, i32_w]
    rfl
   refine pure_ (i := 2) (N := some 33) (v := ?_) (a' := ?_) #[T, T, T, F, F, F, F, F, F, F, F, F, F, F, F, F, F] rfl rfl (any_of HT_.out (by kernel_rfl)) (fun _ _ _ h => h) (Or.inl ⟨by rfl, ?_⟩) ?_ ?_
   rotate_left
   ·intro w'
    go_simp
    with_reducible rfl
   rotate_left
   ·simp only [Act.put, Zj, Zk, Zm, i64_w, i32_w]
    rfl
   refine pure_ (i := 3) (N := some 34) (v := ?_) (a' := ?_) #[T, T, T, T, F, F, F, F, F, F, F, F, F, F, F, F, F] rfl rfl (any_of HT_.out (by kernel_rfl)) (fun _ _ _ h => h) (Or.inl ⟨by rfl, ?_⟩) ?_ ?_
   rotate_left
   ·intro w'
    go_simp
    with_reducible rfl
   rotate_left
   ·simp only [Act.put, Zj, Zk, Zm, i64_w, i32_w]
    rfl
   refine pure_ (i := 4) (N := some 35) (v := ?_) (a' := ?_) #[T, T, T, T, T, F, F, F, F, F, F, F, F, F, F, F, F] rfl rfl (any_of HT_.out (by kernel_rfl)) (fun _ _ _ h => h) (Or.inl ⟨by rfl, ?_⟩) ?_ ?_
   rotate_left
   ·intro w'
    go_simp
    with_reducible rfl
   rotate_left
   ·simp only [Act.put, Zj, Zk, Zm, i64_w, i32_w]
    rfl
   refine pure_ (i := 5) (N := some 36) (v := ?_) (a' := ?_) #[T, T, T, T, T, T, F, F, F, F, F, F, F, F, F, F, F] rfl rfl (any_of HT_.out (by kernel_rfl)) (fun _ _ _ h => h) (Or.inl ⟨by rfl, ?_⟩) ?_ ?_
   rotate_left
   ·intro w'
    go_simp
    with_reducible rfl
   rotate_left
   ·simp only [Act.put, Zj, Zk, Zm, i64_w, i32_w]
    rfl
   refine pure_ (i := 6) (N := some 37) (v := undef) (a' := ?_) #[T, T, T, T, T, T, T, F, F, F, F, F, F, F, F, F, F] rfl rfl (any_of HT_.out (by kernel_rfl)) (fun _ _ _ h => h) (Or.inr ⟨by rfl, rfl⟩) ?_ ?_
   rotate_left
   ·simp only [Act.put, Zj, Zk, Zm, i64_w, i32_w]
    rfl
   refine pure_ (i := 7) (N := some 38) (v := undef) (a' := ?_) #[T, T, T, T, T, T, T, T, F, F, F, F, F, F, F, F, F] rfl rfl (any_of HT_.out (by kernel_rfl)) (fun _ _ _ h => h) (Or.inr ⟨by rfl, rfl⟩) ?_ ?_
   rotate_left
   ·simp only [Act.put, Zj, Zk, Zm, i64_w, i32_w]
    rfl
   refine pure_ (i := 8) (N := some 39) (v := undef) (a' := ?_) #[T, T, T, T, T, T, T, T, T, F, F, F, F, F, F, F, F] rfl rfl (any_of HT_.out (by kernel_rfl)) (fun _ _ _ h => h) (Or.inr ⟨by rfl, rfl⟩) ?_ ?_
   rotate_left
   ·simp only [Act.put, Zj, Zk, Zm, i64_w, i32_w]
    rfl
   refine pure_ (i := 9) (N := some 40) (v := undef) (a' := ?_) #[T, T, T, T, T, T, T, T, T, T, F, F, F, F, F, F, F] rfl rfl (any_of HT_.out (by kernel_rfl)) (fun _ _ _ h => h) (Or.inr ⟨by rfl, rfl⟩) ?_ ?_
   rotate_left
   ·simp only [Act.put, Zj, Zk, Zm, i64_w, i32_w]
    rfl
   refine pure_ (i := 10) (N := some 41) (v := undef) (a' := ?_) #[T, T, T, T, T, T, T, T, T, T, T, F, F, F, F, F, F] rfl rfl (any_of HT_.out (by kernel_rfl)) (fun _ _ _ h => h) (Or.inr ⟨by rfl, rfl⟩) ?_ ?_
   rotate_left
   ·simp only [Act.put, Zj, Zk, Zm, i64_w, i32_w]
    rfl
   refine pure_ (i := 11) (N := some 42) (v := undef) (a' := ?_) #[T, T, T, T, T, T, T, T, T, T, T, T, F, F, F, F, F] rfl rfl (any_of HT_.out (by kernel_rfl)) (fun _ _ _ h => h) (Or.inr ⟨by rfl, rfl⟩) ?_ ?_
   rotate_left
   ·simp only [Act.put, Zj, Zk, Zm, i64_w, i32_w]
    rfl
   refine pure_ (i := 12) (N := some 43) (v := undef) (a' := ?_) #[T, T, T, T, T, T, T, T, T, T, T, T, T, F, F, F, F] rfl rfl (any_of HT_.out (by kernel_rfl)) (fun _ _ _ h => h) (Or.inr ⟨by rfl, rfl⟩) ?_ ?_
   rotate_left
   ·simp only [Act.put, Zj, Zk, Zm, i64_w, i32_w]
    rfl
   refine pure_ (i := 13) (N := some 44) (v := undef) (a' := ?_) #[T, T, T, T, T, T, T, T, T, T, T, T, T, T, F, F, F] rfl rfl (any_of HT_.out (by kernel_rfl)) (fun _ _ _ h => h) (Or.inr ⟨by rfl, rfl⟩) ?_ ?_
   rotate_left
   ·simp only [Act.put, Zj, Zk, Zm, i64_w, i32_w]
    rfl
   refine pure_ (i := 14) (N := some 45) (v := ?_) (a' := ?_) #[T, T, T, T, T, T, T, T, T, T, T, T, T, T, T, F, F] rfl rfl (any_of HT_.out (by kernel_rfl)) (fun _ _ _ h => h) (Or.inl ⟨by rfl, ?_⟩) ?_ ?_
   rotate_left
   ·intro w'
    go_simp
    with_reducible rfl
   rotate_left
   ·simp only [Act.put, Zj, Zk, Zm, i64_w, i32_w]
    rfl
   refine pure_ (i := 15) (N := some 6) (v := ?_) (a' := ?_) #[T, T, T, T, T, T, T, T, T, T, T, T, T, T, T, T, F] rfl rfl (any_of HT_.out (by kernel_rfl)) (fun _ _ _ h => h) (Or.inl ⟨by rfl, ?_⟩) ?_ ?_
   rotate_left
   ·intro w'
    go_simp
    with_reducible rfl
   rotate_left
   ·simp only [Act.put, Zj, Zk, Zm, i64_w, i32_w]
    rfl
   refine pure_ (i := 16) (N := some 7) (v := ?_) (a' := ?_) #[T, T, T, T, T, T, T, T, T, T, T, T, T, T, T, T, T] rfl rfl (any_of HT_.out (by kernel_rfl)) (fun _ _ _ h => h) (Or.inl ⟨by rfl, ?_⟩) ?_ ?_
   rotate_left
   ·intro w'
    go_simp
    with_reducible rfl
   rotate_left
   ·simp only [Act.put, Zj, Zk, Zm, i64_w, i32_w]
    rfl
   refine done_ (Qb4 HT_.out (by kernel_rfl)) ?_
   try go_wp2
   go_ret2
   exact ⟨Zq, Zc1 GE611.out⟩
def Qbe.j0 : Nat → List (S46) → Int → Int → Bool → ByteArray → ByteArray → ByteArray → Int → Option ((List (S46)) × Int)
 | 0, _, _, _, _, _, _, _, _ => none
 | k + 1, x0, x3, x11, x40, x640000, x640001, x640002, x640003 => if x40 = T then (some (([] : List (S46)), 23)) else (if 0 ≤ x11 then (if x11 < (x0.length : Int) then (if (wrap64 (((rd_T46 x0 x11).f2) - x3)) = 0 then ((Qbx.f x0 x11 1 ([] : List (S46))).bind fun t644 => (some (t644, 0))) else ((Qbx.f x0 x11 1 (([(⟨(⟨x640000, x640001⟩ : S44), x640002, wrap64 (((rd_T46 x0 x11).f2) - x3)⟩ : S46)] : List (S46)))).bind fun t650 => (some (t650, 0)))) else (none)) else (none))
def Qbe.f (k : Nat) (l0 : List (S46)) (a1_0 : ByteArray) (a1_1 : ByteArray) (a2 : ByteArray) (a3 : Int) : Option ((List (S46)) × Int) := (QaF.f k l0).bind fun t637 => (if t637 = 0 then ((QbT.f a3).bind fun t638 => (if t638 = T then ((Qax.f k l0 a1_0 a1_1 a2 0).bind fun bt640 => (if bt640.2 = T then (if 0 ≤ bt640.1 then (if bt640.1 < (l0.length : Int) then (Qbe.j0 k l0 a3 bt640.1 (decide (((rd_T46 l0 bt640.1).f2) < a3)) a1_0 a1_1 a2 0) else (none)) else (none)) else (Qbe.j0 k l0 a3 bt640.1 T a1_0 a1_1 a2 0))) else (some (([] : List (S46)), 18)))) else (some (([] : List (S46)), t637)))
theorem Qbe.mono_l : ∀ k, (∀ y0 y1 y2 y3 y4 y5 y6 y7, LeO (Qbe.j0 k y0 y1 y2 y3 y4 y5 y6 y7) (Qbe.j0 (k + 1) y0 y1 y2 y3 y4 y5 y6 y7))
 | 0 => fun _ _ _ _ _ _ _ _ r h => by simp [Qbe.j0] at h
 | k + 1 => by
  have ih0 := Qbe.mono_l k
  intro y0 y1 y2 y3 y4 y5 y6 y7
  unfold Qbe.j0
  exact ZM3 ih0 QaF.mono Qax.mono
theorem Qbe.mono : ∀ a0 a1 a2 a3 a4 k, LeO (Qbe.f k a0 a1 a2 a3 a4) (Qbe.f (k + 1) a0 a1 a2 a3 a4) := by
 intro a0 a1 a2 a3 a4 k
 have ih0 := Qbe.mono_l k
 unfold Qbe.f
 exact ZM3 ih0 QaF.mono Qax.mono
theorem Qbe.calls (k : Nat) (A0 : Option Addr) (c0 : Nat) (l0 : List (S46)) (a1_0 : ByteArray) (a1_1 : ByteArray) (a2 : ByteArray) (a3 : Int) (r1 : List (S46)) (r2 : Int) (w : World) (hr0 : Kd.C k46 w A0 l0.length l0) (hc0 : l0.length ≤ c0) (h : Qbe.f k l0 a1_0 a1_1 a2 a3 = some (r1, r2)) :
  Calls Try.prog 47 #[.slice A0 l0.length c0, .agg #[.string a1_0, .string a1_1], .string a2, .int .i64 a3] w fun e w' => ∃ v0_ : Value, e = .returned (.tuple #[v0_, .int .i64 r2]) ∧ Kd.R k46 46 w' w.heap.size (fun _ => True) v0_ r1 ∧ Below w.heap.size w w' := by
 have hu44 := Try.underlying44
 have hu46 := Try.underlying46
 have HR0 := Aside0.mk hr0
 have HC0 := Aside0.mk hc0
 clear hr0 hc0
 have HB := Aside0.mk (Below.refl w.heap.size w)
 have H : ((QaF.f k l0).bind fun t637 => (if t637 = 0 then ((QbT.f a3).bind fun t638 => (if t638 = T then ((Qax.f k l0 a1_0 a1_1 a2 0).bind fun bt640 => (if bt640.2 = T then (if 0 ≤ bt640.1 then (if bt640.1 < (l0.length : Int) then (Qbe.j0 k l0 a3 bt640.1 (decide (((rd_T46 l0 bt640.1).f2) < a3)) a1_0 a1_1 a2 0) else (none)) else (none)) else (Qbe.j0 k l0 a3 bt640.1 T a1_0 a1_1 a2 0))) else (some (([] : List (S46)), 18)))) else (some (([] : List (S46)), t637)))) = some (r1, r2) := h
 clear h
 replace H := Option.bind_eq_some_iff.mp H
 obtain ⟨t637, A50, H⟩ := H
 replace H : (if t637 = 0 then ((QbT.f a3).bind fun t638 => (if t638 = T then ((Qax.f k l0 a1_0 a1_1 a2 0).bind fun bt640 => (if bt640.2 = T then (if 0 ≤ bt640.1 then (if bt640.1 < (l0.length : Int) then (Qbe.j0 k l0 a3 bt640.1 (decide (((rd_T46 l0 bt640.1).f2) < a3)) a1_0 a1_1 a2 0) else (none)) else (none)) else (Qbe.j0 k l0 a3 bt640.1 T a1_0 a1_1 a2 0))) else (some (([] : List (S46)), 18)))) else (some (([] : List (S46)), t637))) = some (r1, r2) := H
 have A5 := Aside0.mk A50
 clear A50
 go_enter Try.func47, Try.ntmps47
 go_upto_if 16 with (first | ((with_reducible refine QaL (N := 5) rfl ?_); refine Zbx (N := 5) (cs := #[.string a1_0, .string a1_1]) (t := 44) ?_; intro gb636 hg w6 hbox hb; have BK636 := Aside0.mk (hbox); have GW636 := Aside0.mk (Zt w hg (Zb)); have GE636 := GW636; replace HB := Aside0.mk (Qan (Zb) hb); clear hb hbox hg) | ((with_reducible refine Qaw (f := 71) rfl ?_); refine goesL_ (some 14) rfl rfl Try.func71 (by kernel_rfl) rfl #[.slice A0 l0.length c0] rfl (Zl) ?_; (with_reducible refine (QaF.calls k _ _ l0 t637 _ ?side1 ?side2 A5.out).mono ?_); (case side1 => exact Zv (Kd.C_below HR0.out HB.out)); (case side2 => exact HC0.out); rintro e w7 ⟨rfl, hb⟩; refine ⟨_, rfl, ?_⟩; replace BK636 := Aside0.mk (Zi BK636.out hb); replace HB := Aside0.mk (Qan (Zc1 GE636.out) hb); (try clear hb); (try clear hb2); (try clear hk); (try clear hi)))
 (try simp only [Act.put, Zj, Zk, Zm])
 by_cases c8 : t637 = 0
 ·rw [if_pos c8] at H
  have c8b0 : (t637 == 0) = T := beq_iff_eq.mpr c8
  have c8b1 : (t637 != 0) = F := bne_eq_false_iff_eq.mpr c8
  clear c8
  (try simp only [c8b0, c8b1])
  replace H := Option.bind_eq_some_iff.mp H
  obtain ⟨t638, A90, H⟩ := H
  replace H : (if t638 = T then ((Qax.f k l0 a1_0 a1_1 a2 0).bind fun bt640 => (if bt640.2 = T then (if 0 ≤ bt640.1 then (if bt640.1 < (l0.length : Int) then (Qbe.j0 k l0 a3 bt640.1 (decide (((rd_T46 l0 bt640.1).f2) < a3)) a1_0 a1_1 a2 0) else (none)) else (none)) else (Qbe.j0 k l0 a3 bt640.1 T a1_0 a1_1 a2 0))) else (some (([] : List (S46)), 18))) = some (r1, r2) := H
  have A9 := Aside0.mk A90
  clear A90
  go_upto_if 20 with (first | ((with_reducible refine Qaw (f := 72) rfl ?_); refine goesL_ (some 19) rfl rfl Try.func72 (by kernel_rfl) rfl #[.int .i64 a3] rfl (Zl) ?_; (with_reducible refine (QbT.calls a3 t638 _ A9.out).mono ?_); rintro e w' ⟨rfl, ⟨nd, rfl⟩⟩; refine ⟨_, rfl, ?_⟩))
  (try simp only [Act.put, Zj, Zk, Zm])
  by_cases c10 : t638 = T
  ·subst c10
   have H1 : ((Qax.f k l0 a1_0 a1_1 a2 0).bind fun bt640 => (if bt640.2 = T then (if 0 ≤ bt640.1 then (if bt640.1 < (l0.length : Int) then (Qbe.j0 k l0 a3 bt640.1 (decide (((rd_T46 l0 bt640.1).f2) < a3)) a1_0 a1_1 a2 0) else (none)) else (none)) else (Qbe.j0 k l0 a3 bt640.1 T a1_0 a1_1 a2 0))) = some (r1, r2) := by rw [if_pos rfl] at H; exact H
   clear H
   have H := H1
   clear H1
   replace H := Option.bind_eq_some_iff.mp H
   obtain ⟨⟨t640, t641⟩, A110, H⟩ := H
   replace H : (if t641 = T then (if 0 ≤ t640 then (if t640 < (l0.length : Int) then (Qbe.j0 k l0 a3 t640 (decide (((rd_T46 l0 t640).f2) < a3)) a1_0 a1_1 a2 0) else (none)) else (none)) else (Qbe.j0 k l0 a3 t640 T a1_0 a1_1 a2 0)) = some (r1, r2) := H
   have A11 := Aside0.mk A110
   clear A110
   have HC12 := Aside0.mk H
   clear H
   obtain ⟨hcz13_0, hfz13_0⟩ := Zy (v := (.string a1_0)) BK636.out 0
   obtain ⟨hcz13_1, hfz13_1⟩ := Zy (v := (.string a1_1)) BK636.out 1
   go_upto_region 8 with (first | ((with_reducible refine QaL (N := 10) rfl ?_); refine Zbx (N := 10) (cs := #[.string (⟨#[]⟩ : ByteArray), .string (⟨#[]⟩ : ByteArray), .string (⟨#[]⟩ : ByteArray), .int .i64 0]) (t := 46) ?_; intro gb639 hg w14 hbox hb; have BK639 := Aside0.mk (hbox); have GW639 := Aside0.mk (Zt w hg (Zc1 GE636.out)); have GE639 := GW639; have NB636_639 := Aside0.mk (Zn hg BK636.out); have NB639_636 := Aside0.mk NB636_639.out.symm; replace BK636 := Aside0.mk (Zi BK636.out hb); replace HB := Aside0.mk (Qan (Zc1 GE636.out) hb); clear hb hbox hg; have hnb15 := NB639_636.out; have hnc15 := NB636_639.out; obtain ⟨hcz16_0, hfz16_0⟩ := Zy (v := (.string (⟨#[]⟩ : ByteArray))) BK639.out 0; obtain ⟨hcz16_1, hfz16_1⟩ := Zy (v := (.string (⟨#[]⟩ : ByteArray))) BK639.out 1; obtain ⟨hcz16_2, hfz16_2⟩ := Zy (v := (.string (⟨#[]⟩ : ByteArray))) BK639.out 2; obtain ⟨hcz16_3, hfz16_3⟩ := Zy (v := (.int .i64 0)) BK639.out 3) | ((with_reducible refine Qaw (f := 73) rfl ?_); refine goesL_ (some 27) rfl rfl Try.func73 (by kernel_rfl) rfl #[.slice A0 l0.length c0, .agg #[.string a1_0, .string a1_1, .string a2, .int .i64 0], .func (.func 74) #[] #[]] rfl (Zl) ?_; (with_reducible refine (Qax.calls k _ _ l0 a1_0 a1_1 a2 0  t640 t641 _ ?side1 ?side2 A11.out).mono ?_); (case side1 => exact Kd.C_below HR0.out (Zc2 GE636.out GE639.out)); (case side2 => exact HC0.out); rintro e w17 ⟨rfl, hb⟩; refine ⟨_, rfl, ?_⟩; replace BK636 := Aside0.mk (Qal (g := gb636) (o := .cells #[.string a1_0, .string a1_1] 44 (0, 0)) (Zg4 BK636.out NB636_639.out NB636_639.out NB636_639.out NB636_639.out) hb); replace BK639 := Aside0.mk (Zpi #[.string a1_0, .string a1_1, .string a2, .int .i64 0] BK639.out hb); replace HB := Aside0.mk (Qan (Zc2 GE636.out GE639.out) hb); (try clear hb); (try clear hb2); (try clear hk); (try clear hi)))
   (try simp only [Act.put, Zj, Zk, Zm])
   go_cut [40] (fun v40 wc => ∃ (kq : Nat) (x40_11 : Bool), v40 = .bool x40_11 ∧ Aside0 (Qbe.j0 kq l0 a3 t640 x40_11 a1_0 a1_1 a2 0 = some (r1, r2)) ∧ Aside0 (kq ≤ k) ∧ Aside0 (wc.heap[gb636]? = some (.cells #[.string a1_0, .string a1_1] 44 (0, 0))) ∧ Aside0 (wc.heap[gb639]? = some (.cells #[.string a1_0, .string a1_1, .string a2, .int .i64 0] 46 (0, 0))) ∧ Aside0 (Below w.heap.size w wc))
   case first =>
    have H := HC12.out
    clear HC12
    by_cases c18 : t641 = T
    ·subst c18
     have H1 : (if 0 ≤ t640 then (if t640 < (l0.length : Int) then (Qbe.j0 k l0 a3 t640 (decide (((rd_T46 l0 t640).f2) < a3)) a1_0 a1_1 a2 0) else (none)) else (none)) = some (r1, r2) := by rw [if_pos rfl] at H; exact H
     clear H
     have H := H1
     clear H1
     by_cases c19 : 0 ≤ t640
     ·rw [if_pos c19] at H
      have c19b0 : decide (0 ≤ t640) = T := decide_eq_true c19
      clear c19
      by_cases c20 : t640 < (l0.length : Int)
      ·rw [if_pos c20] at H
       have c20b0 : decide (t640 < (l0.length : Int)) = T := decide_eq_true c20
       clear c20
       have H' := Aside0.mk H
       clear H
       have p642 : 0 ≤ (t640 : Int) := Ze
       have q642 : t640 < (l0.length : Int) := Ze
       obtain ⟨ad642, e642, hx642_0, hx642_1, hx642_2, hx642_3⟩ := at_T46 HR0.out t640 p642 q642
       cases e642
       replace hx642_0 := Zx HB.out hx642_0
       replace hx642_1 := Zx HB.out hx642_1
       replace hx642_2 := Zx HB.out hx642_2
       replace hx642_3 := Zx HB.out hx642_3
       replace p642 := eq_true p642
       replace q642 := eq_true q642
       go_wp2
       go_meet
       case rel => exact ⟨_, (decide (((rd_T46 l0 t640).f2) < a3)), (Zs), H', ⟨by first | omega | exact Nat.le_refl _⟩, ⟨Zu BK636.out⟩, ⟨Zu BK639.out⟩, ⟨Zc2 GE636.out GE639.out⟩⟩
      rw [if_neg c20] at H
      exact absurd H (by simp)
     rw [if_neg c19] at H
     exact absurd H (by simp)
    replace c18 := Bool.eq_false_iff.mpr c18
    subst c18
    have H1 : (Qbe.j0 k l0 a3 t640 T a1_0 a1_1 a2 0) = some (r1, r2) := by rw [if_neg (show ¬ (F = T) by decide)] at H; exact H
    clear H
    have H := H1
    clear H1
    have H' := Aside0.mk H
    clear H
    go_wp2
    go_meet
    case rel => exact ⟨_, (T), (Zs), H', ⟨by first | omega | exact Nat.le_refl _⟩, ⟨Zu BK636.out⟩, ⟨Zu BK639.out⟩, ⟨Zc2 GE636.out GE639.out⟩⟩
   case rest =>
    clear HC12
    try clear c1
    try clear c2
    try clear p2
    try clear c4
    try clear p6
    try clear q6
    try clear hx6
    try clear c7
    try clear c8
    try clear c8b0
    try clear c8b1
    try clear c10
    try clear c15
    try clear c18
    try clear c19
    try clear c19b0
    try clear c20
    try clear c20b0
    try clear hcz13_0
    try clear hcz13_1
    try clear hcz16_0
    try clear hcz16_1
    try clear hcz16_2
    try clear hcz16_3
    try clear hfz13_0
    try clear hfz13_1
    try clear hfz16_0
    try clear hfz16_1
    try clear hfz16_2
    try clear hfz16_3
    try clear hx642_0
    try clear hx642_1
    try clear hx642_2
    try clear hx642_3
    try clear p642
    try clear q642
    obtain ⟨kq, x40_11, rfl, HA, HJ11, BK636, BK639, HB⟩ := hcut
    cases kq with
    | zero => exact absurd HA.out (by simp [Qbe.j0])
    | succ kj11 =>
     have H := HA.out
     clear HA
     simp only [Qbe.j0] at H
     by_cases c21 : x40_11 = T
     ·subst c21
      have H1 : (some (([] : List (S46)), 23)) = some (r1, r2) := by rw [if_pos rfl] at H; exact H
      clear H
      have H := H1
      clear H1
      simp only [Option.some.injEq, Prod.mk.injEq] at H
      obtain ⟨rfl, rfl⟩ := H
      go_wp2
      go_ret2
      exact ⟨_, Zq, by first | exact Kd.R_nil _ _ _ _ _ | exact Kd.N_nil _ _ _ _ _ | exact Kd.V_nil _ _ _ _ _ | exact Kd.Q_nil _ _ _ _ _ | exact Kd.S_nil _ _ _ _ _, Zc2 GE636.out GE639.out⟩
     replace c21 := Bool.eq_false_iff.mpr c21
     subst c21
     have H1 : (if 0 ≤ t640 then (if t640 < (l0.length : Int) then (if (wrap64 (((rd_T46 l0 t640).f2) - a3)) = 0 then ((Qbx.f l0 t640 1 ([] : List (S46))).bind fun t644 => (some (t644, 0))) else ((Qbx.f l0 t640 1 (([(⟨(⟨a1_0, a1_1⟩ : S44), a2, wrap64 (((rd_T46 l0 t640).f2) - a3)⟩ : S46)] : List (S46)))).bind fun t650 => (some (t650, 0)))) else (none)) else (none)) = some (r1, r2) := by rw [if_neg (show ¬ (F = T) by decide)] at H; exact H
     clear H
     have H := H1
     clear H1
     by_cases c22 : 0 ≤ t640
     ·rw [if_pos c22] at H
      have c22b0 : decide (0 ≤ t640) = T := decide_eq_true c22
      clear c22
      (try simp only [c22b0])
      by_cases c23 : t640 < (l0.length : Int)
      ·rw [if_pos c23] at H
       have c23b0 : decide (t640 < (l0.length : Int)) = T := decide_eq_true c23
       clear c23
       have p643 : 0 ≤ (t640 : Int) := Ze
       have q643 : t640 < (l0.length : Int) := Ze
       obtain ⟨ad643, e643, hx643_0, hx643_1, hx643_2, hx643_3⟩ := at_T46 HR0.out t640 p643 q643
       cases e643
       replace hx643_0 := Zx HB.out hx643_0
       replace hx643_1 := Zx HB.out hx643_1
       replace hx643_2 := Zx HB.out hx643_2
       replace hx643_3 := Zx HB.out hx643_3
       replace p643 := eq_true p643
       replace q643 := eq_true q643
       have hnb24 := NB639_636.out
       have hnc24 := NB636_639.out
       obtain ⟨hcz25_0, hfz25_0⟩ := Zy (v := (.string a1_0)) BK639.out 0
       obtain ⟨hcz25_1, hfz25_1⟩ := Zy (v := (.string a1_1)) BK639.out 1
       obtain ⟨hcz25_2, hfz25_2⟩ := Zy (v := (.string a2)) BK639.out 2
       obtain ⟨hcz25_3, hfz25_3⟩ := Zy (v := (.int .i64 0)) BK639.out 3
       go_upto_if 51 with (fail)
       by_cases c26 : (wrap64 (((rd_T46 l0 t640).f2) - a3)) = 0
       ·rw [if_pos c26] at H
        have c26b0 : ((wrap64 (((rd_T46 l0 t640).f2) - a3)) == 0) = T := beq_iff_eq.mpr c26
        have c26b1 : ((wrap64 (((rd_T46 l0 t640).f2) - a3)) != 0) = F := bne_eq_false_iff_eq.mpr c26
        clear c26
        (try simp only [c26b0, c26b1])
        replace H := Option.bind_eq_some_iff.mp H
        obtain ⟨t644, A270, H⟩ := H
        replace H : (some (t644, 0)) = some (r1, r2) := H
        have A27 := Aside0.mk A270
        clear A270
        simp only [Option.some.injEq, Prod.mk.injEq] at H
        obtain ⟨rfl, rfl⟩ := H
        go_wp2_with (first | ((with_reducible refine Qaw (f := 75) rfl ?_); refine goesL_ (some 54) rfl rfl Try.func75 (by kernel_rfl) rfl #[.slice (some ad643) l0.length c0, .int .i64 t640, .int .i64 1, .slice none 0 0] rfl (Zl) ?_; (refine (Qbx.calls _ _ l0 t640 1 _ _ ([] : List (S46)) t644 _ ?side1 ?side2 ?side3 ?side4 A27.out).mono ?_); (case side1 => exact Kd.C_below HR0.out (Zc2 GE636.out GE639.out)); (case side2 => exact HC0.out); (case side3 => exact Kd.C_nil _ _); (case side4 => exact Nat.le_refl _); rintro e w28 ⟨v645, rfl, ho0, hb⟩; refine ⟨_, rfl, ?_⟩; have HO646 := Aside0.mk (Kd.R_lower (Kd.R_newB ho0 (g := gb639) (o := .cells #[.string a1_0, .string a1_1, .string a2, .int .i64 (wrap64 (((rd_T46 l0 t640).f2) - a3))] 46 (0, 0)) (Zp2 BK639.out)) (Qam (Zc2 GE636.out GE639.out))); replace BK636 := Aside0.mk (Qal (g := gb636) (o := .cells #[.string a1_0, .string a1_1] 44 (0, 0)) (Zg1 BK636.out NB636_639.out) hb); replace BK639 := Aside0.mk (Zpi #[.string a1_0, .string a1_1, .string a2, .int .i64 (wrap64 (((rd_T46 l0 t640).f2) - a3))] BK639.out hb); replace HB := Aside0.mk (Qan (Zc2 GE636.out GE639.out) hb); (try clear hb); (try clear hb2); (try clear hk); (try clear hi); (try clear ho0)))
        go_ret2
        exact ⟨_, Zq, by (with_reducible repeat (first | apply Kd.R_alloc | apply Kd.R_drewN | apply Kd.R_drew)); exact Kd.R_mono HO646.out (fun _ hk => trivial), Zc2 GE636.out GE639.out⟩
       rw [if_neg c26] at H
       have c26b0 : ((wrap64 (((rd_T46 l0 t640).f2) - a3)) == 0) = F := beq_eq_false_iff_ne.mpr c26
       have c26b1 : ((wrap64 (((rd_T46 l0 t640).f2) - a3)) != 0) = T := bne_iff_ne.mpr c26
       (try simp only [c26b0, c26b1])
       obtain ⟨y647, hy647⟩ : ∃ y_ : List (S46), y_ = (([(⟨(⟨a1_0, a1_1⟩ : S44), a2, wrap64 (((rd_T46 l0 t640).f2) - a3)⟩ : S46)] : List (S46))) := ⟨_, rfl⟩
       replace H : ((Qbx.f l0 t640 1 y647).bind fun t650 => (some (t650, 0))) = some (r1, r2) := by first | (rw [hy647]; with_reducible exact H) | (have H2_ := (Option.bind_some _ _).symm.trans H; rw [hy647]; with_reducible exact H2_) | (have H2_ := (Option.bind_some _ _).symm.trans H; with_reducible exact H2_) | with_reducible exact H | (rw [hy647]; exact H) | exact H
       have Ny647 := Aside0.mk hy647
       clear hy647
       replace H := Option.bind_eq_some_iff.mp H
       obtain ⟨t650, A290, H⟩ := H
       replace H : (some (t650, 0)) = some (r1, r2) := H
       have A29 := Aside0.mk A290
       clear A290
       simp only [Option.some.injEq, Prod.mk.injEq] at H
       obtain ⟨rfl, rfl⟩ := H
       have hnb30 := NB639_636.out
       have hnc30 := NB636_639.out
       obtain ⟨hcz31_0, hfz31_0⟩ := Zy (v := (.string a1_0)) BK639.out 0
       obtain ⟨hcz31_1, hfz31_1⟩ := Zy (v := (.string a1_1)) BK639.out 1
       obtain ⟨hcz31_2, hfz31_2⟩ := Zy (v := (.string a2)) BK639.out 2
       obtain ⟨hcz31_3, hfz31_3⟩ := Zy (v := (.int .i64 0)) BK639.out 3
       go_wp2_with (first | ((with_reducible refine QaL (N := 58) rfl ?_); refine Kd.R_lit k46 _ 46 ?hg (N := 58) ?hd (xs := ([(⟨(⟨a1_0, a1_1⟩ : S44), a2, wrap64 (((rd_T46 l0 t640).f2) - a3)⟩ : S46)] : List (S46))) (inner := [.string a1_0, .string a1_1, .string a2, .int .i64 (wrap64 (((rd_T46 l0 t640).f2) - a3))]) (ok := fun _ => True) (okp := fun _ => True) ?hr ?hp (fun _ hk => hk) trivial (Below.refl _ _) (Nat.le_refl _) (by simp) ?_; (case hd => rfl); (case hg => rfl); (case hr => first | (go_simp; done) | (go_simp; rfl)); (case hp => exact (Reps.c4 (show Kd.M k46 _ _ _ (⟨(⟨a1_0, a1_1⟩ : S44), a2, wrap64 (((rd_T46 l0 t640).f2) - a3)⟩ : S46) [.string a1_0, .string a1_1, .string a2, .int .i64 (wrap64 (((rd_T46 l0 t640).f2) - a3))] from (Qcq _ _ _ (⟨(⟨a1_0, a1_1⟩ : S44), a2, wrap64 (((rd_T46 l0 t640).f2) - a3)⟩ : S46) )) (Reps.none _ _))); intro v648 w32 ho33 hb hg_ hnew_; clear hg_ hnew_; (first | rw [← Ny647.out] at ho33 | (simp only [Int.reduceToNat] at ho33; rw [← Ny647.out] at ho33)); have HO649 := Aside0.mk (Kd.R_lower (Kd.R_newB ho33 (g := gb639) (o := .cells #[.string a1_0, .string a1_1, .string a2, .int .i64 (wrap64 (((rd_T46 l0 t640).f2) - a3))] 46 (0, 0)) (Zp2 BK639.out)) (Qam (Zc2 GE636.out GE639.out))); replace BK636 := Aside0.mk (Qal (g := gb636) (o := .cells #[.string a1_0, .string a1_1] 44 (0, 0)) (Zg1 BK636.out NB636_639.out) hb); replace BK639 := Aside0.mk (Zpi #[.string a1_0, .string a1_1, .string a2, .int .i64 (wrap64 (((rd_T46 l0 t640).f2) - a3))] BK639.out hb); replace HB := Aside0.mk (Qan (Zc2 GE636.out GE639.out) hb); clear hb ho33; obtain ⟨Ao34, co34, eo34⟩ := Kd.R_slice HO649.out; subst eo34) | ((with_reducible refine Qaw (f := 75) rfl ?_); refine goesL_ (some 59) rfl rfl Try.func75 (by kernel_rfl) rfl #[.slice (some ad643) l0.length c0, .int .i64 t640, .int .i64 1, .slice Ao34 y647.length co34] rfl (Zl) ?_; (with_reducible refine (Qbx.calls _ _ l0 t640 1 _ _ y647 t650 _ ?side1 ?side2 ?side3 ?side4 A29.out).mono ?_); (case side1 => exact Zv (Kd.C_below HR0.out HB.out)); (case side2 => exact HC0.out); (case side3 => exact Zv (Kd.R_reads' HO649.out).2.2); (case side4 => exact (Kd.R_reads' HO649.out).2.1); rintro e w35 ⟨v651, rfl, ho0, hb⟩; refine ⟨_, rfl, ?_⟩; have HO652 := Aside0.mk (Kd.R_lower (Kd.R_newB (Kd.R_new' ho0 (Kd.R_lt (Zr HO649.out))) (g := gb639) (o := .cells #[.string a1_0, .string a1_1, .string a2, .int .i64 (wrap64 (((rd_T46 l0 t640).f2) - a3))] 46 (0, 0)) (Zu BK639.out)) (Qam (Zc2 GE636.out GE639.out))); replace HO649 := Aside0.mk (Kd.R_elder' (Zr HO649.out) (Kd.R_base ho0) hb); replace BK636 := Aside0.mk (Zi BK636.out hb); replace BK639 := Aside0.mk (Zi BK639.out hb); replace HB := Aside0.mk (Qan (Zc2 GE636.out GE639.out) hb); (try clear hb); (try clear hb2); (try clear hk); (try clear hi); (try clear ho0)))
       go_ret2
       exact ⟨_, Zq, by (with_reducible repeat (first | apply Kd.R_alloc | apply Kd.R_drewN | apply Kd.R_drew)); exact Kd.R_mono HO652.out (fun _ hk => trivial), Zc2 GE636.out GE639.out⟩
      rw [if_neg c23] at H
      exact absurd H (by simp)
     rw [if_neg c22] at H
     exact absurd H (by simp)
  replace c10 := Bool.eq_false_iff.mpr c10
  subst c10
  have H1 : (some (([] : List (S46)), 18)) = some (r1, r2) := by rw [if_neg (show ¬ (F = T) by decide)] at H; exact H
  clear H
  have H := H1
  clear H1
  simp only [Option.some.injEq, Prod.mk.injEq] at H
  obtain ⟨rfl, rfl⟩ := H
  go_wp2
  go_ret2
  exact ⟨_, Zq, by first | exact Kd.R_nil _ _ _ _ _ | exact Kd.N_nil _ _ _ _ _ | exact Kd.V_nil _ _ _ _ _ | exact Kd.Q_nil _ _ _ _ _ | exact Kd.S_nil _ _ _ _ _, Zc1 GE636.out⟩
 rw [if_neg c8] at H
 have c8b0 : (t637 == 0) = F := beq_eq_false_iff_ne.mpr c8
 have c8b1 : (t637 != 0) = T := bne_iff_ne.mpr c8
 (try simp only [c8b0, c8b1])
 simp only [Option.some.injEq, Prod.mk.injEq] at H
 obtain ⟨rfl, rfl⟩ := H
 go_wp2
 go_ret2
 exact ⟨_, Zq, by first | exact Kd.R_nil _ _ _ _ _ | exact Kd.N_nil _ _ _ _ _ | exact Kd.V_nil _ _ _ _ _ | exact Kd.Q_nil _ _ _ _ _ | exact Kd.S_nil _ _ _ _ _, Zc1 GE636.out⟩
end Go.Proofs.Ytfcaaefdmabkhaa.Pr
