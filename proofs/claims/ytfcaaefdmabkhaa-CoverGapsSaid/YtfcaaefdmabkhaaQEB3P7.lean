/- Functions' values and contracts, as the print wrote them. -/
import Derived.Test.YtfcaaefdmabkhaaQEB3P0
import Derived.Test.YtfcaaefdmabkhaaQEB3P5
import Derived.Test.YtfcaaefdmabkhaaQEB3P6
namespace Go.Proofs.Ytfcaaefdmabkhaa.Pr
open Bool renaming true → T
open Bool renaming false → F
open Go.RowKit Go.Proofs.YtfcaaefdmabkhaaW.PrintWords Go.Proofs.YtfcaaefdmabkhaaW.PrintLast Go.Proofs.YtfcaaefdmabkhaaW.PrintMore
attribute [local go_sem] QaN QaP QaT QaU QaH QaI QaO QaQ   -- for this text's walks alone
set_option linter.unusedVariables false
set_option linter.unusedSimpArgs false
attribute [local go_sem high] eqA44
mutual
def contangolaw34_CoverGaps.j0 : Nat → List (S48) → Bool → List (S46) → List (S84) → List (S98) → Option (Bool)
 | 0, _, _, _, _, _ => none
 | k + 1, x0, x19, x495000, x495001, x495002 => if x19 = T then ((QaK.f k).bind fun t495 => (some t495)) else ((QaG.f k x0 x495000 x495001 x495002).bind fun bt496 => (if bt496.2 = 0 then (if (bt496.1.length : Int) = (x0.length : Int) then (contangolaw34_CoverGaps.l0 k x0 bt496.1 0 x495000 x495001 x495002) else (none)) else (if (bt496.1.length : Int) = 0 then ((QaK.f k).bind fun t500 => (some t500)) else (none))))
def contangolaw34_CoverGaps.l0 : Nat → List (S48) → List (S50) → Int → List (S46) → List (S84) → List (S98) → Option (Bool)
 | 0, _, _, _, _, _, _ => none
 | k + 1, x0, x5, x7, x495000, x495001, x495002 => if x7 < (x5.length : Int) then (contangolaw34_CoverGaps.l1 k x0 x5 x7 F 0 x495000 x495001 x495002) else ((QaK.f k).bind fun t501 => (some t501))
def contangolaw34_CoverGaps.l1 : Nat → List (S48) → List (S50) → Int → Bool → Int → List (S46) → List (S84) → List (S98) → Option (Bool)
 | 0, _, _, _, _, _, _, _, _ => none
 | k + 1, x0, x5, x7, x8, x9, x495000, x495001, x495002 => if x9 < (x495000.length : Int) then (if x8 = T then (contangolaw34_CoverGaps.l1 k x0 x5 x7 T (wrap64 (x9 + 1)) x495000 x495001 x495002) else (if 0 ≤ x9 then (if 0 ≤ x7 then (if x7 < (x0.length : Int) then (contangolaw34_CoverGaps.l1 k x0 x5 x7 ((((rd_T46 x495000 x9).f0.f0).toList) == (((rd_T48 x0 x7).f0.f0).toList) && ((((rd_T46 x495000 x9).f0.f1).toList) == (((rd_T48 x0 x7).f0.f1).toList))) (wrap64 (x9 + 1)) x495000 x495001 x495002) else (none)) else (none)) else (none))) else (if 0 ≤ x7 then (if x7 < (x5.length : Int) then (if x7 < (x0.length : Int) then (if (!((((rd_T50 x5 x7).f0.f0).toList) == (((rd_T48 x0 x7).f0.f0).toList)) || (!((((rd_T50 x5 x7).f0.f1).toList) == (((rd_T48 x0 x7).f0.f1).toList)))) = T then (none) else (if ((rd_T50 x5 x7).f1) = ((rd_T48 x0 x7).f7) then (if ((rd_T50 x5 x7).f3) < 0 then (none) else (if ((rd_T50 x5 x7).f2) < 0 then (none) else (if (wrap64 (((rd_T50 x5 x7).f3) + ((rd_T50 x5 x7).f2))) < ((rd_T50 x5 x7).f1) then (none) else (if ((rd_T50 x5 x7).f3) > 0 then (if (wrap64 (((rd_T50 x5 x7).f3) + ((rd_T50 x5 x7).f2))) = ((rd_T50 x5 x7).f1) then (if x8 = T then (contangolaw34_CoverGaps.l0 k x0 x5 (wrap64 (x7 + 1)) x495000 x495001 x495002) else (if ((rd_T50 x5 x7).f3) = ((rd_T50 x5 x7).f1) then (contangolaw34_CoverGaps.l0 k x0 x5 (wrap64 (x7 + 1)) x495000 x495001 x495002) else (none))) else (none)) else (if x8 = T then (contangolaw34_CoverGaps.l0 k x0 x5 (wrap64 (x7 + 1)) x495000 x495001 x495002) else (if ((rd_T50 x5 x7).f3) = ((rd_T50 x5 x7).f1) then (contangolaw34_CoverGaps.l0 k x0 x5 (wrap64 (x7 + 1)) x495000 x495001 x495002) else (none))))))) else (none))) else (none)) else (none)) else (none))
end
def contangolaw34_CoverGaps.f (k : Nat) (l0 : List (S48)) (l1_0 : List (S46)) (l1_1 : List (S84)) (l1_2 : List (S98)) : Option (Bool) := if (l0.length : Int) > 40 then (contangolaw34_CoverGaps.j0 k l0 T l1_0 l1_1 l1_2) else (contangolaw34_CoverGaps.j0 k l0 (decide ((l1_0.length : Int) > 60)) l1_0 l1_1 l1_2)
theorem contangolaw34_CoverGaps.mono_l : ∀ k, (∀ y0 y1 y2 y3 y4, LeO (contangolaw34_CoverGaps.j0 k y0 y1 y2 y3 y4) (contangolaw34_CoverGaps.j0 (k + 1) y0 y1 y2 y3 y4)) ∧ (∀ y0 y1 y2 y3 y4 y5, LeO (contangolaw34_CoverGaps.l0 k y0 y1 y2 y3 y4 y5) (contangolaw34_CoverGaps.l0 (k + 1) y0 y1 y2 y3 y4 y5)) ∧ (∀ y0 y1 y2 y3 y4 y5 y6 y7, LeO (contangolaw34_CoverGaps.l1 k y0 y1 y2 y3 y4 y5 y6 y7) (contangolaw34_CoverGaps.l1 (k + 1) y0 y1 y2 y3 y4 y5 y6 y7))
 | 0 => ⟨fun _ _ _ _ _ r h => by simp [contangolaw34_CoverGaps.j0] at h, fun _ _ _ _ _ _ r h => by simp [contangolaw34_CoverGaps.l0] at h, fun _ _ _ _ _ _ _ _ r h => by simp [contangolaw34_CoverGaps.l1] at h⟩
 | k + 1 => by
  obtain ⟨ih0, ih1, ih2⟩ := contangolaw34_CoverGaps.mono_l k
  refine ⟨?_, ?_, ?_⟩
  ·intro y0 y1 y2 y3 y4
   unfold contangolaw34_CoverGaps.j0
   exact ZM5 ih0 ih1 ih2 QaK.mono QaG.mono
  ·intro y0 y1 y2 y3 y4 y5
   unfold contangolaw34_CoverGaps.l0
   exact ZM5 ih0 ih1 ih2 QaK.mono QaG.mono
  intro y0 y1 y2 y3 y4 y5 y6 y7
  unfold contangolaw34_CoverGaps.l1
  exact ZM5 ih0 ih1 ih2 QaK.mono QaG.mono
theorem contangolaw34_CoverGaps.mono : ∀ a0 a1 a2 a3 k, LeO (contangolaw34_CoverGaps.f k a0 a1 a2 a3) (contangolaw34_CoverGaps.f (k + 1) a0 a1 a2 a3) := by
 intro a0 a1 a2 a3 k
 obtain ⟨ih0, ih1, ih2⟩ := contangolaw34_CoverGaps.mono_l k
 unfold contangolaw34_CoverGaps.f
 exact ZM5 ih0 ih1 ih2 QaK.mono QaG.mono
def contangolaw34_CoverGaps.T15 : Bool × List (List Nat × List Nat) := (T, [([], []), ([0], [0]), ([1], [1]), ([2, 1], [1, 2]), ([1], [1]), ([3, 4, 1], [1, 3, 4]), ([5, 1], [1, 5]), ([6, 1], [1, 6]), ([1], [1]), ([1], [1]), ([8, 9, 1], [1, 8, 9]), ([10, 1], [1, 10]), ([11, 1], [1, 11]), ([7, 12, 1], [1, 7, 12]), ([1, 13], [1, 13]), ([14, 1, 0, 1, 2, 3, 4, 5, 6, 7, 8, 9, 10, 11, 12, 13, 14], [0, 14])])
def contangolaw34_CoverGaps.B15 : List Nat := [0, 1, 3, 7, 3, 31, 63, 127, 3, 3, 771, 1795, 3843, 8191, 16383, 32767]
theorem contangolaw34_CoverGaps.tab15 : rtab .any (opsOf Try.f5 15) = contangolaw34_CoverGaps.T15 := by kernel_rfl
theorem contangolaw34_CoverGaps.bits15 : QbJ contangolaw34_CoverGaps.T15.2 contangolaw34_CoverGaps.B15 = T := by kernel_rfl
def contangolaw34_CoverGaps.T17 : Bool × List (List Nat × List Nat) := (T, [([], []), ([0], [0]), ([], []), ([], []), ([2, 3], [2, 3]), ([4], [4]), ([5], [5]), ([1, 6], [1, 6]), ([7], [7]), ([8], [8]), ([9, 8], [8, 9]), ([8], [8]), ([8], [8]), ([11, 12, 8], [8, 11, 12]), ([13, 8], [8, 13]), ([14, 8], [8, 14]), ([10, 15, 8], [8, 10, 15]), ([8, 16], [8, 16]), ([17, 8], [17]), ([18], [18]), ([19, 18], [18, 19]), ([20, 18], [18, 20]), ([18, 21], [18, 21]), ([22, 18], [22]), ([23], [23]), ([24, 23], [23, 24]), ([25, 23], [23, 25]), ([23, 26], [23, 26]), ([27, 23], [27]), ([28], [28]), ([29, 28], [28, 29]), ([28], [28]), ([31, 28], [28, 31]), ([30, 32, 28], [28, 30, 32]), ([28], [28]), ([34, 28], [28, 34]), ([33, 35, 28], [28, 33, 35]), ([28, 36], [28, 36]), ([37, 28], [37]), ([38], [38]), ([39, 38], [38, 39]), ([40, 38], [38, 40]), ([41, 38, 38], [38, 41]), ([42], [42]), ([43, 42], [42, 43]), ([42], [42]), ([45, 42], [42, 45]), ([44, 46, 42], [42, 44, 46]), ([42], [42]), ([48, 42], [42, 48]), ([47, 49, 42], [42, 47, 49]), ([42, 50, 38], [38, 42, 50]), ([38, 51], [38, 51]), ([52, 42], [52]), ([53], [53]), ([54, 53], [53, 54]), ([55, 53, 53], [53, 55]), ([56], [56]), ([57, 56], [56, 57]), ([56], [56]), ([59, 56], [56, 59]), ([58, 60, 56], [56, 58, 60]), ([56, 61, 53], [53, 56, 61]), ([53, 62], [53, 62])])
def contangolaw34_CoverGaps.B17 : List Nat := [0, 1, 0, 0, 12, 28, 60, 127, 255, 511, 1023, 511, 511, 6655, 14847, 31231, 65535, 131071, 262143, 524287, 1048575, 2097151, 4194303, 8388607, 16777215, 33554431, 67108863, 134217727, 268435455, 536870911, 1073741823, 536870911, 2684354559, 8589934591, 536870911, 17716740095, 68719476735, 137438953471, 274877906943, 549755813887, 1099511627775, 2199023255551, 4398046511103, 8796093022207, 17592186044415, 8796093022207, 43980465111039, 140737488355327, 8796093022207, 290271069732863, 1125899906842623, 2251799813685247, 4503599627370495, 9007199254740991, 18014398509481983, 36028797018963967, 72057594037927935, 144115188075855871, 288230376151711743, 144115188075855871, 720575940379279359, 2305843009213693951, 4611686018427387903, 9223372036854775807]
theorem contangolaw34_CoverGaps.tab17 : rtab .any (opsOf Try.f5 17) = contangolaw34_CoverGaps.T17 := by kernel_rfl
theorem contangolaw34_CoverGaps.bits17 : QbJ contangolaw34_CoverGaps.T17.2 contangolaw34_CoverGaps.B17 = T := by kernel_rfl
set_option maxHeartbeats 100000000 in
set_option maxRecDepth 100000 in
theorem contangolaw34_CoverGaps.calls (k : Nat) (A0 : Option Addr) (c0 : Nat) (l0 : List (S48)) (A1_0 : Option Addr) (c1_0 : Nat) (l1_0 : List (S46)) (A1_1 : Option Addr) (c1_1 : Nat) (l1_1 : List (S84)) (A1_2 : Option Addr) (c1_2 : Nat) (l1_2 : List (S98)) (r : Bool) (w : World) (hr0 : Kd.C k48 w A0 l0.length l0) (hc0 : l0.length ≤ c0) (hr1_0 : Kd.C k46 w A1_0 l1_0.length l1_0) (hc1_0 : l1_0.length ≤ c1_0) (hr1_1 : Kd.C k84 w A1_1 l1_1.length l1_1) (hc1_1 : l1_1.length ≤ c1_1) (hr1_2 : Kd.C k98 w A1_2 l1_2.length l1_2) (hc1_2 : l1_2.length ≤ c1_2) (h : contangolaw34_CoverGaps.f k l0 l1_0 l1_1 l1_2 = some r) :
  Calls Try.prog 5 #[.slice A0 l0.length c0, .agg #[.slice A1_0 l1_0.length c1_0, .slice A1_1 l1_1.length c1_1, .slice A1_2 l1_2.length c1_2]] w fun e w' => e = .returned (.bool r) ∧ Below w.heap.size w w' := by
 have hu34 := Try.underlying34
 have hu44 := Try.underlying44
 have hu50 := Try.underlying50
 have HR0 := Aside0.mk hr0
 have HC0 := Aside0.mk hc0
 clear hr0 hc0
 have HR1_0 := Aside0.mk hr1_0
 have HC1_0 := Aside0.mk hc1_0
 clear hr1_0 hc1_0
 have HR1_1 := Aside0.mk hr1_1
 have HC1_1 := Aside0.mk hc1_1
 clear hr1_1 hc1_1
 have HR1_2 := Aside0.mk hr1_2
 have HC1_2 := Aside0.mk hc1_2
 clear hr1_2 hc1_2
 have HB := Aside0.mk (Below.refl w.heap.size w)
 have H : (if (l0.length : Int) > 40 then (contangolaw34_CoverGaps.j0 k l0 T l1_0 l1_1 l1_2) else (contangolaw34_CoverGaps.j0 k l0 (decide ((l1_0.length : Int) > 60)) l1_0 l1_1 l1_2)) = some r := h
 clear h
 have HC3 := Aside0.mk H
 clear H
 go_enter Try.func5, Try.ntmps5
 go_upto_region 1 with (first | ((with_reducible refine QaE (N := 3) rfl ?_); (try (refine Qa6 (by rfl) ?_; dsimp only)); refine Zbx (N := 3) (cs := #[.slice A1_0 l1_0.length c1_0, .slice A1_1 l1_1.length c1_1, .slice A1_2 l1_2.length c1_2]) (t := 34) ?_; intro gb494 hg w4 hbox hb; have BK494 := Aside0.mk (hbox); have GW494 := Aside0.mk (Zt w hg (Zb)); have GE494 := GW494; replace HB := Aside0.mk (Qaq (Zb) hb); clear hb hbox hg))
 (try simp only [Act.put, Zj, Zk, Zm])
 go_cut [19] (fun v19 wc => ∃ (kq : Nat) (x19_2 : Bool), v19 = .bool x19_2 ∧ Aside0 (contangolaw34_CoverGaps.j0 kq l0 x19_2 l1_0 l1_1 l1_2 = some r) ∧ Aside0 (kq ≤ k) ∧ Aside0 (wc.heap[gb494]? = some (.cells #[(.slice A1_0 l1_0.length c1_0), (.slice A1_1 l1_1.length c1_1), (.slice A1_2 l1_2.length c1_2)] 34 (0, 0))) ∧ Aside0 (Below w.heap.size w wc))
 case first =>
  have H := HC3.out
  clear HC3
  by_cases c5 : (l0.length : Int) > 40
  ·rw [if_pos c5] at H
   have c5b0 : decide (40 < (l0.length : Int)) = T := decide_eq_true c5
   have c5b1 : decide (40 < l0.length) = T := decide_eq_true (by omega)
   clear c5
   have H' := Aside0.mk H
   clear H
   go_wp2
   go_meet
   case rel => exact ⟨_, (T), (Zs), H', ⟨by first | omega | exact Nat.le_refl _⟩, ⟨Zu BK494.out⟩, ⟨Zc1 GE494.out⟩⟩
  rw [if_neg c5] at H
  have c5b0 : decide (40 < (l0.length : Int)) = F := decide_eq_false c5
  have c5b1 : decide (40 < l0.length) = F := decide_eq_false (by omega)
  clear c5
  have H' := Aside0.mk H
  clear H
  obtain ⟨hcz6_0, hfz6_0⟩ := Zy (v := (.slice A1_0 l1_0.length c1_0)) BK494.out 0
  obtain ⟨hcz6_1, hfz6_1⟩ := Zy (v := (.slice A1_1 l1_1.length c1_1)) BK494.out 1
  obtain ⟨hcz6_2, hfz6_2⟩ := Zy (v := (.slice A1_2 l1_2.length c1_2)) BK494.out 2
  go_wp2
  go_meet
  case rel => exact ⟨_, (decide ((l1_0.length : Int) > 60)), (Zs), H', ⟨by first | omega | exact Nat.le_refl _⟩, ⟨Zu BK494.out⟩, ⟨Zc1 GE494.out⟩⟩
 case rest =>
  clear HC3
  try clear c1
  try clear p2
  try clear c5
  try clear c5b0
  try clear c5b1
  try clear hcz6_0
  try clear hcz6_1
  try clear hcz6_2
  try clear hfz6_0
  try clear hfz6_1
  try clear hfz6_2
  obtain ⟨kq, x19_2, rfl, HA, HJ2, BK494, HB⟩ := hcut
  cases kq with
  | zero => exact absurd HA.out (by simp [contangolaw34_CoverGaps.j0])
  | succ kj2 =>
   have H := HA.out
   clear HA
   simp only [contangolaw34_CoverGaps.j0] at H
   by_cases c7 : x19_2 = T
   ·subst c7
    have H1 : ((QaK.f kj2).bind fun t495 => (some t495)) = some r := by rw [if_pos rfl] at H; exact H
    clear H
    have H := H1
    clear H1
    replace H := Option.bind_eq_some_iff.mp H
    obtain ⟨t495, A80, H⟩ := H
    replace H : (some t495) = some r := H
    have A8 := Aside0.mk A80
    clear A80
    obtain rfl := Option.some.inj H
    go_wp2_with (first | ((with_reducible refine QaA (f := 17) rfl ?_); refine goesL_ (some 20) rfl rfl Try.func17 (by kernel_rfl) rfl #[] rfl (Zl) ?_; (with_reducible refine (QaK.calls kj2  t495 _ A8.out).mono ?_); rintro e w9 ⟨rfl, hb⟩; refine ⟨_, rfl, ?_⟩; replace BK494 := Aside0.mk (Zi BK494.out hb); replace HB := Aside0.mk (Qaq (Zc1 GE494.out) hb); (try clear hb); (try clear hb2); (try clear hk); (try clear hi)))
    go_ret
    exact ⟨Zq, Zc1 GE494.out⟩
   replace c7 := Bool.eq_false_iff.mpr c7
   subst c7
   have H1 : ((QaG.f kj2 l0 l1_0 l1_1 l1_2).bind fun bt496 => (if bt496.2 = 0 then (if (bt496.1.length : Int) = (l0.length : Int) then (contangolaw34_CoverGaps.l0 kj2 l0 bt496.1 0 l1_0 l1_1 l1_2) else (none)) else (if (bt496.1.length : Int) = 0 then ((QaK.f kj2).bind fun t500 => (some t500)) else (none)))) = some r := by rw [if_neg (show ¬ (F = T) by decide)] at H; exact H
   clear H
   have H := H1
   clear H1
   replace H := Option.bind_eq_some_iff.mp H
   obtain ⟨⟨t496, t497⟩, A100, H⟩ := H
   replace H : (if t497 = 0 then (if (t496.length : Int) = (l0.length : Int) then (contangolaw34_CoverGaps.l0 kj2 l0 t496 0 l1_0 l1_1 l1_2) else (none)) else (if (t496.length : Int) = 0 then ((QaK.f kj2).bind fun t500 => (some t500)) else (none))) = some r := H
   have A10 := Aside0.mk A100
   clear A100
   obtain ⟨hcz11_0, hfz11_0⟩ := Zy (v := (.slice A1_0 l1_0.length c1_0)) BK494.out 0
   obtain ⟨hcz11_1, hfz11_1⟩ := Zy (v := (.slice A1_1 l1_1.length c1_1)) BK494.out 1
   obtain ⟨hcz11_2, hfz11_2⟩ := Zy (v := (.slice A1_2 l1_2.length c1_2)) BK494.out 2
   go_upto_if 33 with (first | ((with_reducible refine QaA (f := 18) rfl ?_); refine goesL_ (some 29) rfl rfl Try.func18 (by kernel_rfl) rfl #[.slice A0 l0.length c0, .slice A1_0 l1_0.length c1_0, .slice A1_1 l1_1.length c1_1, .slice A1_2 l1_2.length c1_2] rfl (Zl) ?_; (with_reducible refine (QaG.calls kj2 _ _ l0 _ _ l1_0 _ _ l1_1 _ _ l1_2 t496 t497 _ ?side1 ?side2 ?side3 ?side4 ?side5 ?side6 ?side7 ?side8 A10.out).mono ?_); (case side1 => exact Zv (Kd.C_below HR0.out HB.out)); (case side2 => exact HC0.out); (case side3 => exact Zv (Kd.C_below HR1_0.out HB.out)); (case side4 => exact HC1_0.out); (case side5 => exact Zv (Kd.C_below HR1_1.out HB.out)); (case side6 => exact HC1_1.out); (case side7 => exact Zv (Kd.C_below HR1_2.out HB.out)); (case side8 => exact HC1_2.out); rintro e w12 ⟨v498, rfl, ho0, hb⟩; refine ⟨_, rfl, ?_⟩; have HO499 := Aside0.mk (Kd.R_lower ho0 (Qap (Zc1 GE494.out))); replace BK494 := Aside0.mk (Zi BK494.out hb); replace HB := Aside0.mk (Qaq (Zc1 GE494.out) hb); (try clear hb); (try clear hb2); (try clear hk); (try clear hi); (try clear ho0)))
   (try simp only [Act.put, Zj, Zk, Zm])
   by_cases c13 : t497 = 0
   ·rw [if_pos c13] at H
    have c13b0 : (t497 == 0) = T := beq_iff_eq.mpr c13
    have c13b1 : (t497 != 0) = F := bne_eq_false_iff_eq.mpr c13
    clear c13
    (try simp only [c13b0, c13b1])
    obtain ⟨Ao14, co14, eo14⟩ := Kd.R_slice HO499.out
    subst eo14
    go_upto_if 44 with (fail)
    by_cases c15 : (t496.length : Int) = (l0.length : Int)
    ·rw [if_pos c15] at H
     have c15b0 : ((t496.length : Int) == (l0.length : Int)) = T := beq_iff_eq.mpr c15
     have c15b1 : ((t496.length : Int) != (l0.length : Int)) = F := bne_eq_false_iff_eq.mpr c15
     have c15b2 : (t496.length == l0.length) = T := by first | simpa using c15 | (simp at c15 ⊢; omega)
     clear c15
     (try simp only [c15b0, c15b1, c15b2])
     have H' := Aside0.mk H
     clear H
     go_wp2
     go_loopg [7] kj2 (fun kq v7 w' => ∃ (x7_2 : Int), v7 = .int .i64 x7_2 ∧ Aside0 (contangolaw34_CoverGaps.l0 kq l0 t496 x7_2 l1_0 l1_1 l1_2 = some r) ∧ Aside0 (kq ≤ kj2) ∧ Aside0 (Kd.R k50 50 w' w.heap.size (fun _ => True) (.slice Ao14 t496.length co14) t496) ∧ Aside0 (w'.heap[gb494]? = some (.cells #[(.slice A1_0 l1_0.length c1_0), (.slice A1_1 l1_1.length c1_1), (.slice A1_2 l1_2.length c1_2)] 34 (0, 0))) ∧ Aside0 (Below w.heap.size w w'))
     case atStart => exact ⟨(0), (Zs), H', ⟨Nat.le_refl _⟩, ⟨Zr HO499.out⟩, ⟨Zu BK494.out⟩, ⟨Zc1 GE494.out⟩⟩
     case round =>
      clear H'
      try clear c1
      try clear p2
      try clear c5
      try clear c5b0
      try clear c5b1
      try clear c7
      try clear c13
      try clear c13b0
      try clear c13b1
      try clear c15
      try clear c15b0
      try clear c15b1
      try clear c15b2
      try clear hcz11_0
      try clear hcz11_1
      try clear hcz11_2
      try clear hcz6_0
      try clear hcz6_1
      try clear hcz6_2
      try clear hfz11_0
      try clear hfz11_1
      try clear hfz11_2
      try clear hfz6_0
      try clear hfz6_1
      try clear hfz6_2
      try clear p2
      obtain ⟨x7_2, rfl, HA, HK2, HO_5, BK494, HB⟩ := hrel
      cases gk with
      | zero => exact absurd HA.out (by simp [contangolaw34_CoverGaps.l0])
      | succ k2 =>
       have H := HA.out
       clear HA
       simp only [contangolaw34_CoverGaps.l0] at H
       go_upto_if 48 with (fail)
       by_cases c16 : x7_2 < (t496.length : Int)
       ·rw [if_pos c16] at H
        have c16b0 : decide (x7_2 < (t496.length : Int)) = T := decide_eq_true c16
        clear c16
        (try simp only [c16b0])
        have H' := Aside0.mk H
        clear H
        go_wp2
        go_loopg [8, 9] k2 (fun kq v8 v9 w' => ∃ (x8_3 : Bool) (x9_3 : Int), v8 = .bool x8_3 ∧ v9 = .int .i64 x9_3 ∧ Aside0 (contangolaw34_CoverGaps.l1 kq l0 t496 x7_2 x8_3 x9_3 l1_0 l1_1 l1_2 = some r) ∧ Aside0 (kq ≤ k2) ∧ Aside0 (Kd.R k50 50 w' w.heap.size (fun _ => True) (.slice Ao14 t496.length co14) t496) ∧ Aside0 (w'.heap[gb494]? = some (.cells #[(.slice A1_0 l1_0.length c1_0), (.slice A1_1 l1_1.length c1_1), (.slice A1_2 l1_2.length c1_2)] 34 (0, 0))) ∧ Aside0 (Below w.heap.size w w'))
        case atStart => exact ⟨(F), (0), (Zs), (Zs), H', ⟨Nat.le_refl _⟩, ⟨Zr HO_5.out⟩, ⟨Zu BK494.out⟩, ⟨Zc1 GE494.out⟩⟩
        case round =>
         clear H'
         try clear c1
         try clear p2
         try clear c5
         try clear c5b0
         try clear c5b1
         try clear c7
         try clear c13
         try clear c13b0
         try clear c13b1
         try clear c15
         try clear c15b0
         try clear c15b1
         try clear c15b2
         try clear c16
         try clear c16b0
         try clear hcz11_0
         try clear hcz11_1
         try clear hcz11_2
         try clear hcz6_0
         try clear hcz6_1
         try clear hcz6_2
         try clear hfz11_0
         try clear hfz11_1
         try clear hfz11_2
         try clear hfz6_0
         try clear hfz6_1
         try clear hfz6_2
         try clear p2
         obtain ⟨x8_3, x9_3, rfl, rfl, HA, HK3, HO_5, BK494, HB⟩ := hrel
         cases gk with
         | zero => exact absurd HA.out (by simp [contangolaw34_CoverGaps.l1])
         | succ k3 =>
          have H := HA.out
          clear HA
          simp only [contangolaw34_CoverGaps.l1] at H
          obtain ⟨hcz17_0, hfz17_0⟩ := Zy (v := (.slice A1_0 l1_0.length c1_0)) BK494.out 0
          obtain ⟨hcz17_1, hfz17_1⟩ := Zy (v := (.slice A1_1 l1_1.length c1_1)) BK494.out 1
          obtain ⟨hcz17_2, hfz17_2⟩ := Zy (v := (.slice A1_2 l1_2.length c1_2)) BK494.out 2
          go_upto_if 55 with (fail)
          by_cases c18 : x9_3 < (l1_0.length : Int)
          ·rw [if_pos c18] at H
           have c18b0 : decide (x9_3 < (l1_0.length : Int)) = T := decide_eq_true c18
           clear c18
           (try simp only [c18b0])
           by_cases c19 : x8_3 = T
           ·subst c19
            have H1 : (contangolaw34_CoverGaps.l1 k3 l0 t496 x7_2 T (wrap64 (x9_3 + 1)) l1_0 l1_1 l1_2) = some r := by rw [if_pos rfl] at H; exact H
            clear H
            have H := H1
            clear H1
            have H' := Aside0.mk H
            clear H
            try go_wp2
            replace HO_5 := Aside0.mk (Kd.R_drew HO_5.out)
            replace BK494 := Aside0.mk (Qac BK494.out)
            replace HB := Aside0.mk (Qag HB.out)
            refine start_ (n := 16) (S := fun w' => True) (ds := []) #[F, F, F, F, F, F, F, F, F, F, F, F, F, F, F, F] (by kernel_rfl) rfl rfl trivial (fun hHeld => ?_); refine Qbt contangolaw34_CoverGaps.tab15 contangolaw34_CoverGaps.bits15 (fun HT_ HW_ => ?_)
            generalize wr.drew = w20 at HO_5 BK494 HB hHeld ⊢
            refine pure_ (i := 0) (N := some 58) (v := ?_) (a' := ?_) #[T, F, F, F, F, F, F, F, F, F, F, F, F, F, F, F] rfl rfl (any_of HT_.out (by kernel_rfl)) (fun _ _ _ h => h) (Or.inl ⟨by rfl, ?_⟩) ?_ ?_
            rotate_left
            ·intro w'
             go_simp
             with_reducible rfl
            rotate_left
            ·simp only [Act.put, Zj, Zk, Zm, i64_w, i32_w]
             rfl
            refine pure_ (i := 1) (N := some 59) (v := ?_) (a' := ?_) #[T, T, F, F, F, F, F, F, F, F, F, F, F, F, F, F] rfl rfl (any_of HT_.out (by kernel_rfl)) (fun _ _ _ h => h) (Or.inl ⟨by rfl, ?_⟩) ?_ ?_
            rotate_left
            ·intro w'
             go_simp
             with_reducible rfl
            rotate_left
            ·simp only [Act.put, Zj, Zk, Zm, i64_w, i32_w]
             rfl
            refine pure_ (i := 2) (N := some 60) (v := undef) (a' := ?_) #[T, T, T, F, F, F, F, F, F, F, F, F, F, F, F, F] rfl rfl (any_of HT_.out (by kernel_rfl)) (fun _ _ _ h => h) (Or.inr ⟨by rfl, rfl⟩) ?_ ?_
            rotate_left
            ·simp only [Act.put, Zj, Zk, Zm, i64_w, i32_w]
             rfl
            refine pure_ (i := 3) (N := some 61) (v := undef) (a' := ?_) #[T, T, T, T, F, F, F, F, F, F, F, F, F, F, F, F] rfl rfl (any_of HT_.out (by kernel_rfl)) (fun _ _ _ h => h) (Or.inr ⟨by rfl, rfl⟩) ?_ ?_
            rotate_left
            ·simp only [Act.put, Zj, Zk, Zm, i64_w, i32_w]
             rfl
            refine pure_ (i := 4) (N := some 62) (v := undef) (a' := ?_) #[T, T, T, T, T, F, F, F, F, F, F, F, F, F, F, F] rfl rfl (any_of HT_.out (by kernel_rfl)) (fun _ _ _ h => h) (Or.inr ⟨by rfl, rfl⟩) ?_ ?_
            rotate_left
            ·simp only [Act.put, Zj, Zk, Zm, i64_w, i32_w]
             rfl
            refine pure_ (i := 5) (N := some 63) (v := undef) (a' := ?_) #[T, T, T, T, T, T, F, F, F, F, F, F, F, F, F, F] rfl rfl (any_of HT_.out (by kernel_rfl)) (fun _ _ _ h => h) (Or.inr ⟨by rfl, rfl⟩) ?_ ?_
            rotate_left
            ·simp only [Act.put, Zj, Zk, Zm, i64_w, i32_w]
             rfl
            refine pure_ (i := 6) (N := some 64) (v := undef) (a' := ?_) #[T, T, T, T, T, T, T, F, F, F, F, F, F, F, F, F] rfl rfl (any_of HT_.out (by kernel_rfl)) (fun _ _ _ h => h) (Or.inr ⟨by rfl, rfl⟩) ?_ ?_
            rotate_left
            ·simp only [Act.put, Zj, Zk, Zm, i64_w, i32_w]
             rfl
            refine pure_ (i := 7) (N := some 65) (v := undef) (a' := ?_) #[T, T, T, T, T, T, T, T, F, F, F, F, F, F, F, F] rfl rfl (any_of HT_.out (by kernel_rfl)) (fun _ _ _ h => h) (Or.inr ⟨by rfl, rfl⟩) ?_ ?_
            rotate_left
            ·simp only [Act.put, Zj, Zk, Zm, i64_w, i32_w]
             rfl
            refine pure_ (i := 8) (N := some 66) (v := undef) (a' := ?_) #[T, T, T, T, T, T, T, T, T, F, F, F, F, F, F, F] rfl rfl (any_of HT_.out (by kernel_rfl)) (fun _ _ _ h => h) (Or.inr ⟨by rfl, rfl⟩) ?_ ?_
            rotate_left
            ·simp only [Act.put, Zj, Zk, Zm, i64_w, i32_w]
             rfl
            refine pure_ (i := 9) (N := some 67) (v := undef) (a' := ?_) #[T, T, T, T, T, T, T, T, T, T, F, F, F, F, F, F] rfl rfl (any_of HT_.out (by kernel_rfl)) (fun _ _ _ h => h) (Or.inr ⟨by rfl, rfl⟩) ?_ ?_
            rotate_left
            ·simp only [Act.put, Zj, Zk, Zm, i64_w, i32_w]
             rfl
            refine pure_ (i := 10) (N := some 68) (v := undef) (a' := ?_) #[T, T, T, T, T, T, T, T, T, T, T, F, F, F, F, F] rfl rfl (any_of HT_.out (by kernel_rfl)) (fun _ _ _ h => h) (Or.inr ⟨by rfl, rfl⟩) ?_ ?_
            rotate_left
            ·simp only [Act.put, Zj, Zk, Zm, i64_w, i32_w]
             rfl
            refine pure_ (i := 11) (N := some 69) (v := undef) (a' := ?_) #[T, T, T, T, T, T, T, T, T, T, T, T, F, F, F, F] rfl rfl (any_of HT_.out (by kernel_rfl)) (fun _ _ _ h => h) (Or.inr ⟨by rfl, rfl⟩) ?_ ?_
            rotate_left
            ·simp only [Act.put, Zj, Zk, Zm, i64_w, i32_w]
             rfl
            refine pure_ (i := 12) (N := some 70) (v := undef) (a' := ?_) #[T, T, T, T, T, T, T, T, T, T, T, T, T, F, F, F] rfl rfl (any_of HT_.out (by kernel_rfl)) (fun _ _ _ h => h) (Or.inr ⟨by rfl, rfl⟩) ?_ ?_
            rotate_left
            ·simp only [Act.put, Zj, Zk, Zm, i64_w, i32_w]
             rfl
            refine pure_ (i := 13) (N := some 71) (v := undef) (a' := ?_) #[T, T, T, T, T, T, T, T, T, T, T, T, T, T, F, F] rfl rfl (any_of HT_.out (by kernel_rfl)) (fun _ _ _ h => h) (Or.inr ⟨by rfl, rfl⟩) ?_ ?_
            rotate_left
            ·simp only [Act.put, Zj, Zk, Zm, i64_w, i32_w]
             rfl
            refine pure_ (i := 14) (N := some 72) (v := ?_) (a' := ?_) #[T, T, T, T, T, T, T, T, T, T, T, T, T, T, T, F] rfl rfl (any_of HT_.out (by kernel_rfl)) (fun _ _ _ h => h) (Or.inl ⟨by rfl, ?_⟩) ?_ ?_
            rotate_left
            ·intro w'
             go_simp
             with_reducible rfl
            rotate_left
            ·simp only [Act.put, Zj, Zk, Zm, i64_w, i32_w]
             rfl
            refine pure_ (i := 15) (N := some 8) (v := ?_) (a' := ?_) #[T, T, T, T, T, T, T, T, T, T, T, T, T, T, T, T] rfl rfl (any_of HT_.out (by kernel_rfl)) (fun _ _ _ h => h) (Or.inl ⟨by rfl, ?_⟩) ?_ ?_
            rotate_left
            ·intro w'
             go_simp
             with_reducible rfl
            rotate_left
            ·simp only [Act.put, Zj, Zk, Zm, i64_w, i32_w]
             rfl
            refine done_ (QbC HT_.out (by kernel_rfl)) ?_
            try go_wp2
            go_roundg k3
            case measure => have := HJ2.out; have := HK2.out; have := HK3.out; omega
            case rel => exact ⟨(T), (wrap64 (x9_3 + 1)), (Zs), (Zs), H', ⟨by have := HJ2.out; have := HK2.out; have := HK3.out; omega⟩, ⟨Zr HO_5.out⟩, ⟨Zu BK494.out⟩, ⟨Zc1 GE494.out⟩⟩
           replace c19 := Bool.eq_false_iff.mpr c19
           subst c19
           have H1 : (if 0 ≤ x9_3 then (if 0 ≤ x7_2 then (if x7_2 < (l0.length : Int) then (contangolaw34_CoverGaps.l1 k3 l0 t496 x7_2 ((((rd_T46 l1_0 x9_3).f0.f0).toList) == (((rd_T48 l0 x7_2).f0.f0).toList) && ((((rd_T46 l1_0 x9_3).f0.f1).toList) == (((rd_T48 l0 x7_2).f0.f1).toList))) (wrap64 (x9_3 + 1)) l1_0 l1_1 l1_2) else (none)) else (none)) else (none)) = some r := by rw [if_neg (show ¬ (F = T) by decide)] at H; exact H
           clear H
           have H := H1
           clear H1
           by_cases c21 : 0 ≤ x9_3
           ·rw [if_pos c21] at H
            have c21b0 : decide (0 ≤ x9_3) = T := decide_eq_true c21
            clear c21
            by_cases c22 : 0 ≤ x7_2
            ·rw [if_pos c22] at H
             have c22b0 : decide (0 ≤ x7_2) = T := decide_eq_true c22
             clear c22
             by_cases c23 : x7_2 < (l0.length : Int)
             ·rw [if_pos c23] at H
              have c23b0 : decide (x7_2 < (l0.length : Int)) = T := decide_eq_true c23
              clear c23
              have H' := Aside0.mk H
              clear H
              try go_wp2
              replace HO_5 := Aside0.mk (Kd.R_drew HO_5.out)
              replace BK494 := Aside0.mk (Qac BK494.out)
              replace HB := Aside0.mk (Qag HB.out)
              have p502 : 0 ≤ (x9_3 : Int) := Ze
              have q502 : x9_3 < (l1_0.length : Int) := Ze
              obtain ⟨ad502, e502, hx502_0, hx502_1, hx502_2, hx502_3⟩ := at_T46 HR1_0.out x9_3 p502 q502
              have hw502_3 := hx502_3
              have hw502_2 := hx502_2
              have hw502_1 := hx502_1
              have hw502_0 := hx502_0
              cases e502
              replace hx502_0 := Zx HB.out hx502_0
              replace hx502_1 := Zx HB.out hx502_1
              replace hx502_2 := Zx HB.out hx502_2
              replace hx502_3 := Zx HB.out hx502_3
              replace p502 := eq_true p502
              replace q502 := eq_true q502
              have p503 : 0 ≤ (x7_2 : Int) := Ze
              have q503 : x7_2 < (l0.length : Int) := Ze
              obtain ⟨ad503, e503, hx503_0, hx503_1, hx503_2, hx503_3, hx503_4, hx503_5, hx503_6, hx503_7, hx503_8⟩ := at_T48 HR0.out x7_2 p503 q503
              have hw503_8 := hx503_8
              have hw503_7 := hx503_7
              have hw503_6 := hx503_6
              have hw503_5 := hx503_5
              have hw503_4 := hx503_4
              have hw503_3 := hx503_3
              have hw503_2 := hx503_2
              have hw503_1 := hx503_1
              have hw503_0 := hx503_0
              cases e503
              replace hx503_0 := Zx HB.out hx503_0
              replace hx503_1 := Zx HB.out hx503_1
              replace hx503_2 := Zx HB.out hx503_2
              replace hx503_3 := Zx HB.out hx503_3
              replace hx503_4 := Zx HB.out hx503_4
              replace hx503_5 := Zx HB.out hx503_5
              replace hx503_6 := Zx HB.out hx503_6
              replace hx503_7 := Zx HB.out hx503_7
              replace hx503_8 := Zx HB.out hx503_8
              replace p503 := eq_true p503
              replace q503 := eq_true q503
              refine start_ (n := 16) (S := fun w' => w'.cell? ⟨gb494, 0, none⟩ = some (.slice (some ad502) l1_0.length c1_0) ∧ w'.cell? ⟨gb494, 1, none⟩ = some (.slice A1_1 l1_1.length c1_1) ∧ w'.cell? ⟨gb494, 2, none⟩ = some (.slice A1_2 l1_2.length c1_2) ∧ w'.cell? (ad502.add ((x9_3).toNat * 4)) = some (.string ((rd_T46 l1_0 x9_3).f0.f0)) ∧ w'.cell? ⟨(ad502.add ((x9_3).toNat * 4)).block, (ad502.add ((x9_3).toNat * 4)).off + 1, none⟩ = some (.string ((rd_T46 l1_0 x9_3).f0.f1)) ∧ w'.cell? ⟨(ad502.add ((x9_3).toNat * 4)).block, (ad502.add ((x9_3).toNat * 4)).off + 2, none⟩ = some (.string ((rd_T46 l1_0 x9_3).f1)) ∧ w'.cell? ⟨(ad502.add ((x9_3).toNat * 4)).block, (ad502.add ((x9_3).toNat * 4)).off + 3, none⟩ = some (.int .i64 ((rd_T46 l1_0 x9_3).f2)) ∧ w'.cell? (ad503.add ((x7_2).toNat * 9)) = some (.string ((rd_T48 l0 x7_2).f0.f0)) ∧ w'.cell? ⟨(ad503.add ((x7_2).toNat * 9)).block, (ad503.add ((x7_2).toNat * 9)).off + 1, none⟩ = some (.string ((rd_T48 l0 x7_2).f0.f1)) ∧ w'.cell? ⟨(ad503.add ((x7_2).toNat * 9)).block, (ad503.add ((x7_2).toNat * 9)).off + 2, none⟩ = some (.int .i64 ((rd_T48 l0 x7_2).f1)) ∧ w'.cell? ⟨(ad503.add ((x7_2).toNat * 9)).block, (ad503.add ((x7_2).toNat * 9)).off + 3, none⟩ = some (.int .i64 ((rd_T48 l0 x7_2).f2)) ∧ w'.cell? ⟨(ad503.add ((x7_2).toNat * 9)).block, (ad503.add ((x7_2).toNat * 9)).off + 4, none⟩ = some (.int .i64 ((rd_T48 l0 x7_2).f3)) ∧ w'.cell? ⟨(ad503.add ((x7_2).toNat * 9)).block, (ad503.add ((x7_2).toNat * 9)).off + 5, none⟩ = some (.int .i64 ((rd_T48 l0 x7_2).f4)) ∧ w'.cell? ⟨(ad503.add ((x7_2).toNat * 9)).block, (ad503.add ((x7_2).toNat * 9)).off + 6, none⟩ = some (.int .i64 ((rd_T48 l0 x7_2).f5)) ∧ w'.cell? ⟨(ad503.add ((x7_2).toNat * 9)).block, (ad503.add ((x7_2).toNat * 9)).off + 7, none⟩ = some (.int .i64 ((rd_T48 l0 x7_2).f6)) ∧ w'.cell? ⟨(ad503.add ((x7_2).toNat * 9)).block, (ad503.add ((x7_2).toNat * 9)).off + 8, none⟩ = some (.int .i64 ((rd_T48 l0 x7_2).f7))) (ds := []) #[F, F, F, F, F, F, F, F, F, F, F, F, F, F, F, F] (by kernel_rfl) rfl rfl ⟨(Qah BK494.out 0).trans rfl, (Qah BK494.out 1).trans rfl, (Qah BK494.out 2).trans rfl, ((HB.out.cell (World.block_lt_of_cell? w _ hw502_0)).trans hw502_0), ((HB.out.cell (World.block_lt_of_cell? w _ hw502_1)).trans hw502_1), ((HB.out.cell (World.block_lt_of_cell? w _ hw502_2)).trans hw502_2), ((HB.out.cell (World.block_lt_of_cell? w _ hw502_3)).trans hw502_3), ((HB.out.cell (World.block_lt_of_cell? w _ hw503_0)).trans hw503_0), ((HB.out.cell (World.block_lt_of_cell? w _ hw503_1)).trans hw503_1), ((HB.out.cell (World.block_lt_of_cell? w _ hw503_2)).trans hw503_2), ((HB.out.cell (World.block_lt_of_cell? w _ hw503_3)).trans hw503_3), ((HB.out.cell (World.block_lt_of_cell? w _ hw503_4)).trans hw503_4), ((HB.out.cell (World.block_lt_of_cell? w _ hw503_5)).trans hw503_5), ((HB.out.cell (World.block_lt_of_cell? w _ hw503_6)).trans hw503_6), ((HB.out.cell (World.block_lt_of_cell? w _ hw503_7)).trans hw503_7), ((HB.out.cell (World.block_lt_of_cell? w _ hw503_8)).trans hw503_8)⟩ (fun hHeld => ?_); refine Qbt contangolaw34_CoverGaps.tab15 contangolaw34_CoverGaps.bits15 (fun HT_ HW_ => ?_)
              generalize wr.drew = w24 at HO_5 BK494 HB hx502_0 hx502_1 hx502_2 hx502_3 hx503_0 hx503_1 hx503_2 hx503_3 hx503_4 hx503_5 hx503_6 hx503_7 hx503_8 hHeld ⊢
              refine pure_ (i := 0) (N := some 58) (v := ?_) (a' := ?_) #[T, F, F, F, F, F, F, F, F, F, F, F, F, F, F, F] rfl rfl (any_of HT_.out (by kernel_rfl)) (fun _ _ _ h => h) (Or.inl ⟨by rfl, ?_⟩) ?_ ?_
              rotate_left
              ·intro w'
               go_simp
               with_reducible rfl
              rotate_left
              ·simp only [Act.put, Zj, Zk, Zm, i64_w, i32_w]
               rfl
              refine pure_ (i := 1) (N := some 59) (v := ?_) (a' := ?_) #[T, T, F, F, F, F, F, F, F, F, F, F, F, F, F, F] rfl rfl (any_of HT_.out (by kernel_rfl)) (fun _ _ _ h => h) (Or.inl ⟨by rfl, ?_⟩) ?_ ?_
              rotate_left
              ·intro w'
               go_simp
               with_reducible rfl
              rotate_left
              ·simp only [Act.put, Zj, Zk, Zm, i64_w, i32_w]
               rfl
              refine pure_ (i := 2) (N := some 60) (v := ?_) (a' := ?_) #[T, T, T, F, F, F, F, F, F, F, F, F, F, F, F, F] rfl rfl (any_of HT_.out (by kernel_rfl)) (fun _ _ _ h => h) (Or.inl ⟨by rfl, ?_⟩) ?_ ?_
              rotate_left
              ·intro w'
               go_simp
               with_reducible rfl
              rotate_left
              ·simp only [Act.put, Zj, Zk, Zm, i64_w, i32_w]
               rfl
              refine pure_ (i := 4) (N := some 62) (v := ?_) (a' := ?_) #[T, T, T, F, T, F, F, F, F, F, F, F, F, F, F, F] rfl rfl (any_of HT_.out (by kernel_rfl)) (fun _ _ _ h => h) (Or.inl ⟨by rfl, ?_⟩) ?_ ?_
              rotate_left
              ·intro w'
               go_simp
               with_reducible rfl
              rotate_left
              ·simp only [Act.put, Zj, Zk, Zm, i64_w, i32_w]
               rfl
              refine pure_ (i := 8) (N := some 66) (v := ?_) (a' := ?_) #[T, T, T, F, T, F, F, F, T, F, F, F, F, F, F, F] rfl rfl (any_of HT_.out (by kernel_rfl)) (fun _ _ _ h => h) (Or.inl ⟨by rfl, ?_⟩) ?_ ?_
              rotate_left
              ·intro w'
               go_simp
               with_reducible rfl
              rotate_left
              ·simp only [Act.put, Zj, Zk, Zm, i64_w, i32_w]
               rfl
              refine pure_ (i := 9) (N := some 67) (v := ?_) (a' := ?_) #[T, T, T, F, T, F, F, F, T, T, F, F, F, F, F, F] rfl rfl (any_of HT_.out (by kernel_rfl)) (fun _ _ _ h => h) (Or.inl ⟨by rfl, ?_⟩) ?_ ?_
              rotate_left
              ·intro w'
               go_simp
               with_reducible rfl
              rotate_left
              ·simp only [Act.put, Zj, Zk, Zm, i64_w, i32_w]
               rfl
              refine pure_ (i := 10) (N := some 68) (v := ?_) (a' := ?_) #[T, T, T, F, T, F, F, F, T, T, T, F, F, F, F, F] rfl rfl (any_of HT_.out (by kernel_rfl)) (fun _ _ _ h => h) (Or.inl ⟨by rfl, ?_⟩) ?_ ?_
              rotate_left
              ·intro w'
               go_simp
               with_reducible rfl
              rotate_left
              ·simp only [Act.put, Zj, Zk, Zm, i64_w, i32_w]
               rfl
              refine pure_ (i := 11) (N := some 69) (v := ?_) (a' := ?_) #[T, T, T, F, T, F, F, F, T, T, T, T, F, F, F, F] rfl rfl (any_of HT_.out (by kernel_rfl)) (fun _ _ _ h => h) (Or.inl ⟨by rfl, ?_⟩) ?_ ?_
              rotate_left
              ·intro w'
               go_simp
               with_reducible rfl
              rotate_left
              ·simp only [Act.put, Zj, Zk, Zm, i64_w, i32_w]
               rfl
              refine take_ (i := 3) (N := some 61) (v := ?_) (a' := ?_) #[T, T, T, T, T, F, F, F, T, T, T, T, F, F, F, F] rfl rfl (QaF HT_.out HW_.out (by kernel_rfl)) (fun _ _ _ h => h) (Or.inl ⟨by rfl, ?_⟩) hHeld ?_ ?_
              rotate_left
              ·rintro w' ⟨s0, s1, s2, s3, s4, s5, s6, s7, s8, s9, s10, s11, s12, s13, s14, s15⟩
               go_simp
               with_reducible rfl
              rotate_left
              ·simp only [Act.put, Zj, Zk, Zm, i64_w, i32_w]
               rfl
              refine pure_ (i := 5) (N := some 63) (v := ?_) (a' := ?_) #[T, T, T, T, T, T, F, F, T, T, T, T, F, F, F, F] rfl rfl (any_of HT_.out (by kernel_rfl)) (fun _ _ _ h => h) (Or.inl ⟨by rfl, ?_⟩) ?_ ?_
              rotate_left
              ·intro w'
               go_simp
               with_reducible rfl
              rotate_left
              ·simp only [Act.put, Zj, Zk, Zm, i64_w, i32_w]
               rfl
              refine pure_ (i := 6) (N := some 64) (v := ?_) (a' := ?_) #[T, T, T, T, T, T, T, F, T, T, T, T, F, F, F, F] rfl rfl (any_of HT_.out (by kernel_rfl)) (fun _ _ _ h => h) (Or.inl ⟨by rfl, ?_⟩) ?_ ?_
              rotate_left
              ·intro w'
               go_simp
               with_reducible rfl
              rotate_left
              ·simp only [Act.put, Zj, Zk, Zm, i64_w, i32_w]
               rfl
              refine take_ (i := 7) (N := some 65) (v := ?_) (a' := ?_) #[T, T, T, T, T, T, T, T, T, T, T, T, F, F, F, F] rfl rfl (QaF HT_.out HW_.out (by kernel_rfl)) (fun _ _ _ h => h) (Or.inl ⟨by rfl, ?_⟩) hHeld ?_ ?_
              rotate_left
              ·rintro w' ⟨s0, s1, s2, s3, s4, s5, s6, s7, s8, s9, s10, s11, s12, s13, s14, s15⟩
               go_simp
               with_reducible rfl
              rotate_left
              ·simp only [Act.put, Zj, Zk, Zm, i64_w, i32_w]
               rfl
              refine take_ (i := 12) (N := some 70) (v := ?_) (a' := ?_) #[T, T, T, T, T, T, T, T, T, T, T, T, T, F, F, F] rfl rfl (QaF HT_.out HW_.out (by kernel_rfl)) (fun _ _ _ h => h) (Or.inl ⟨by rfl, ?_⟩) hHeld ?_ ?_
              rotate_left
              ·rintro w' ⟨s0, s1, s2, s3, s4, s5, s6, s7, s8, s9, s10, s11, s12, s13, s14, s15⟩
               go_simp
               with_reducible rfl
              rotate_left
              ·simp only [Act.put, Zj, Zk, Zm, i64_w, i32_w]
               rfl
              refine pure_ (i := 13) (N := some 71) (v := ?_) (a' := ?_) #[T, T, T, T, T, T, T, T, T, T, T, T, T, T, F, F] rfl rfl (any_of HT_.out (by kernel_rfl)) (fun _ _ _ h => h) (Or.inl ⟨by rfl, ?_⟩) ?_ ?_
              rotate_left
              ·intro w'
               go_simp
               with_reducible rfl
              rotate_left
              ·simp only [Act.put, Zj, Zk, Zm, i64_w, i32_w]
               rfl
              refine pure_ (i := 14) (N := some 72) (v := ?_) (a' := ?_) #[T, T, T, T, T, T, T, T, T, T, T, T, T, T, T, F] rfl rfl (any_of HT_.out (by kernel_rfl)) (fun _ _ _ h => h) (Or.inl ⟨by rfl, ?_⟩) ?_ ?_
              rotate_left
              ·intro w'
               go_simp
               with_reducible rfl
              rotate_left
              ·simp only [Act.put, Zj, Zk, Zm, i64_w, i32_w]
               rfl
              refine pure_ (i := 15) (N := some 8) (v := ?_) (a' := ?_) #[T, T, T, T, T, T, T, T, T, T, T, T, T, T, T, T] rfl rfl (any_of HT_.out (by kernel_rfl)) (fun _ _ _ h => h) (Or.inl ⟨by rfl, ?_⟩) ?_ ?_
              rotate_left
              ·intro w'
               go_simp
               with_reducible rfl
              rotate_left
              ·simp only [Act.put, Zj, Zk, Zm, i64_w, i32_w]
               rfl
              refine done_ (QbC HT_.out (by kernel_rfl)) ?_
              try go_wp2
              go_roundg k3
              case measure => have := HJ2.out; have := HK2.out; have := HK3.out; omega
              case rel => exact ⟨(((((rd_T46 l1_0 x9_3).f0.f0).toList) == (((rd_T48 l0 x7_2).f0.f0).toList) && ((((rd_T46 l1_0 x9_3).f0.f1).toList) == (((rd_T48 l0 x7_2).f0.f1).toList)))), (wrap64 (x9_3 + 1)), (Zs), (Zs), H', ⟨by have := HJ2.out; have := HK2.out; have := HK3.out; omega⟩, ⟨Zr HO_5.out⟩, ⟨Zu BK494.out⟩, ⟨Zc1 GE494.out⟩⟩
             rw [if_neg c23] at H
             exact absurd H (by simp)
            rw [if_neg c22] at H
            exact absurd H (by simp)
           rw [if_neg c21] at H
           exact absurd H (by simp)
          rw [if_neg c18] at H
          have c18b0 : decide (x9_3 < (l1_0.length : Int)) = F := decide_eq_false c18
          clear c18
          (try simp only [c18b0])
          by_cases c25 : 0 ≤ x7_2
          ·rw [if_pos c25] at H
           have c25b0 : decide (0 ≤ x7_2) = T := decide_eq_true c25
           clear c25
           by_cases c26 : x7_2 < (t496.length : Int)
           ·rw [if_pos c26] at H
            have c26b0 : decide (x7_2 < (t496.length : Int)) = T := decide_eq_true c26
            clear c26
            by_cases c27 : x7_2 < (l0.length : Int)
            ·rw [if_pos c27] at H
             have c27b0 : decide (x7_2 < (l0.length : Int)) = T := decide_eq_true c27
             clear c27
             by_cases c28 : (!((((rd_T50 t496 x7_2).f0.f0).toList) == (((rd_T48 l0 x7_2).f0.f0).toList)) || (!((((rd_T50 t496 x7_2).f0.f1).toList) == (((rd_T48 l0 x7_2).f0.f1).toList)))) = T
             ·rw [if_pos c28] at H
              have c28b0 : (!((((rd_T50 t496 x7_2).f0.f0).toList) == (((rd_T48 l0 x7_2).f0.f0).toList)) || (!((((rd_T50 t496 x7_2).f0.f1).toList) == (((rd_T48 l0 x7_2).f0.f1).toList)))) = T := c28
              clear c28
              exact absurd H (by simp)
             rw [if_neg c28] at H
             have c28b0 : (!((((rd_T50 t496 x7_2).f0.f0).toList) == (((rd_T48 l0 x7_2).f0.f0).toList)) || (!((((rd_T50 t496 x7_2).f0.f1).toList) == (((rd_T48 l0 x7_2).f0.f1).toList)))) = F := by simpa using c28
             clear c28
             by_cases c29 : ((rd_T50 t496 x7_2).f1) = ((rd_T48 l0 x7_2).f7)
             ·rw [if_pos c29] at H
              have c29b0 : (((rd_T50 t496 x7_2).f1) == ((rd_T48 l0 x7_2).f7)) = T := beq_iff_eq.mpr c29
              have c29b1 : (((rd_T50 t496 x7_2).f1) != ((rd_T48 l0 x7_2).f7)) = F := bne_eq_false_iff_eq.mpr c29
              clear c29
              by_cases c30 : ((rd_T50 t496 x7_2).f3) < 0
              ·rw [if_pos c30] at H
               have c30b0 : decide (((rd_T50 t496 x7_2).f3) < 0) = T := decide_eq_true c30
               clear c30
               exact absurd H (by simp)
              rw [if_neg c30] at H
              have c30b0 : decide (((rd_T50 t496 x7_2).f3) < 0) = F := decide_eq_false c30
              clear c30
              by_cases c31 : ((rd_T50 t496 x7_2).f2) < 0
              ·rw [if_pos c31] at H
               have c31b0 : decide (((rd_T50 t496 x7_2).f2) < 0) = T := decide_eq_true c31
               clear c31
               exact absurd H (by simp)
              rw [if_neg c31] at H
              have c31b0 : decide (((rd_T50 t496 x7_2).f2) < 0) = F := decide_eq_false c31
              clear c31
              by_cases c32 : (wrap64 (((rd_T50 t496 x7_2).f3) + ((rd_T50 t496 x7_2).f2))) < ((rd_T50 t496 x7_2).f1)
              ·rw [if_pos c32] at H
               have c32b0 : decide ((wrap64 (((rd_T50 t496 x7_2).f3) + ((rd_T50 t496 x7_2).f2))) < ((rd_T50 t496 x7_2).f1)) = T := decide_eq_true c32
               clear c32
               exact absurd H (by simp)
              rw [if_neg c32] at H
              have c32b0 : decide ((wrap64 (((rd_T50 t496 x7_2).f3) + ((rd_T50 t496 x7_2).f2))) < ((rd_T50 t496 x7_2).f1)) = F := decide_eq_false c32
              clear c32
              by_cases c33 : ((rd_T50 t496 x7_2).f3) > 0
              ·rw [if_pos c33] at H
               have c33b0 : decide (0 < ((rd_T50 t496 x7_2).f3)) = T := decide_eq_true c33
               clear c33
               by_cases c34 : (wrap64 (((rd_T50 t496 x7_2).f3) + ((rd_T50 t496 x7_2).f2))) = ((rd_T50 t496 x7_2).f1)
               ·rw [if_pos c34] at H
                have c34b0 : ((wrap64 (((rd_T50 t496 x7_2).f3) + ((rd_T50 t496 x7_2).f2))) == ((rd_T50 t496 x7_2).f1)) = T := beq_iff_eq.mpr c34
                have c34b1 : ((wrap64 (((rd_T50 t496 x7_2).f3) + ((rd_T50 t496 x7_2).f2))) != ((rd_T50 t496 x7_2).f1)) = F := bne_eq_false_iff_eq.mpr c34
                clear c34
                by_cases c35 : x8_3 = T
                ·subst c35
                 have H1 : (contangolaw34_CoverGaps.l0 k3 l0 t496 (wrap64 (x7_2 + 1)) l1_0 l1_1 l1_2) = some r := by rw [if_pos rfl] at H; exact H
                 clear H
                 have H := H1
                 clear H1
                 have H' := Aside0.mk H
                 clear H
                 have p504 : 0 ≤ (x7_2 : Int) := Ze
                 have q504 : x7_2 < (t496.length : Int) := Ze
                 obtain ⟨ad504, e504, hx504_0, hx504_1, hx504_2, hx504_3, hx504_4⟩ := at_T50 (Kd.R_reads' HO_5.out).2.2 x7_2 p504 q504
                 cases e504
                 replace p504 := eq_true p504
                 replace q504 := eq_true q504
                 try go_wp2_with (first | ((with_reducible refine QaE (N := 10) rfl ?_); (try (refine Qa6 (by rfl) ?_; dsimp only)); refine Zbx (N := 10) (cs := #[.string (⟨#[]⟩ : ByteArray), .string (⟨#[]⟩ : ByteArray), .int .i64 0, .int .i64 0, .int .i64 0]) (t := 50) ?_; intro gb505 hg w36 hbox hb; have BK505 := Aside0.mk (hbox); have GW505 := Aside0.mk (Zt w hg (Zc1 GE494.out)); have GE505 := GW505; have NB494_505 := Aside0.mk (Zn hg BK494.out); have NB505_494 := Aside0.mk NB494_505.out.symm; replace HO_5 := Aside0.mk (Kd.R_below (Kd.R_elderB (Zr HO_5.out) gb505 (Nat.le_of_eq hg.symm)) hb); replace BK494 := Aside0.mk (Zi BK494.out hb); replace HB := Aside0.mk (Qaq (Zc1 GE494.out) hb); clear hb hbox hg; have hnb37 := NB505_494.out; have hnc37 := NB494_505.out; obtain ⟨hcz38_0, hfz38_0⟩ := Zy (v := (.string (⟨#[]⟩ : ByteArray))) BK505.out 0; obtain ⟨hcz38_1, hfz38_1⟩ := Zy (v := (.string (⟨#[]⟩ : ByteArray))) BK505.out 1; obtain ⟨hcz38_2, hfz38_2⟩ := Zy (v := (.int .i64 0)) BK505.out 2; obtain ⟨hcz38_3, hfz38_3⟩ := Zy (v := (.int .i64 0)) BK505.out 3; obtain ⟨hcz38_4, hfz38_4⟩ := Zy (v := (.int .i64 0)) BK505.out 4))
                 have n0_ : Aside0 (Kd.R k50 50 (((((w36.setCell ⟨gb505, 0, none⟩ (.string ((rd_T50 t496 x7_2).f0.f0))).setCell ⟨gb505, 1, none⟩ (.string ((rd_T50 t496 x7_2).f0.f1))).setCell ⟨gb505, 2, none⟩ (.int .i64 ((rd_T50 t496 x7_2).f1))).setCell ⟨gb505, 3, none⟩ (.int .i64 ((rd_T50 t496 x7_2).f2))).setCell ⟨gb505, 4, none⟩ (.int .i64 ((rd_T50 t496 x7_2).f3))) w.heap.size (fun k_ => k_ ≠ gb505) (.slice (some ad504) t496.length co14) t496) := ⟨by (with_reducible repeat (first | apply Kd.R_alloc | apply Kd.R_drewN | apply Kd.R_drew)); exact Kd.R_mono (Zf gb505 4 (Zf gb505 3 (Zf gb505 2 (Zf gb505 1 (Zf gb505 0 (Kd.R_mono HO_5.out (fun k_ hk => (⟨hk, hk.2⟩ : _ ∧ k_ ≠ gb505))) (.string ((rd_T50 t496 x7_2).f0.f0))) (.string ((rd_T50 t496 x7_2).f0.f1))) (.int .i64 ((rd_T50 t496 x7_2).f1))) (.int .i64 ((rd_T50 t496 x7_2).f2))) (.int .i64 ((rd_T50 t496 x7_2).f3))) (fun _ hk => hk.1.2)⟩
                 have n1_ : Aside0 ((((((w36.setCell ⟨gb505, 0, none⟩ (.string ((rd_T50 t496 x7_2).f0.f0))).setCell ⟨gb505, 1, none⟩ (.string ((rd_T50 t496 x7_2).f0.f1))).setCell ⟨gb505, 2, none⟩ (.int .i64 ((rd_T50 t496 x7_2).f1))).setCell ⟨gb505, 3, none⟩ (.int .i64 ((rd_T50 t496 x7_2).f2))).setCell ⟨gb505, 4, none⟩ (.int .i64 ((rd_T50 t496 x7_2).f3))).heap[gb494]? = some (.cells #[.slice A1_0 l1_0.length c1_0, .slice A1_1 l1_1.length c1_1, .slice A1_2 l1_2.length c1_2] 34 (0, 0))) := ⟨Zg5 BK494.out NB494_505.out NB494_505.out NB494_505.out NB494_505.out NB494_505.out⟩
                 have n2_ : Aside0 ((((((w36.setCell ⟨gb505, 0, none⟩ (.string ((rd_T50 t496 x7_2).f0.f0))).setCell ⟨gb505, 1, none⟩ (.string ((rd_T50 t496 x7_2).f0.f1))).setCell ⟨gb505, 2, none⟩ (.int .i64 ((rd_T50 t496 x7_2).f1))).setCell ⟨gb505, 3, none⟩ (.int .i64 ((rd_T50 t496 x7_2).f2))).setCell ⟨gb505, 4, none⟩ (.int .i64 ((rd_T50 t496 x7_2).f3))).heap[gb505]? = some (.cells #[.string ((rd_T50 t496 x7_2).f0.f0), .string ((rd_T50 t496 x7_2).f0.f1), .int .i64 ((rd_T50 t496 x7_2).f1), .int .i64 ((rd_T50 t496 x7_2).f2), .int .i64 ((rd_T50 t496 x7_2).f3)] 50 (0, 0))) := ⟨Zp2 BK505.out⟩
                 have n3_ : Aside0 (Below w.heap.size w (((((w36.setCell ⟨gb505, 0, none⟩ (.string ((rd_T50 t496 x7_2).f0.f0))).setCell ⟨gb505, 1, none⟩ (.string ((rd_T50 t496 x7_2).f0.f1))).setCell ⟨gb505, 2, none⟩ (.int .i64 ((rd_T50 t496 x7_2).f1))).setCell ⟨gb505, 3, none⟩ (.int .i64 ((rd_T50 t496 x7_2).f2))).setCell ⟨gb505, 4, none⟩ (.int .i64 ((rd_T50 t496 x7_2).f3)))) := ⟨Zc2 GE494.out GE505.out⟩
                 (try clear HO_5)
                 (try clear BK494)
                 (try clear BK505)
                 (try clear HB)
                 generalize (((((w36.setCell ⟨gb505, 0, none⟩ (.string ((rd_T50 t496 x7_2).f0.f0))).setCell ⟨gb505, 1, none⟩ (.string ((rd_T50 t496 x7_2).f0.f1))).setCell ⟨gb505, 2, none⟩ (.int .i64 ((rd_T50 t496 x7_2).f1))).setCell ⟨gb505, 3, none⟩ (.int .i64 ((rd_T50 t496 x7_2).f2))).setCell ⟨gb505, 4, none⟩ (.int .i64 ((rd_T50 t496 x7_2).f3))) = w39 at n0_ n1_ n2_ n3_ ⊢
                 have HO_5 := n0_
                 have BK494 := n1_
                 have BK505 := n2_
                 have HB := n3_
                 clear n0_ n1_ n2_ n3_
                 replace HO_5 := Aside0.mk (Kd.R_drew HO_5.out)
                 replace BK494 := Aside0.mk (Qac BK494.out)
                 replace BK505 := Aside0.mk (Qac BK505.out)
                 replace HB := Aside0.mk (Qag HB.out)
                 have p506 : 0 ≤ (x7_2 : Int) := Ze
                 have q506 : x7_2 < (l0.length : Int) := Ze
                 obtain ⟨ad506, e506, hx506_0, hx506_1, hx506_2, hx506_3, hx506_4, hx506_5, hx506_6, hx506_7, hx506_8⟩ := at_T48 HR0.out x7_2 p506 q506
                 have hw506_8 := hx506_8
                 have hw506_7 := hx506_7
                 have hw506_6 := hx506_6
                 have hw506_5 := hx506_5
                 have hw506_4 := hx506_4
                 have hw506_3 := hx506_3
                 have hw506_2 := hx506_2
                 have hw506_1 := hx506_1
                 have hw506_0 := hx506_0
                 cases e506
                 replace hx506_0 := Zx HB.out hx506_0
                 replace hx506_1 := Zx HB.out hx506_1
                 replace hx506_2 := Zx HB.out hx506_2
                 replace hx506_3 := Zx HB.out hx506_3
                 replace hx506_4 := Zx HB.out hx506_4
                 replace hx506_5 := Zx HB.out hx506_5
                 replace hx506_6 := Zx HB.out hx506_6
                 replace hx506_7 := Zx HB.out hx506_7
                 replace hx506_8 := Zx HB.out hx506_8
                 replace p506 := eq_true p506
                 replace q506 := eq_true q506
                 have p507 : 0 ≤ (x7_2 : Int) := Ze
                 have q507 : x7_2 < (l0.length : Int) := Ze
                 obtain ⟨ad507, e507, hx507_0, hx507_1, hx507_2, hx507_3, hx507_4, hx507_5, hx507_6, hx507_7, hx507_8⟩ := at_T48 HR0.out x7_2 p507 q507
                 have hw507_8 := hx507_8
                 have hw507_7 := hx507_7
                 have hw507_6 := hx507_6
                 have hw507_5 := hx507_5
                 have hw507_4 := hx507_4
                 have hw507_3 := hx507_3
                 have hw507_2 := hx507_2
                 have hw507_1 := hx507_1
                 have hw507_0 := hx507_0
                 obtain rfl : ad506 = ad507 := (by injection e507)
                 replace hx507_0 := Zx HB.out hx507_0
                 replace hx507_1 := Zx HB.out hx507_1
                 replace hx507_2 := Zx HB.out hx507_2
                 replace hx507_3 := Zx HB.out hx507_3
                 replace hx507_4 := Zx HB.out hx507_4
                 replace hx507_5 := Zx HB.out hx507_5
                 replace hx507_6 := Zx HB.out hx507_6
                 replace hx507_7 := Zx HB.out hx507_7
                 replace hx507_8 := Zx HB.out hx507_8
                 replace p507 := eq_true p507
                 replace q507 := eq_true q507
                 refine start_ (n := 64) (S := fun w' => w'.cell? ⟨gb505, 0, none⟩ = some (.string ((rd_T50 t496 x7_2).f0.f0)) ∧ w'.cell? ⟨gb505, 1, none⟩ = some (.string ((rd_T50 t496 x7_2).f0.f1)) ∧ w'.cell? ⟨gb505, 2, none⟩ = some (.int .i64 ((rd_T50 t496 x7_2).f1)) ∧ w'.cell? ⟨gb505, 3, none⟩ = some (.int .i64 ((rd_T50 t496 x7_2).f2)) ∧ w'.cell? ⟨gb505, 4, none⟩ = some (.int .i64 ((rd_T50 t496 x7_2).f3)) ∧ w'.cell? (ad506.add ((x7_2).toNat * 9)) = some (.string ((rd_T48 l0 x7_2).f0.f0)) ∧ w'.cell? ⟨(ad506.add ((x7_2).toNat * 9)).block, (ad506.add ((x7_2).toNat * 9)).off + 1, none⟩ = some (.string ((rd_T48 l0 x7_2).f0.f1)) ∧ w'.cell? ⟨(ad506.add ((x7_2).toNat * 9)).block, (ad506.add ((x7_2).toNat * 9)).off + 2, none⟩ = some (.int .i64 ((rd_T48 l0 x7_2).f1)) ∧ w'.cell? ⟨(ad506.add ((x7_2).toNat * 9)).block, (ad506.add ((x7_2).toNat * 9)).off + 3, none⟩ = some (.int .i64 ((rd_T48 l0 x7_2).f2)) ∧ w'.cell? ⟨(ad506.add ((x7_2).toNat * 9)).block, (ad506.add ((x7_2).toNat * 9)).off + 4, none⟩ = some (.int .i64 ((rd_T48 l0 x7_2).f3)) ∧ w'.cell? ⟨(ad506.add ((x7_2).toNat * 9)).block, (ad506.add ((x7_2).toNat * 9)).off + 5, none⟩ = some (.int .i64 ((rd_T48 l0 x7_2).f4)) ∧ w'.cell? ⟨(ad506.add ((x7_2).toNat * 9)).block, (ad506.add ((x7_2).toNat * 9)).off + 6, none⟩ = some (.int .i64 ((rd_T48 l0 x7_2).f5)) ∧ w'.cell? ⟨(ad506.add ((x7_2).toNat * 9)).block, (ad506.add ((x7_2).toNat * 9)).off + 7, none⟩ = some (.int .i64 ((rd_T48 l0 x7_2).f6)) ∧ w'.cell? ⟨(ad506.add ((x7_2).toNat * 9)).block, (ad506.add ((x7_2).toNat * 9)).off + 8, none⟩ = some (.int .i64 ((rd_T48 l0 x7_2).f7)) ∧ w'.cell? (ad506.add ((x7_2).toNat * 9)) = some (.string ((rd_T48 l0 x7_2).f0.f0)) ∧ w'.cell? ⟨(ad506.add ((x7_2).toNat * 9)).block, (ad506.add ((x7_2).toNat * 9)).off + 1, none⟩ = some (.string ((rd_T48 l0 x7_2).f0.f1)) ∧ w'.cell? ⟨(ad506.add ((x7_2).toNat * 9)).block, (ad506.add ((x7_2).toNat * 9)).off + 2, none⟩ = some (.int .i64 ((rd_T48 l0 x7_2).f1)) ∧ w'.cell? ⟨(ad506.add ((x7_2).toNat * 9)).block, (ad506.add ((x7_2).toNat * 9)).off + 3, none⟩ = some (.int .i64 ((rd_T48 l0 x7_2).f2)) ∧ w'.cell? ⟨(ad506.add ((x7_2).toNat * 9)).block, (ad506.add ((x7_2).toNat * 9)).off + 4, none⟩ = some (.int .i64 ((rd_T48 l0 x7_2).f3)) ∧ w'.cell? ⟨(ad506.add ((x7_2).toNat * 9)).block, (ad506.add ((x7_2).toNat * 9)).off + 5, none⟩ = some (.int .i64 ((rd_T48 l0 x7_2).f4)) ∧ w'.cell? ⟨(ad506.add ((x7_2).toNat * 9)).block, (ad506.add ((x7_2).toNat * 9)).off + 6, none⟩ = some (.int .i64 ((rd_T48 l0 x7_2).f5)) ∧ w'.cell? ⟨(ad506.add ((x7_2).toNat * 9)).block, (ad506.add ((x7_2).toNat * 9)).off + 7, none⟩ = some (.int .i64 ((rd_T48 l0 x7_2).f6)) ∧ w'.cell? ⟨(ad506.add ((x7_2).toNat * 9)).block, (ad506.add ((x7_2).toNat * 9)).off + 8, none⟩ = some (.int .i64 ((rd_T48 l0 x7_2).f7))) (ds := []) #[F, F, F, F, F, F, F, F, F, F, F, F, F, F, F, F, F, F, F, F, F, F, F, F, F, F, F, F, F, F, F, F, F, F, F, F, F, F, F, F, F, F, F, F, F, F, F, F, F, F, F, F, F, F, F, F, F, F, F, F, F, F, F, F] (by kernel_rfl) rfl rfl ⟨(Qah BK505.out 0).trans rfl, (Qah BK505.out 1).trans rfl, (Qah BK505.out 2).trans rfl, (Qah BK505.out 3).trans rfl, (Qah BK505.out 4).trans rfl, ((HB.out.cell (World.block_lt_of_cell? w _ hw506_0)).trans hw506_0), ((HB.out.cell (World.block_lt_of_cell? w _ hw506_1)).trans hw506_1), ((HB.out.cell (World.block_lt_of_cell? w _ hw506_2)).trans hw506_2), ((HB.out.cell (World.block_lt_of_cell? w _ hw506_3)).trans hw506_3), ((HB.out.cell (World.block_lt_of_cell? w _ hw506_4)).trans hw506_4), ((HB.out.cell (World.block_lt_of_cell? w _ hw506_5)).trans hw506_5), ((HB.out.cell (World.block_lt_of_cell? w _ hw506_6)).trans hw506_6), ((HB.out.cell (World.block_lt_of_cell? w _ hw506_7)).trans hw506_7), ((HB.out.cell (World.block_lt_of_cell? w _ hw506_8)).trans hw506_8), ((HB.out.cell (World.block_lt_of_cell? w _ hw507_0)).trans hw507_0), ((HB.out.cell (World.block_lt_of_cell? w _ hw507_1)).trans hw507_1), ((HB.out.cell (World.block_lt_of_cell? w _ hw507_2)).trans hw507_2), ((HB.out.cell (World.block_lt_of_cell? w _ hw507_3)).trans hw507_3), ((HB.out.cell (World.block_lt_of_cell? w _ hw507_4)).trans hw507_4), ((HB.out.cell (World.block_lt_of_cell? w _ hw507_5)).trans hw507_5), ((HB.out.cell (World.block_lt_of_cell? w _ hw507_6)).trans hw507_6), ((HB.out.cell (World.block_lt_of_cell? w _ hw507_7)).trans hw507_7), ((HB.out.cell (World.block_lt_of_cell? w _ hw507_8)).trans hw507_8)⟩ (fun hHeld => ?_); refine Qbt contangolaw34_CoverGaps.tab17 contangolaw34_CoverGaps.bits17 (fun HT_ HW_ => ?_)
                 generalize w39.drew = w40 at HO_5 BK494 BK505 HB hx506_0 hx506_1 hx506_2 hx506_3 hx506_4 hx506_5 hx506_6 hx506_7 hx506_8 hx507_0 hx507_1 hx507_2 hx507_3 hx507_4 hx507_5 hx507_6 hx507_7 hx507_8 hHeld ⊢
                 refine pure_ (i := 0) (N := some 77) (v := ?_) (a' := ?_) #[T, F, F, F, F, F, F, F, F, F, F, F, F, F, F, F, F, F, F, F, F, F, F, F, F, F, F, F, F, F, F, F, F, F, F, F, F, F, F, F, F, F, F, F, F, F, F, F, F, F, F, F, F, F, F, F, F, F, F, F, F, F, F, F] rfl rfl (any_of HT_.out (by kernel_rfl)) (fun _ _ _ h => h) (Or.inl ⟨by rfl, ?_⟩) ?_ ?_
                 rotate_left
                 ·intro w'
                  go_simp
                  with_reducible rfl
                 rotate_left
                 ·simp only [Act.put, Zj, Zk, Zm, i64_w, i32_w]
                  rfl
                 refine pure_ (i := 2) (N := some 79) (v := ?_) (a' := ?_) #[T, F, T, F, F, F, F, F, F, F, F, F, F, F, F, F, F, F, F, F, F, F, F, F, F, F, F, F, F, F, F, F, F, F, F, F, F, F, F, F, F, F, F, F, F, F, F, F, F, F, F, F, F, F, F, F, F, F, F, F, F, F, F, F] rfl rfl (any_of HT_.out (by kernel_rfl)) (fun _ _ _ h => h) (Or.inl ⟨by rfl, ?_⟩) ?_ ?_
                 rotate_left
                 ·intro w'
                  go_simp
                  with_reducible rfl
                 rotate_left
                 ·simp only [Act.put, Zj, Zk, Zm, i64_w, i32_w]
                  rfl
                 refine pure_ (i := 3) (N := some 80) (v := ?_) (a' := ?_) #[T, F, T, T, F, F, F, F, F, F, F, F, F, F, F, F, F, F, F, F, F, F, F, F, F, F, F, F, F, F, F, F, F, F, F, F, F, F, F, F, F, F, F, F, F, F, F, F, F, F, F, F, F, F, F, F, F, F, F, F, F, F, F, F] rfl rfl (any_of HT_.out (by kernel_rfl)) (fun _ _ _ h => h) (Or.inl ⟨by rfl, ?_⟩) ?_ ?_
                 rotate_left
                 ·intro w'
                  go_simp
                  with_reducible rfl
                 rotate_left
                 ·simp only [Act.put, Zj, Zk, Zm, i64_w, i32_w]
                  rfl
                 refine pure_ (i := 4) (N := some 81) (v := ?_) (a' := ?_) #[T, F, T, T, T, F, F, F, F, F, F, F, F, F, F, F, F, F, F, F, F, F, F, F, F, F, F, F, F, F, F, F, F, F, F, F, F, F, F, F, F, F, F, F, F, F, F, F, F, F, F, F, F, F, F, F, F, F, F, F, F, F, F, F] rfl rfl (any_of HT_.out (by kernel_rfl)) (fun _ _ _ h => h) (Or.inl ⟨by rfl, ?_⟩) ?_ ?_
                 rotate_left
                 ·intro w'
                  go_simp
                  with_reducible rfl
                 rotate_left
                 ·simp only [Act.put, Zj, Zk, Zm, i64_w, i32_w]
                  rfl
                 refine pure_ (i := 5) (N := some 82) (v := ?_) (a' := ?_) #[T, F, T, T, T, T, F, F, F, F, F, F, F, F, F, F, F, F, F, F, F, F, F, F, F, F, F, F, F, F, F, F, F, F, F, F, F, F, F, F, F, F, F, F, F, F, F, F, F, F, F, F, F, F, F, F, F, F, F, F, F, F, F, F] rfl rfl (any_of HT_.out (by kernel_rfl)) (fun _ _ _ h => h) (Or.inl ⟨by rfl, ?_⟩) ?_ ?_
                 rotate_left
                 ·intro w'
                  go_simp
                  with_reducible rfl
                 rotate_left
                 ·simp only [Act.put, Zj, Zk, Zm, i64_w, i32_w]
                  rfl
                 refine take_ (i := 1) (N := some 78) (v := ?_) (a' := ?_) #[T, T, T, T, T, T, F, F, F, F, F, F, F, F, F, F, F, F, F, F, F, F, F, F, F, F, F, F, F, F, F, F, F, F, F, F, F, F, F, F, F, F, F, F, F, F, F, F, F, F, F, F, F, F, F, F, F, F, F, F, F, F, F, F] rfl rfl (QaF HT_.out HW_.out (by kernel_rfl)) (fun _ _ _ h => h) (Or.inl ⟨by rfl, ?_⟩) hHeld ?_ ?_
                 rotate_left
                 ·rintro w' ⟨s0, s1, s2, s3, s4, s5, s6, s7, s8, s9, s10, s11, s12, s13, s14, s15, s16, s17, s18, s19, s20, s21, s22⟩
                  go_simp
                  with_reducible rfl
                 rotate_left
                 ·simp only [Act.put, Zj, Zk, Zm, i64_w, i32_w]
                  rfl
                 refine take_ (i := 6) (N := some 83) (v := ?_) (a' := ?_) #[T, T, T, T, T, T, T, F, F, F, F, F, F, F, F, F, F, F, F, F, F, F, F, F, F, F, F, F, F, F, F, F, F, F, F, F, F, F, F, F, F, F, F, F, F, F, F, F, F, F, F, F, F, F, F, F, F, F, F, F, F, F, F, F] rfl rfl (QaF HT_.out HW_.out (by kernel_rfl)) (fun _ _ _ h => h) (Or.inl ⟨by rfl, ?_⟩) hHeld ?_ ?_
                 rotate_left
                 ·rintro w' ⟨s0, s1, s2, s3, s4, s5, s6, s7, s8, s9, s10, s11, s12, s13, s14, s15, s16, s17, s18, s19, s20, s21, s22⟩
                  go_simp
                  with_reducible rfl
                 rotate_left
                 ·simp only [Act.put, Zj, Zk, Zm, i64_w, i32_w]
                  rfl
                 refine pure_ (i := 7) (N := some 84) (v := ?_) (a' := ?_) #[T, T, T, T, T, T, T, T, F, F, F, F, F, F, F, F, F, F, F, F, F, F, F, F, F, F, F, F, F, F, F, F, F, F, F, F, F, F, F, F, F, F, F, F, F, F, F, F, F, F, F, F, F, F, F, F, F, F, F, F, F, F, F, F] rfl rfl (any_of HT_.out (by kernel_rfl)) (fun _ _ _ h => h) (Or.inl ⟨by rfl, ?_⟩) ?_ ?_
                 rotate_left
                 ·intro w'
                  go_simp
                  with_reducible rfl
                 rotate_left
                 ·simp only [Act.put, Zj, Zk, Zm, i64_w, i32_w]
                  rfl
                 refine pure_ (i := 8) (N := some 85) (v := ?_) (a' := ?_) #[T, T, T, T, T, T, T, T, T, F, F, F, F, F, F, F, F, F, F, F, F, F, F, F, F, F, F, F, F, F, F, F, F, F, F, F, F, F, F, F, F, F, F, F, F, F, F, F, F, F, F, F, F, F, F, F, F, F, F, F, F, F, F, F] rfl rfl (any_of HT_.out (by kernel_rfl)) (fun _ _ _ h => h) (Or.inl ⟨by rfl, ?_⟩) ?_ ?_
                 rotate_left
                 ·intro w'
                  go_simp
                  with_reducible rfl
                 rotate_left
                 ·simp only [Act.put, Zj, Zk, Zm, i64_w, i32_w]
                  rfl
                 refine pure_ (i := 9) (N := some 86) (v := ?_) (a' := ?_) #[T, T, T, T, T, T, T, T, T, T, F, F, F, F, F, F, F, F, F, F, F, F, F, F, F, F, F, F, F, F, F, F, F, F, F, F, F, F, F, F, F, F, F, F, F, F, F, F, F, F, F, F, F, F, F, F, F, F, F, F, F, F, F, F] rfl rfl (any_of HT_.out (by kernel_rfl)) (fun _ _ _ h => h) (Or.inl ⟨by rfl, ?_⟩) ?_ ?_
                 rotate_left
                 ·intro w'
                  go_simp
                  with_reducible rfl
                 rotate_left
                 ·simp only [Act.put, Zj, Zk, Zm, i64_w, i32_w]
                  rfl
                 refine pure_ (i := 11) (N := some 88) (v := ?_) (a' := ?_) #[T, T, T, T, T, T, T, T, T, T, F, T, F, F, F, F, F, F, F, F, F, F, F, F, F, F, F, F, F, F, F, F, F, F, F, F, F, F, F, F, F, F, F, F, F, F, F, F, F, F, F, F, F, F, F, F, F, F, F, F, F, F, F, F] rfl rfl (any_of HT_.out (by kernel_rfl)) (fun _ _ _ h => h) (Or.inl ⟨by rfl, ?_⟩) ?_ ?_
                 rotate_left
                 ·intro w'
                  go_simp
                  with_reducible rfl
                 rotate_left
                 ·simp only [Act.put, Zj, Zk, Zm, i64_w, i32_w]
                  rfl
                 refine pure_ (i := 12) (N := some 89) (v := ?_) (a' := ?_) #[T, T, T, T, T, T, T, T, T, T, F, T, T, F, F, F, F, F, F, F, F, F, F, F, F, F, F, F, F, F, F, F, F, F, F, F, F, F, F, F, F, F, F, F, F, F, F, F, F, F, F, F, F, F, F, F, F, F, F, F, F, F, F, F] rfl rfl (any_of HT_.out (by kernel_rfl)) (fun _ _ _ h => h) (Or.inl ⟨by rfl, ?_⟩) ?_ ?_
                 rotate_left
                 ·intro w'
                  go_simp
                  with_reducible rfl
                 rotate_left
                 ·simp only [Act.put, Zj, Zk, Zm, i64_w, i32_w]
                  rfl
                 refine pure_ (i := 13) (N := some 90) (v := ?_) (a' := ?_) #[T, T, T, T, T, T, T, T, T, T, F, T, T, T, F, F, F, F, F, F, F, F, F, F, F, F, F, F, F, F, F, F, F, F, F, F, F, F, F, F, F, F, F, F, F, F, F, F, F, F, F, F, F, F, F, F, F, F, F, F, F, F, F, F] rfl rfl (any_of HT_.out (by kernel_rfl)) (fun _ _ _ h => h) (Or.inl ⟨by rfl, ?_⟩) ?_ ?_
                 rotate_left
                 ·intro w'
                  go_simp
                  with_reducible rfl
                 rotate_left
                 ·simp only [Act.put, Zj, Zk, Zm, i64_w, i32_w]
                  rfl
                 refine pure_ (i := 14) (N := some 91) (v := ?_) (a' := ?_) #[T, T, T, T, T, T, T, T, T, T, F, T, T, T, T, F, F, F, F, F, F, F, F, F, F, F, F, F, F, F, F, F, F, F, F, F, F, F, F, F, F, F, F, F, F, F, F, F, F, F, F, F, F, F, F, F, F, F, F, F, F, F, F, F] rfl rfl (any_of HT_.out (by kernel_rfl)) (fun _ _ _ h => h) (Or.inl ⟨by rfl, ?_⟩) ?_ ?_
                 rotate_left
                 ·intro w'
                  go_simp
                  with_reducible rfl
                 rotate_left
                 ·simp only [Act.put, Zj, Zk, Zm, i64_w, i32_w]
                  rfl
                 refine take_ (i := 10) (N := some 87) (v := ?_) (a' := ?_) #[T, T, T, T, T, T, T, T, T, T, T, T, T, T, T, F, F, F, F, F, F, F, F, F, F, F, F, F, F, F, F, F, F, F, F, F, F, F, F, F, F, F, F, F, F, F, F, F, F, F, F, F, F, F, F, F, F, F, F, F, F, F, F, F] rfl rfl (QaF HT_.out HW_.out (by kernel_rfl)) (fun _ _ _ h => h) (Or.inl ⟨by rfl, ?_⟩) hHeld ?_ ?_
                 rotate_left
                 ·rintro w' ⟨s0, s1, s2, s3, s4, s5, s6, s7, s8, s9, s10, s11, s12, s13, s14, s15, s16, s17, s18, s19, s20, s21, s22⟩
                  go_simp
                  with_reducible rfl
                 rotate_left
                 ·simp only [Act.put, Zj, Zk, Zm, i64_w, i32_w]
                  rfl
                 refine take_ (i := 15) (N := some 92) (v := ?_) (a' := ?_) #[T, T, T, T, T, T, T, T, T, T, T, T, T, T, T, T, F, F, F, F, F, F, F, F, F, F, F, F, F, F, F, F, F, F, F, F, F, F, F, F, F, F, F, F, F, F, F, F, F, F, F, F, F, F, F, F, F, F, F, F, F, F, F, F] rfl rfl (QaF HT_.out HW_.out (by kernel_rfl)) (fun _ _ _ h => h) (Or.inl ⟨by rfl, ?_⟩) hHeld ?_ ?_
                 rotate_left
                 ·rintro w' ⟨s0, s1, s2, s3, s4, s5, s6, s7, s8, s9, s10, s11, s12, s13, s14, s15, s16, s17, s18, s19, s20, s21, s22⟩
                  go_simp
                  with_reducible rfl
                 rotate_left
                 ·simp only [Act.put, Zj, Zk, Zm, i64_w, i32_w]
                  rfl
                 refine pure_ (i := 16) (N := some 93) (v := ?_) (a' := ?_) #[T, T, T, T, T, T, T, T, T, T, T, T, T, T, T, T, T, F, F, F, F, F, F, F, F, F, F, F, F, F, F, F, F, F, F, F, F, F, F, F, F, F, F, F, F, F, F, F, F, F, F, F, F, F, F, F, F, F, F, F, F, F, F, F] rfl rfl (any_of HT_.out (by kernel_rfl)) (fun _ _ _ h => h) (Or.inl ⟨by rfl, ?_⟩) ?_ ?_
                 rotate_left
                 ·intro w'
                  go_simp
                  with_reducible rfl
                 rotate_left
                 ·simp only [Act.put, Zj, Zk, Zm, i64_w, i32_w]
                  rfl
                 refine pure_ (i := 17) (N := some 94) (v := ?_) (a' := ?_) #[T, T, T, T, T, T, T, T, T, T, T, T, T, T, T, T, T, T, F, F, F, F, F, F, F, F, F, F, F, F, F, F, F, F, F, F, F, F, F, F, F, F, F, F, F, F, F, F, F, F, F, F, F, F, F, F, F, F, F, F, F, F, F, F] rfl rfl (any_of HT_.out (by kernel_rfl)) (fun _ _ _ h => h) (Or.inl ⟨by rfl, ?_⟩) ?_ ?_
                 rotate_left
                 ·intro w'
                  go_simp
                  with_reducible rfl
                 rotate_left
                 ·simp only [Act.put, Zj, Zk, Zm, i64_w, i32_w]
                  rfl
                 refine pure_ (i := 18) (N := some 95) (v := ?_) (a' := ?_) #[T, T, T, T, T, T, T, T, T, T, T, T, T, T, T, T, T, T, T, F, F, F, F, F, F, F, F, F, F, F, F, F, F, F, F, F, F, F, F, F, F, F, F, F, F, F, F, F, F, F, F, F, F, F, F, F, F, F, F, F, F, F, F, F] rfl rfl (any_of HT_.out (by kernel_rfl)) (fun _ _ _ h => h) (Or.inl ⟨by rfl, ?_⟩) ?_ ?_
                 rotate_left
                 ·intro w'
                  go_simp
                  with_reducible rfl
                 rotate_left
                 ·simp only [Act.put, Zj, Zk, Zm, i64_w, i32_w]
                  rfl
                 refine pure_ (i := 19) (N := some 96) (v := ?_) (a' := ?_) #[T, T, T, T, T, T, T, T, T, T, T, T, T, T, T, T, T, T, T, T, F, F, F, F, F, F, F, F, F, F, F, F, F, F, F, F, F, F, F, F, F, F, F, F, F, F, F, F, F, F, F, F, F, F, F, F, F, F, F, F, F, F, F, F] rfl rfl (any_of HT_.out (by kernel_rfl)) (fun _ _ _ h => h) (Or.inl ⟨by rfl, ?_⟩) ?_ ?_
                 rotate_left
                 ·intro w'
                  go_simp
                  with_reducible rfl
                 rotate_left
                 ·simp only [Act.put, Zj, Zk, Zm, i64_w, i32_w]
                  rfl
                 refine take_ (i := 20) (N := some 97) (v := ?_) (a' := ?_) #[T, T, T, T, T, T, T, T, T, T, T, T, T, T, T, T, T, T, T, T, T, F, F, F, F, F, F, F, F, F, F, F, F, F, F, F, F, F, F, F, F, F, F, F, F, F, F, F, F, F, F, F, F, F, F, F, F, F, F, F, F, F, F, F] rfl rfl (QaF HT_.out HW_.out (by kernel_rfl)) (fun _ _ _ h => h) (Or.inl ⟨by rfl, ?_⟩) hHeld ?_ ?_
                 rotate_left
                 ·rintro w' ⟨s0, s1, s2, s3, s4, s5, s6, s7, s8, s9, s10, s11, s12, s13, s14, s15, s16, s17, s18, s19, s20, s21, s22⟩
                  go_simp
                  with_reducible rfl
                 rotate_left
                 ·simp only [Act.put, Zj, Zk, Zm, i64_w, i32_w]
                  rfl
                 refine pure_ (i := 21) (N := some 98) (v := ?_) (a' := ?_) #[T, T, T, T, T, T, T, T, T, T, T, T, T, T, T, T, T, T, T, T, T, T, F, F, F, F, F, F, F, F, F, F, F, F, F, F, F, F, F, F, F, F, F, F, F, F, F, F, F, F, F, F, F, F, F, F, F, F, F, F, F, F, F, F] rfl rfl (any_of HT_.out (by kernel_rfl)) (fun _ _ _ h => h) (Or.inl ⟨by rfl, ?_⟩) ?_ ?_
                 rotate_left
                 ·intro w'
                  go_simp
                  with_reducible rfl
                 rotate_left
                 ·simp only [Act.put, Zj, Zk, Zm, i64_w, i32_w]
                  rfl
                 refine pure_ (i := 22) (N := some 99) (v := ?_) (a' := ?_) #[T, T, T, T, T, T, T, T, T, T, T, T, T, T, T, T, T, T, T, T, T, T, T, F, F, F, F, F, F, F, F, F, F, F, F, F, F, F, F, F, F, F, F, F, F, F, F, F, F, F, F, F, F, F, F, F, F, F, F, F, F, F, F, F] rfl rfl (any_of HT_.out (by kernel_rfl)) (fun _ _ _ h => h) (Or.inl ⟨by rfl, ?_⟩) ?_ ?_
                 rotate_left
                 ·intro w'
                  go_simp
                  with_reducible rfl
                 rotate_left
                 ·simp only [Act.put, Zj, Zk, Zm, i64_w, i32_w]
                  rfl
                 refine pure_ (i := 23) (N := some 100) (v := ?_) (a' := ?_) #[T, T, T, T, T, T, T, T, T, T, T, T, T, T, T, T, T, T, T, T, T, T, T, T, F, F, F, F, F, F, F, F, F, F, F, F, F, F, F, F, F, F, F, F, F, F, F, F, F, F, F, F, F, F, F, F, F, F, F, F, F, F, F, F] rfl rfl (any_of HT_.out (by kernel_rfl)) (fun _ _ _ h => h) (Or.inl ⟨by rfl, ?_⟩) ?_ ?_
                 rotate_left
                 ·intro w'
                  go_simp
                  with_reducible rfl
                 rotate_left
                 ·simp only [Act.put, Zj, Zk, Zm, i64_w, i32_w]
                  rfl
                 refine pure_ (i := 24) (N := some 101) (v := ?_) (a' := ?_) #[T, T, T, T, T, T, T, T, T, T, T, T, T, T, T, T, T, T, T, T, T, T, T, T, T, F, F, F, F, F, F, F, F, F, F, F, F, F, F, F, F, F, F, F, F, F, F, F, F, F, F, F, F, F, F, F, F, F, F, F, F, F, F, F] rfl rfl (any_of HT_.out (by kernel_rfl)) (fun _ _ _ h => h) (Or.inl ⟨by rfl, ?_⟩) ?_ ?_
                 rotate_left
                 ·intro w'
                  go_simp
                  with_reducible rfl
                 rotate_left
                 ·simp only [Act.put, Zj, Zk, Zm, i64_w, i32_w]
                  rfl
                 refine take_ (i := 25) (N := some 102) (v := ?_) (a' := ?_) #[T, T, T, T, T, T, T, T, T, T, T, T, T, T, T, T, T, T, T, T, T, T, T, T, T, T, F, F, F, F, F, F, F, F, F, F, F, F, F, F, F, F, F, F, F, F, F, F, F, F, F, F, F, F, F, F, F, F, F, F, F, F, F, F] rfl rfl (QaF HT_.out HW_.out (by kernel_rfl)) (fun _ _ _ h => h) (Or.inl ⟨by rfl, ?_⟩) hHeld ?_ ?_
                 rotate_left
                 ·rintro w' ⟨s0, s1, s2, s3, s4, s5, s6, s7, s8, s9, s10, s11, s12, s13, s14, s15, s16, s17, s18, s19, s20, s21, s22⟩
                  go_simp
                  with_reducible rfl
                 rotate_left
                 ·simp only [Act.put, Zj, Zk, Zm, i64_w, i32_w]
                  rfl
                 refine pure_ (i := 26) (N := some 103) (v := ?_) (a' := ?_) #[T, T, T, T, T, T, T, T, T, T, T, T, T, T, T, T, T, T, T, T, T, T, T, T, T, T, T, F, F, F, F, F, F, F, F, F, F, F, F, F, F, F, F, F, F, F, F, F, F, F, F, F, F, F, F, F, F, F, F, F, F, F, F, F] rfl rfl (any_of HT_.out (by kernel_rfl)) (fun _ _ _ h => h) (Or.inl ⟨by rfl, ?_⟩) ?_ ?_
                 rotate_left
                 ·intro w'
                  go_simp
                  with_reducible rfl
                 rotate_left
                 ·simp only [Act.put, Zj, Zk, Zm, i64_w, i32_w]
                  rfl
                 refine pure_ (i := 27) (N := some 104) (v := ?_) (a' := ?_) #[T, T, T, T, T, T, T, T, T, T, T, T, T, T, T, T, T, T, T, T, T, T, T, T, T, T, T, T, F, F, F, F, F, F, F, F, F, F, F, F, F, F, F, F, F, F, F, F, F, F, F, F, F, F, F, F, F, F, F, F, F, F, F, F] rfl rfl (any_of HT_.out (by kernel_rfl)) (fun _ _ _ h => h) (Or.inl ⟨by rfl, ?_⟩) ?_ ?_
                 rotate_left
                 ·intro w'
                  go_simp
                  with_reducible rfl
                 rotate_left
                 ·simp only [Act.put, Zj, Zk, Zm, i64_w, i32_w]
                  rfl
                 refine pure_ (i := 28) (N := some 105) (v := ?_) (a' := ?_) #[T, T, T, T, T, T, T, T, T, T, T, T, T, T, T, T, T, T, T, T, T, T, T, T, T, T, T, T, T, F, F, F, F, F, F, F, F, F, F, F, F, F, F, F, F, F, F, F, F, F, F, F, F, F, F, F, F, F, F, F, F, F, F, F] rfl rfl (any_of HT_.out (by kernel_rfl)) (fun _ _ _ h => h) (Or.inl ⟨by rfl, ?_⟩) ?_ ?_
                 rotate_left
                 ·intro w'
                  go_simp
                  with_reducible rfl
                 rotate_left
                 ·simp only [Act.put, Zj, Zk, Zm, i64_w, i32_w]
                  rfl
                 refine pure_ (i := 29) (N := some 106) (v := ?_) (a' := ?_) #[T, T, T, T, T, T, T, T, T, T, T, T, T, T, T, T, T, T, T, T, T, T, T, T, T, T, T, T, T, T, F, F, F, F, F, F, F, F, F, F, F, F, F, F, F, F, F, F, F, F, F, F, F, F, F, F, F, F, F, F, F, F, F, F] rfl rfl (any_of HT_.out (by kernel_rfl)) (fun _ _ _ h => h) (Or.inl ⟨by rfl, ?_⟩) ?_ ?_
                 rotate_left
                 ·intro w'
                  go_simp
                  with_reducible rfl
                 rotate_left
                 ·simp only [Act.put, Zj, Zk, Zm, i64_w, i32_w]
                  rfl
                 refine pure_ (i := 31) (N := some 108) (v := ?_) (a' := ?_) #[T, T, T, T, T, T, T, T, T, T, T, T, T, T, T, T, T, T, T, T, T, T, T, T, T, T, T, T, T, T, F, T, F, F, F, F, F, F, F, F, F, F, F, F, F, F, F, F, F, F, F, F, F, F, F, F, F, F, F, F, F, F, F, F] rfl rfl (any_of HT_.out (by kernel_rfl)) (fun _ _ _ h => h) (Or.inl ⟨by rfl, ?_⟩) ?_ ?_
                 rotate_left
                 ·intro w'
                  go_simp
                  with_reducible rfl
                 rotate_left
                 ·simp only [Act.put, Zj, Zk, Zm, i64_w, i32_w]
                  rfl
                 refine pure_ (i := 34) (N := some 111) (v := ?_) (a' := ?_) #[T, T, T, T, T, T, T, T, T, T, T, T, T, T, T, T, T, T, T, T, T, T, T, T, T, T, T, T, T, T, F, T, F, F, T, F, F, F, F, F, F, F, F, F, F, F, F, F, F, F, F, F, F, F, F, F, F, F, F, F, F, F, F, F] rfl rfl (any_of HT_.out (by kernel_rfl)) (fun _ _ _ h => h) (Or.inl ⟨by rfl, ?_⟩) ?_ ?_
                 rotate_left
                 ·intro w'
                  go_simp
                  with_reducible rfl
                 rotate_left
                 ·simp only [Act.put, Zj, Zk, Zm, i64_w, i32_w]
                  rfl
                 refine take_ (i := 30) (N := some 107) (v := ?_) (a' := ?_) #[T, T, T, T, T, T, T, T, T, T, T, T, T, T, T, T, T, T, T, T, T, T, T, T, T, T, T, T, T, T, T, T, F, F, T, F, F, F, F, F, F, F, F, F, F, F, F, F, F, F, F, F, F, F, F, F, F, F, F, F, F, F, F, F] rfl rfl (QaF HT_.out HW_.out (by kernel_rfl)) (fun _ _ _ h => h) (Or.inl ⟨by rfl, ?_⟩) hHeld ?_ ?_
                 rotate_left
                 ·rintro w' ⟨s0, s1, s2, s3, s4, s5, s6, s7, s8, s9, s10, s11, s12, s13, s14, s15, s16, s17, s18, s19, s20, s21, s22⟩
                  go_simp
                  with_reducible rfl
                 rotate_left
                 ·simp only [Act.put, Zj, Zk, Zm, i64_w, i32_w]
                  rfl
                 refine take_ (i := 32) (N := some 109) (v := ?_) (a' := ?_) #[T, T, T, T, T, T, T, T, T, T, T, T, T, T, T, T, T, T, T, T, T, T, T, T, T, T, T, T, T, T, T, T, T, F, T, F, F, F, F, F, F, F, F, F, F, F, F, F, F, F, F, F, F, F, F, F, F, F, F, F, F, F, F, F] rfl rfl (QaF HT_.out HW_.out (by kernel_rfl)) (fun _ _ _ h => h) (Or.inl ⟨by rfl, ?_⟩) hHeld ?_ ?_
                 rotate_left
                 ·rintro w' ⟨s0, s1, s2, s3, s4, s5, s6, s7, s8, s9, s10, s11, s12, s13, s14, s15, s16, s17, s18, s19, s20, s21, s22⟩
                  go_simp
                  with_reducible rfl
                 rotate_left
                 ·simp only [Act.put, Zj, Zk, Zm, i64_w, i32_w]
                  rfl
                 refine pure_ (i := 33) (N := some 110) (v := ?_) (a' := ?_) #[T, T, T, T, T, T, T, T, T, T, T, T, T, T, T, T, T, T, T, T, T, T, T, T, T, T, T, T, T, T, T, T, T, T, T, F, F, F, F, F, F, F, F, F, F, F, F, F, F, F, F, F, F, F, F, F, F, F, F, F, F, F, F, F] rfl rfl (any_of HT_.out (by kernel_rfl)) (fun _ _ _ h => h) (Or.inl ⟨by rfl, ?_⟩) ?_ ?_
                 rotate_left
                 ·intro w'
                  go_simp
                  with_reducible rfl
                 rotate_left
                 ·simp only [Act.put, Zj, Zk, Zm, i64_w, i32_w]
                  rfl
                 refine take_ (i := 35) (N := some 112) (v := ?_) (a' := ?_) #[T, T, T, T, T, T, T, T, T, T, T, T, T, T, T, T, T, T, T, T, T, T, T, T, T, T, T, T, T, T, T, T, T, T, T, T, F, F, F, F, F, F, F, F, F, F, F, F, F, F, F, F, F, F, F, F, F, F, F, F, F, F, F, F] rfl rfl (QaF HT_.out HW_.out (by kernel_rfl)) (fun _ _ _ h => h) (Or.inl ⟨by rfl, ?_⟩) hHeld ?_ ?_
                 rotate_left
                 ·rintro w' ⟨s0, s1, s2, s3, s4, s5, s6, s7, s8, s9, s10, s11, s12, s13, s14, s15, s16, s17, s18, s19, s20, s21, s22⟩
                  go_simp
                  with_reducible rfl
                 rotate_left
                 ·simp only [Act.put, Zj, Zk, Zm, i64_w, i32_w]
                  rfl
                 refine pure_ (i := 36) (N := some 113) (v := ?_) (a' := ?_) #[T, T, T, T, T, T, T, T, T, T, T, T, T, T, T, T, T, T, T, T, T, T, T, T, T, T, T, T, T, T, T, T, T, T, T, T, T, F, F, F, F, F, F, F, F, F, F, F, F, F, F, F, F, F, F, F, F, F, F, F, F, F, F, F] rfl rfl (any_of HT_.out (by kernel_rfl)) (fun _ _ _ h => h) (Or.inl ⟨by rfl, ?_⟩) ?_ ?_
                 rotate_left
                 ·intro w'
                  go_simp
                  with_reducible rfl
                 rotate_left
                 ·simp only [Act.put, Zj, Zk, Zm, i64_w, i32_w]
                  rfl
                 refine pure_ (i := 37) (N := some 114) (v := ?_) (a' := ?_) #[T, T, T, T, T, T, T, T, T, T, T, T, T, T, T, T, T, T, T, T, T, T, T, T, T, T, T, T, T, T, T, T, T, T, T, T, T, T, F, F, F, F, F, F, F, F, F, F, F, F, F, F, F, F, F, F, F, F, F, F, F, F, F, F] rfl rfl (any_of HT_.out (by kernel_rfl)) (fun _ _ _ h => h) (Or.inl ⟨by rfl, ?_⟩) ?_ ?_
                 rotate_left
                 ·intro w'
                  go_simp
                  with_reducible rfl
                 rotate_left
                 ·simp only [Act.put, Zj, Zk, Zm, i64_w, i32_w]
                  rfl
                 refine pure_ (i := 38) (N := some 115) (v := ?_) (a' := ?_) #[T, T, T, T, T, T, T, T, T, T, T, T, T, T, T, T, T, T, T, T, T, T, T, T, T, T, T, T, T, T, T, T, T, T, T, T, T, T, T, F, F, F, F, F, F, F, F, F, F, F, F, F, F, F, F, F, F, F, F, F, F, F, F, F] rfl rfl (any_of HT_.out (by kernel_rfl)) (fun _ _ _ h => h) (Or.inl ⟨by rfl, ?_⟩) ?_ ?_
                 rotate_left
                 ·intro w'
                  go_simp
                  with_reducible rfl
                 rotate_left
                 ·simp only [Act.put, Zj, Zk, Zm, i64_w, i32_w]
                  rfl
                 refine pure_ (i := 39) (N := some 116) (v := ?_) (a' := ?_) #[T, T, T, T, T, T, T, T, T, T, T, T, T, T, T, T, T, T, T, T, T, T, T, T, T, T, T, T, T, T, T, T, T, T, T, T, T, T, T, T, F, F, F, F, F, F, F, F, F, F, F, F, F, F, F, F, F, F, F, F, F, F, F, F] rfl rfl (any_of HT_.out (by kernel_rfl)) (fun _ _ _ h => h) (Or.inl ⟨by rfl, ?_⟩) ?_ ?_
                 rotate_left
                 ·intro w'
                  go_simp
                  with_reducible rfl
                 rotate_left
                 ·simp only [Act.put, Zj, Zk, Zm, i64_w, i32_w]
                  rfl
                 refine take_ (i := 40) (N := some 117) (v := ?_) (a' := ?_) #[T, T, T, T, T, T, T, T, T, T, T, T, T, T, T, T, T, T, T, T, T, T, T, T, T, T, T, T, T, T, T, T, T, T, T, T, T, T, T, T, T, F, F, F, F, F, F, F, F, F, F, F, F, F, F, F, F, F, F, F, F, F, F, F] rfl rfl (QaF HT_.out HW_.out (by kernel_rfl)) (fun _ _ _ h => h) (Or.inl ⟨by rfl, ?_⟩) hHeld ?_ ?_
                 rotate_left
                 ·rintro w' ⟨s0, s1, s2, s3, s4, s5, s6, s7, s8, s9, s10, s11, s12, s13, s14, s15, s16, s17, s18, s19, s20, s21, s22⟩
                  go_simp
                  with_reducible rfl
                 rotate_left
                 ·simp only [Act.put, Zj, Zk, Zm, i64_w, i32_w]
                  rfl
                 refine pure_ (i := 41) (N := some 118) (v := ?_) (a' := ?_) #[T, T, T, T, T, T, T, T, T, T, T, T, T, T, T, T, T, T, T, T, T, T, T, T, T, T, T, T, T, T, T, T, T, T, T, T, T, T, T, T, T, T, F, F, F, F, F, F, F, F, F, F, F, F, F, F, F, F, F, F, F, F, F, F] rfl rfl (any_of HT_.out (by kernel_rfl)) (fun _ _ _ h => h) (Or.inl ⟨by rfl, ?_⟩) ?_ ?_
                 rotate_left
                 ·intro w'
                  go_simp
                  with_reducible rfl
                 rotate_left
                 ·simp only [Act.put, Zj, Zk, Zm, i64_w, i32_w]
                  rfl
                 refine pure_ (i := 42) (N := some 119) (v := ?_) (a' := ?_) #[T, T, T, T, T, T, T, T, T, T, T, T, T, T, T, T, T, T, T, T, T, T, T, T, T, T, T, T, T, T, T, T, T, T, T, T, T, T, T, T, T, T, T, F, F, F, F, F, F, F, F, F, F, F, F, F, F, F, F, F, F, F, F, F] rfl rfl (any_of HT_.out (by kernel_rfl)) (fun _ _ _ h => h) (Or.inl ⟨by rfl, ?_⟩) ?_ ?_
                 rotate_left
                 ·intro w'
                  go_simp
                  with_reducible rfl
                 rotate_left
                 ·simp only [Act.put, Zj, Zk, Zm, i64_w, i32_w]
                  rfl
                 refine pure_ (i := 43) (N := some 120) (v := ?_) (a' := ?_) #[T, T, T, T, T, T, T, T, T, T, T, T, T, T, T, T, T, T, T, T, T, T, T, T, T, T, T, T, T, T, T, T, T, T, T, T, T, T, T, T, T, T, T, T, F, F, F, F, F, F, F, F, F, F, F, F, F, F, F, F, F, F, F, F] rfl rfl (any_of HT_.out (by kernel_rfl)) (fun _ _ _ h => h) (Or.inl ⟨by rfl, ?_⟩) ?_ ?_
                 rotate_left
                 ·intro w'
                  go_simp
                  with_reducible rfl
                 rotate_left
                 ·simp only [Act.put, Zj, Zk, Zm, i64_w, i32_w]
                  rfl
                 refine pure_ (i := 45) (N := some 122) (v := ?_) (a' := ?_) #[T, T, T, T, T, T, T, T, T, T, T, T, T, T, T, T, T, T, T, T, T, T, T, T, T, T, T, T, T, T, T, T, T, T, T, T, T, T, T, T, T, T, T, T, F, T, F, F, F, F, F, F, F, F, F, F, F, F, F, F, F, F, F, F] rfl rfl (any_of HT_.out (by kernel_rfl)) (fun _ _ _ h => h) (Or.inl ⟨by rfl, ?_⟩) ?_ ?_
                 rotate_left
                 ·intro w'
                  go_simp
                  with_reducible rfl
                 rotate_left
                 ·simp only [Act.put, Zj, Zk, Zm, i64_w, i32_w]
                  rfl
                 refine pure_ (i := 48) (N := some 125) (v := ?_) (a' := ?_) #[T, T, T, T, T, T, T, T, T, T, T, T, T, T, T, T, T, T, T, T, T, T, T, T, T, T, T, T, T, T, T, T, T, T, T, T, T, T, T, T, T, T, T, T, F, T, F, F, T, F, F, F, F, F, F, F, F, F, F, F, F, F, F, F] rfl rfl (any_of HT_.out (by kernel_rfl)) (fun _ _ _ h => h) (Or.inl ⟨by rfl, ?_⟩) ?_ ?_
                 rotate_left
                 ·intro w'
                  go_simp
                  with_reducible rfl
                 rotate_left
                 ·simp only [Act.put, Zj, Zk, Zm, i64_w, i32_w]
                  rfl
                 refine take_ (i := 44) (N := some 121) (v := ?_) (a' := ?_) #[T, T, T, T, T, T, T, T, T, T, T, T, T, T, T, T, T, T, T, T, T, T, T, T, T, T, T, T, T, T, T, T, T, T, T, T, T, T, T, T, T, T, T, T, T, T, F, F, T, F, F, F, F, F, F, F, F, F, F, F, F, F, F, F] rfl rfl (QaF HT_.out HW_.out (by kernel_rfl)) (fun _ _ _ h => h) (Or.inl ⟨by rfl, ?_⟩) hHeld ?_ ?_
                 rotate_left
                 ·rintro w' ⟨s0, s1, s2, s3, s4, s5, s6, s7, s8, s9, s10, s11, s12, s13, s14, s15, s16, s17, s18, s19, s20, s21, s22⟩
                  go_simp
                  with_reducible rfl
                 rotate_left
                 ·simp only [Act.put, Zj, Zk, Zm, i64_w, i32_w]
                  rfl
                 refine take_ (i := 46) (N := some 123) (v := ?_) (a' := ?_) #[T, T, T, T, T, T, T, T, T, T, T, T, T, T, T, T, T, T, T, T, T, T, T, T, T, T, T, T, T, T, T, T, T, T, T, T, T, T, T, T, T, T, T, T, T, T, T, F, T, F, F, F, F, F, F, F, F, F, F, F, F, F, F, F] rfl rfl (QaF HT_.out HW_.out (by kernel_rfl)) (fun _ _ _ h => h) (Or.inl ⟨by rfl, ?_⟩) hHeld ?_ ?_
                 rotate_left
                 ·rintro w' ⟨s0, s1, s2, s3, s4, s5, s6, s7, s8, s9, s10, s11, s12, s13, s14, s15, s16, s17, s18, s19, s20, s21, s22⟩
                  go_simp
                  with_reducible rfl
                 rotate_left
                 ·simp only [Act.put, Zj, Zk, Zm, i64_w, i32_w]
                  rfl
                 refine pure_ (i := 47) (N := some 124) (v := ?_) (a' := ?_) #[T, T, T, T, T, T, T, T, T, T, T, T, T, T, T, T, T, T, T, T, T, T, T, T, T, T, T, T, T, T, T, T, T, T, T, T, T, T, T, T, T, T, T, T, T, T, T, T, T, F, F, F, F, F, F, F, F, F, F, F, F, F, F, F] rfl rfl (any_of HT_.out (by kernel_rfl)) (fun _ _ _ h => h) (Or.inl ⟨by rfl, ?_⟩) ?_ ?_
                 rotate_left
                 ·intro w'
                  go_simp
                  with_reducible rfl
                 rotate_left
                 ·simp only [Act.put, Zj, Zk, Zm, i64_w, i32_w]
                  rfl
                 refine take_ (i := 49) (N := some 126) (v := ?_) (a' := ?_) #[T, T, T, T, T, T, T, T, T, T, T, T, T, T, T, T, T, T, T, T, T, T, T, T, T, T, T, T, T, T, T, T, T, T, T, T, T, T, T, T, T, T, T, T, T, T, T, T, T, T, F, F, F, F, F, F, F, F, F, F, F, F, F, F] rfl rfl (QaF HT_.out HW_.out (by kernel_rfl)) (fun _ _ _ h => h) (Or.inl ⟨by rfl, ?_⟩) hHeld ?_ ?_
                 rotate_left
                 ·rintro w' ⟨s0, s1, s2, s3, s4, s5, s6, s7, s8, s9, s10, s11, s12, s13, s14, s15, s16, s17, s18, s19, s20, s21, s22⟩
                  go_simp
                  with_reducible rfl
                 rotate_left
                 ·simp only [Act.put, Zj, Zk, Zm, i64_w, i32_w]
                  rfl
                 refine pure_ (i := 50) (N := some 127) (v := ?_) (a' := ?_) #[T, T, T, T, T, T, T, T, T, T, T, T, T, T, T, T, T, T, T, T, T, T, T, T, T, T, T, T, T, T, T, T, T, T, T, T, T, T, T, T, T, T, T, T, T, T, T, T, T, T, T, F, F, F, F, F, F, F, F, F, F, F, F, F] rfl rfl (any_of HT_.out (by kernel_rfl)) (fun _ _ _ h => h) (Or.inl ⟨by rfl, ?_⟩) ?_ ?_
                 rotate_left
                 ·intro w'
                  go_simp
                  with_reducible rfl
                 rotate_left
                 ·simp only [Act.put, Zj, Zk, Zm, i64_w, i32_w]
                  rfl
                 refine pure_ (i := 51) (N := some 128) (v := ?_) (a' := ?_) #[T, T, T, T, T, T, T, T, T, T, T, T, T, T, T, T, T, T, T, T, T, T, T, T, T, T, T, T, T, T, T, T, T, T, T, T, T, T, T, T, T, T, T, T, T, T, T, T, T, T, T, T, F, F, F, F, F, F, F, F, F, F, F, F] rfl rfl (any_of HT_.out (by kernel_rfl)) (fun _ _ _ h => h) (Or.inl ⟨by rfl, ?_⟩) ?_ ?_
                 rotate_left
                 ·intro w'
                  go_simp
                  with_reducible rfl
                 rotate_left
                 ·simp only [Act.put, Zj, Zk, Zm, i64_w, i32_w]
                  rfl
                 refine pure_ (i := 52) (N := some 129) (v := ?_) (a' := ?_) #[T, T, T, T, T, T, T, T, T, T, T, T, T, T, T, T, T, T, T, T, T, T, T, T, T, T, T, T, T, T, T, T, T, T, T, T, T, T, T, T, T, T, T, T, T, T, T, T, T, T, T, T, T, F, F, F, F, F, F, F, F, F, F, F] rfl rfl (any_of HT_.out (by kernel_rfl)) (fun _ _ _ h => h) (Or.inl ⟨by rfl, ?_⟩) ?_ ?_
                 rotate_left
                 ·intro w'
                  go_simp
                  with_reducible rfl
                 rotate_left
                 ·simp only [Act.put, Zj, Zk, Zm, i64_w, i32_w]
                  rfl
                 refine pure_ (i := 53) (N := some 130) (v := ?_) (a' := ?_) #[T, T, T, T, T, T, T, T, T, T, T, T, T, T, T, T, T, T, T, T, T, T, T, T, T, T, T, T, T, T, T, T, T, T, T, T, T, T, T, T, T, T, T, T, T, T, T, T, T, T, T, T, T, T, F, F, F, F, F, F, F, F, F, F] rfl rfl (any_of HT_.out (by kernel_rfl)) (fun _ _ _ h => h) (Or.inl ⟨by rfl, ?_⟩) ?_ ?_
                 rotate_left
                 ·intro w'
                  go_simp
                  with_reducible rfl
                 rotate_left
                 ·simp only [Act.put, Zj, Zk, Zm, i64_w, i32_w]
                  rfl
                 refine pure_ (i := 54) (N := some 131) (v := ?_) (a' := ?_) #[T, T, T, T, T, T, T, T, T, T, T, T, T, T, T, T, T, T, T, T, T, T, T, T, T, T, T, T, T, T, T, T, T, T, T, T, T, T, T, T, T, T, T, T, T, T, T, T, T, T, T, T, T, T, T, F, F, F, F, F, F, F, F, F] rfl rfl (any_of HT_.out (by kernel_rfl)) (fun _ _ _ h => h) (Or.inl ⟨by rfl, ?_⟩) ?_ ?_
                 rotate_left
                 ·intro w'
                  go_simp
                  with_reducible rfl
                 rotate_left
                 ·simp only [Act.put, Zj, Zk, Zm, i64_w, i32_w]
                  rfl
                 refine pure_ (i := 55) (N := some 132) (v := ?_) (a' := ?_) #[T, T, T, T, T, T, T, T, T, T, T, T, T, T, T, T, T, T, T, T, T, T, T, T, T, T, T, T, T, T, T, T, T, T, T, T, T, T, T, T, T, T, T, T, T, T, T, T, T, T, T, T, T, T, T, T, F, F, F, F, F, F, F, F] rfl rfl (any_of HT_.out (by kernel_rfl)) (fun _ _ _ h => h) (Or.inl ⟨by rfl, ?_⟩) ?_ ?_
                 rotate_left
                 ·intro w'
                  go_simp
                  with_reducible rfl
                 rotate_left
                 ·simp only [Act.put, Zj, Zk, Zm, i64_w, i32_w]
                  rfl
                 refine pure_ (i := 56) (N := some 133) (v := ?_) (a' := ?_) #[T, T, T, T, T, T, T, T, T, T, T, T, T, T, T, T, T, T, T, T, T, T, T, T, T, T, T, T, T, T, T, T, T, T, T, T, T, T, T, T, T, T, T, T, T, T, T, T, T, T, T, T, T, T, T, T, T, F, F, F, F, F, F, F] rfl rfl (any_of HT_.out (by kernel_rfl)) (fun _ _ _ h => h) (Or.inl ⟨by rfl, ?_⟩) ?_ ?_
                 rotate_left
                 ·intro w'
                  go_simp
                  with_reducible rfl
                 rotate_left
                 ·simp only [Act.put, Zj, Zk, Zm, i64_w, i32_w]
                  rfl
                 refine pure_ (i := 57) (N := some 134) (v := undef) (a' := ?_) #[T, T, T, T, T, T, T, T, T, T, T, T, T, T, T, T, T, T, T, T, T, T, T, T, T, T, T, T, T, T, T, T, T, T, T, T, T, T, T, T, T, T, T, T, T, T, T, T, T, T, T, T, T, T, T, T, T, T, F, F, F, F, F, F] rfl rfl (any_of HT_.out (by kernel_rfl)) (fun _ _ _ h => h) (Or.inr ⟨by rfl, rfl⟩) ?_ ?_
                 rotate_left
                 ·simp only [Act.put, Zj, Zk, Zm, i64_w, i32_w]
                  rfl
                 refine pure_ (i := 58) (N := some 135) (v := undef) (a' := ?_) #[T, T, T, T, T, T, T, T, T, T, T, T, T, T, T, T, T, T, T, T, T, T, T, T, T, T, T, T, T, T, T, T, T, T, T, T, T, T, T, T, T, T, T, T, T, T, T, T, T, T, T, T, T, T, T, T, T, T, T, F, F, F, F, F] rfl rfl (any_of HT_.out (by kernel_rfl)) (fun _ _ _ h => h) (Or.inr ⟨by rfl, rfl⟩) ?_ ?_
                 rotate_left
                 ·simp only [Act.put, Zj, Zk, Zm, i64_w, i32_w]
                  rfl
                 refine pure_ (i := 59) (N := some 136) (v := undef) (a' := ?_) #[T, T, T, T, T, T, T, T, T, T, T, T, T, T, T, T, T, T, T, T, T, T, T, T, T, T, T, T, T, T, T, T, T, T, T, T, T, T, T, T, T, T, T, T, T, T, T, T, T, T, T, T, T, T, T, T, T, T, T, T, F, F, F, F] rfl rfl (any_of HT_.out (by kernel_rfl)) (fun _ _ _ h => h) (Or.inr ⟨by rfl, rfl⟩) ?_ ?_
                 rotate_left
                 ·simp only [Act.put, Zj, Zk, Zm, i64_w, i32_w]
                  rfl
                 refine pure_ (i := 60) (N := some 137) (v := undef) (a' := ?_) #[T, T, T, T, T, T, T, T, T, T, T, T, T, T, T, T, T, T, T, T, T, T, T, T, T, T, T, T, T, T, T, T, T, T, T, T, T, T, T, T, T, T, T, T, T, T, T, T, T, T, T, T, T, T, T, T, T, T, T, T, T, F, F, F] rfl rfl (any_of HT_.out (by kernel_rfl)) (fun _ _ _ h => h) (Or.inr ⟨by rfl, rfl⟩) ?_ ?_
                 rotate_left
                 ·simp only [Act.put, Zj, Zk, Zm, i64_w, i32_w]
                  rfl
                 refine pure_ (i := 61) (N := some 138) (v := undef) (a' := ?_) #[T, T, T, T, T, T, T, T, T, T, T, T, T, T, T, T, T, T, T, T, T, T, T, T, T, T, T, T, T, T, T, T, T, T, T, T, T, T, T, T, T, T, T, T, T, T, T, T, T, T, T, T, T, T, T, T, T, T, T, T, T, T, F, F] rfl rfl (any_of HT_.out (by kernel_rfl)) (fun _ _ _ h => h) (Or.inr ⟨by rfl, rfl⟩) ?_ ?_
                 rotate_left
                 ·simp only [Act.put, Zj, Zk, Zm, i64_w, i32_w]
                  rfl
                 refine pure_ (i := 62) (N := some 139) (v := ?_) (a' := ?_) #[T, T, T, T, T, T, T, T, T, T, T, T, T, T, T, T, T, T, T, T, T, T, T, T, T, T, T, T, T, T, T, T, T, T, T, T, T, T, T, T, T, T, T, T, T, T, T, T, T, T, T, T, T, T, T, T, T, T, T, T, T, T, T, F] rfl rfl (any_of HT_.out (by kernel_rfl)) (fun _ _ _ h => h) (Or.inl ⟨by rfl, ?_⟩) ?_ ?_
                 rotate_left
                 ·intro w'
                  go_simp
                  with_reducible rfl
                 rotate_left
                 ·simp only [Act.put, Zj, Zk, Zm, i64_w, i32_w]
                  rfl
                 refine pure_ (i := 63) (N := some 140) (v := ?_) (a' := ?_) #[T, T, T, T, T, T, T, T, T, T, T, T, T, T, T, T, T, T, T, T, T, T, T, T, T, T, T, T, T, T, T, T, T, T, T, T, T, T, T, T, T, T, T, T, T, T, T, T, T, T, T, T, T, T, T, T, T, T, T, T, T, T, T, T] rfl rfl (any_of HT_.out (by kernel_rfl)) (fun _ _ _ h => h) (Or.inl ⟨by rfl, ?_⟩) ?_ ?_
                 rotate_left
                 ·intro w'
                  go_simp
                  with_reducible rfl
                 rotate_left
                 ·simp only [Act.put, Zj, Zk, Zm, i64_w, i32_w]
                  rfl
                 refine done_ (QbC HT_.out (by kernel_rfl)) ?_
                 try go_wp2
                 go_roundg k3
                 case measure => have := HJ2.out; have := HK2.out; have := HK3.out; omega
                 case rel => exact ⟨(wrap64 (x7_2 + 1)), (Zs), H', ⟨by have := HJ2.out; have := HK2.out; have := HK3.out; omega⟩, ⟨by (with_reducible repeat (first | apply Kd.R_alloc | apply Kd.R_drewN | apply Kd.R_drew)); exact Kd.R_mono HO_5.out (fun _ hk => trivial)⟩, ⟨Zu BK494.out⟩, ⟨Zc2 GE494.out GE505.out⟩⟩
                replace c35 := Bool.eq_false_iff.mpr c35
                subst c35
                have H1 : (if ((rd_T50 t496 x7_2).f3) = ((rd_T50 t496 x7_2).f1) then (contangolaw34_CoverGaps.l0 k3 l0 t496 (wrap64 (x7_2 + 1)) l1_0 l1_1 l1_2) else (none)) = some r := by rw [if_neg (show ¬ (F = T) by decide)] at H; exact H
                clear H
                have H := H1
                clear H1
                have p504 : 0 ≤ (x7_2 : Int) := Ze
                have q504 : x7_2 < (t496.length : Int) := Ze
                obtain ⟨ad504, e504, hx504_0, hx504_1, hx504_2, hx504_3, hx504_4⟩ := at_T50 (Kd.R_reads' HO_5.out).2.2 x7_2 p504 q504
                cases e504
                replace p504 := eq_true p504
                replace q504 := eq_true q504
                try go_wp2_with (first | ((with_reducible refine QaE (N := 10) rfl ?_); (try (refine Qa6 (by rfl) ?_; dsimp only)); refine Zbx (N := 10) (cs := #[.string (⟨#[]⟩ : ByteArray), .string (⟨#[]⟩ : ByteArray), .int .i64 0, .int .i64 0, .int .i64 0]) (t := 50) ?_; intro gb505 hg w41 hbox hb; have BK505 := Aside0.mk (hbox); have GW505 := Aside0.mk (Zt w hg (Zc1 GE494.out)); have GE505 := GW505; have NB494_505 := Aside0.mk (Zn hg BK494.out); have NB505_494 := Aside0.mk NB494_505.out.symm; replace HO_5 := Aside0.mk (Kd.R_below (Kd.R_elderB (Zr HO_5.out) gb505 (Nat.le_of_eq hg.symm)) hb); replace BK494 := Aside0.mk (Zi BK494.out hb); replace HB := Aside0.mk (Qaq (Zc1 GE494.out) hb); clear hb hbox hg; have hnb42 := NB505_494.out; have hnc42 := NB494_505.out; obtain ⟨hcz43_0, hfz43_0⟩ := Zy (v := (.string (⟨#[]⟩ : ByteArray))) BK505.out 0; obtain ⟨hcz43_1, hfz43_1⟩ := Zy (v := (.string (⟨#[]⟩ : ByteArray))) BK505.out 1; obtain ⟨hcz43_2, hfz43_2⟩ := Zy (v := (.int .i64 0)) BK505.out 2; obtain ⟨hcz43_3, hfz43_3⟩ := Zy (v := (.int .i64 0)) BK505.out 3; obtain ⟨hcz43_4, hfz43_4⟩ := Zy (v := (.int .i64 0)) BK505.out 4))
                have n0_ : Aside0 (Kd.R k50 50 (((((w41.setCell ⟨gb505, 0, none⟩ (.string ((rd_T50 t496 x7_2).f0.f0))).setCell ⟨gb505, 1, none⟩ (.string ((rd_T50 t496 x7_2).f0.f1))).setCell ⟨gb505, 2, none⟩ (.int .i64 ((rd_T50 t496 x7_2).f1))).setCell ⟨gb505, 3, none⟩ (.int .i64 ((rd_T50 t496 x7_2).f2))).setCell ⟨gb505, 4, none⟩ (.int .i64 ((rd_T50 t496 x7_2).f3))) w.heap.size (fun k_ => k_ ≠ gb505) (.slice (some ad504) t496.length co14) t496) := ⟨by (with_reducible repeat (first | apply Kd.R_alloc | apply Kd.R_drewN | apply Kd.R_drew)); exact Kd.R_mono (Zf gb505 4 (Zf gb505 3 (Zf gb505 2 (Zf gb505 1 (Zf gb505 0 (Kd.R_mono HO_5.out (fun k_ hk => (⟨hk, hk.2⟩ : _ ∧ k_ ≠ gb505))) (.string ((rd_T50 t496 x7_2).f0.f0))) (.string ((rd_T50 t496 x7_2).f0.f1))) (.int .i64 ((rd_T50 t496 x7_2).f1))) (.int .i64 ((rd_T50 t496 x7_2).f2))) (.int .i64 ((rd_T50 t496 x7_2).f3))) (fun _ hk => hk.1.2)⟩
                have n1_ : Aside0 ((((((w41.setCell ⟨gb505, 0, none⟩ (.string ((rd_T50 t496 x7_2).f0.f0))).setCell ⟨gb505, 1, none⟩ (.string ((rd_T50 t496 x7_2).f0.f1))).setCell ⟨gb505, 2, none⟩ (.int .i64 ((rd_T50 t496 x7_2).f1))).setCell ⟨gb505, 3, none⟩ (.int .i64 ((rd_T50 t496 x7_2).f2))).setCell ⟨gb505, 4, none⟩ (.int .i64 ((rd_T50 t496 x7_2).f3))).heap[gb494]? = some (.cells #[.slice A1_0 l1_0.length c1_0, .slice A1_1 l1_1.length c1_1, .slice A1_2 l1_2.length c1_2] 34 (0, 0))) := ⟨Zg5 BK494.out NB494_505.out NB494_505.out NB494_505.out NB494_505.out NB494_505.out⟩
                have n2_ : Aside0 ((((((w41.setCell ⟨gb505, 0, none⟩ (.string ((rd_T50 t496 x7_2).f0.f0))).setCell ⟨gb505, 1, none⟩ (.string ((rd_T50 t496 x7_2).f0.f1))).setCell ⟨gb505, 2, none⟩ (.int .i64 ((rd_T50 t496 x7_2).f1))).setCell ⟨gb505, 3, none⟩ (.int .i64 ((rd_T50 t496 x7_2).f2))).setCell ⟨gb505, 4, none⟩ (.int .i64 ((rd_T50 t496 x7_2).f3))).heap[gb505]? = some (.cells #[.string ((rd_T50 t496 x7_2).f0.f0), .string ((rd_T50 t496 x7_2).f0.f1), .int .i64 ((rd_T50 t496 x7_2).f1), .int .i64 ((rd_T50 t496 x7_2).f2), .int .i64 ((rd_T50 t496 x7_2).f3)] 50 (0, 0))) := ⟨Zp2 BK505.out⟩
                have n3_ : Aside0 (Below w.heap.size w (((((w41.setCell ⟨gb505, 0, none⟩ (.string ((rd_T50 t496 x7_2).f0.f0))).setCell ⟨gb505, 1, none⟩ (.string ((rd_T50 t496 x7_2).f0.f1))).setCell ⟨gb505, 2, none⟩ (.int .i64 ((rd_T50 t496 x7_2).f1))).setCell ⟨gb505, 3, none⟩ (.int .i64 ((rd_T50 t496 x7_2).f2))).setCell ⟨gb505, 4, none⟩ (.int .i64 ((rd_T50 t496 x7_2).f3)))) := ⟨Zc2 GE494.out GE505.out⟩
                (try clear HO_5)
                (try clear BK494)
                (try clear BK505)
                (try clear HB)
                generalize (((((w41.setCell ⟨gb505, 0, none⟩ (.string ((rd_T50 t496 x7_2).f0.f0))).setCell ⟨gb505, 1, none⟩ (.string ((rd_T50 t496 x7_2).f0.f1))).setCell ⟨gb505, 2, none⟩ (.int .i64 ((rd_T50 t496 x7_2).f1))).setCell ⟨gb505, 3, none⟩ (.int .i64 ((rd_T50 t496 x7_2).f2))).setCell ⟨gb505, 4, none⟩ (.int .i64 ((rd_T50 t496 x7_2).f3))) = w44 at n0_ n1_ n2_ n3_ ⊢
                have HO_5 := n0_
                have BK494 := n1_
                have BK505 := n2_
                have HB := n3_
                clear n0_ n1_ n2_ n3_
                replace HO_5 := Aside0.mk (Kd.R_drew HO_5.out)
                replace BK494 := Aside0.mk (Qac BK494.out)
                replace BK505 := Aside0.mk (Qac BK505.out)
                replace HB := Aside0.mk (Qag HB.out)
                have p506 : 0 ≤ (x7_2 : Int) := Ze
                have q506 : x7_2 < (l0.length : Int) := Ze
                obtain ⟨ad506, e506, hx506_0, hx506_1, hx506_2, hx506_3, hx506_4, hx506_5, hx506_6, hx506_7, hx506_8⟩ := at_T48 HR0.out x7_2 p506 q506
                have hw506_8 := hx506_8
                have hw506_7 := hx506_7
                have hw506_6 := hx506_6
                have hw506_5 := hx506_5
                have hw506_4 := hx506_4
                have hw506_3 := hx506_3
                have hw506_2 := hx506_2
                have hw506_1 := hx506_1
                have hw506_0 := hx506_0
                cases e506
                replace hx506_0 := Zx HB.out hx506_0
                replace hx506_1 := Zx HB.out hx506_1
                replace hx506_2 := Zx HB.out hx506_2
                replace hx506_3 := Zx HB.out hx506_3
                replace hx506_4 := Zx HB.out hx506_4
                replace hx506_5 := Zx HB.out hx506_5
                replace hx506_6 := Zx HB.out hx506_6
                replace hx506_7 := Zx HB.out hx506_7
                replace hx506_8 := Zx HB.out hx506_8
                replace p506 := eq_true p506
                replace q506 := eq_true q506
                have p507 : 0 ≤ (x7_2 : Int) := Ze
                have q507 : x7_2 < (l0.length : Int) := Ze
                obtain ⟨ad507, e507, hx507_0, hx507_1, hx507_2, hx507_3, hx507_4, hx507_5, hx507_6, hx507_7, hx507_8⟩ := at_T48 HR0.out x7_2 p507 q507
                have hw507_8 := hx507_8
                have hw507_7 := hx507_7
                have hw507_6 := hx507_6
                have hw507_5 := hx507_5
                have hw507_4 := hx507_4
                have hw507_3 := hx507_3
                have hw507_2 := hx507_2
                have hw507_1 := hx507_1
                have hw507_0 := hx507_0
                obtain rfl : ad506 = ad507 := (by injection e507)
                replace hx507_0 := Zx HB.out hx507_0
                replace hx507_1 := Zx HB.out hx507_1
                replace hx507_2 := Zx HB.out hx507_2
                replace hx507_3 := Zx HB.out hx507_3
                replace hx507_4 := Zx HB.out hx507_4
                replace hx507_5 := Zx HB.out hx507_5
                replace hx507_6 := Zx HB.out hx507_6
                replace hx507_7 := Zx HB.out hx507_7
                replace hx507_8 := Zx HB.out hx507_8
                replace p507 := eq_true p507
                replace q507 := eq_true q507
                refine start_ (n := 64) (S := fun w' => w'.cell? ⟨gb505, 0, none⟩ = some (.string ((rd_T50 t496 x7_2).f0.f0)) ∧ w'.cell? ⟨gb505, 1, none⟩ = some (.string ((rd_T50 t496 x7_2).f0.f1)) ∧ w'.cell? ⟨gb505, 2, none⟩ = some (.int .i64 ((rd_T50 t496 x7_2).f1)) ∧ w'.cell? ⟨gb505, 3, none⟩ = some (.int .i64 ((rd_T50 t496 x7_2).f2)) ∧ w'.cell? ⟨gb505, 4, none⟩ = some (.int .i64 ((rd_T50 t496 x7_2).f3)) ∧ w'.cell? (ad506.add ((x7_2).toNat * 9)) = some (.string ((rd_T48 l0 x7_2).f0.f0)) ∧ w'.cell? ⟨(ad506.add ((x7_2).toNat * 9)).block, (ad506.add ((x7_2).toNat * 9)).off + 1, none⟩ = some (.string ((rd_T48 l0 x7_2).f0.f1)) ∧ w'.cell? ⟨(ad506.add ((x7_2).toNat * 9)).block, (ad506.add ((x7_2).toNat * 9)).off + 2, none⟩ = some (.int .i64 ((rd_T48 l0 x7_2).f1)) ∧ w'.cell? ⟨(ad506.add ((x7_2).toNat * 9)).block, (ad506.add ((x7_2).toNat * 9)).off + 3, none⟩ = some (.int .i64 ((rd_T48 l0 x7_2).f2)) ∧ w'.cell? ⟨(ad506.add ((x7_2).toNat * 9)).block, (ad506.add ((x7_2).toNat * 9)).off + 4, none⟩ = some (.int .i64 ((rd_T48 l0 x7_2).f3)) ∧ w'.cell? ⟨(ad506.add ((x7_2).toNat * 9)).block, (ad506.add ((x7_2).toNat * 9)).off + 5, none⟩ = some (.int .i64 ((rd_T48 l0 x7_2).f4)) ∧ w'.cell? ⟨(ad506.add ((x7_2).toNat * 9)).block, (ad506.add ((x7_2).toNat * 9)).off + 6, none⟩ = some (.int .i64 ((rd_T48 l0 x7_2).f5)) ∧ w'.cell? ⟨(ad506.add ((x7_2).toNat * 9)).block, (ad506.add ((x7_2).toNat * 9)).off + 7, none⟩ = some (.int .i64 ((rd_T48 l0 x7_2).f6)) ∧ w'.cell? ⟨(ad506.add ((x7_2).toNat * 9)).block, (ad506.add ((x7_2).toNat * 9)).off + 8, none⟩ = some (.int .i64 ((rd_T48 l0 x7_2).f7)) ∧ w'.cell? (ad506.add ((x7_2).toNat * 9)) = some (.string ((rd_T48 l0 x7_2).f0.f0)) ∧ w'.cell? ⟨(ad506.add ((x7_2).toNat * 9)).block, (ad506.add ((x7_2).toNat * 9)).off + 1, none⟩ = some (.string ((rd_T48 l0 x7_2).f0.f1)) ∧ w'.cell? ⟨(ad506.add ((x7_2).toNat * 9)).block, (ad506.add ((x7_2).toNat * 9)).off + 2, none⟩ = some (.int .i64 ((rd_T48 l0 x7_2).f1)) ∧ w'.cell? ⟨(ad506.add ((x7_2).toNat * 9)).block, (ad506.add ((x7_2).toNat * 9)).off + 3, none⟩ = some (.int .i64 ((rd_T48 l0 x7_2).f2)) ∧ w'.cell? ⟨(ad506.add ((x7_2).toNat * 9)).block, (ad506.add ((x7_2).toNat * 9)).off + 4, none⟩ = some (.int .i64 ((rd_T48 l0 x7_2).f3)) ∧ w'.cell? ⟨(ad506.add ((x7_2).toNat * 9)).block, (ad506.add ((x7_2).toNat * 9)).off + 5, none⟩ = some (.int .i64 ((rd_T48 l0 x7_2).f4)) ∧ w'.cell? ⟨(ad506.add ((x7_2).toNat * 9)).block, (ad506.add ((x7_2).toNat * 9)).off + 6, none⟩ = some (.int .i64 ((rd_T48 l0 x7_2).f5)) ∧ w'.cell? ⟨(ad506.add ((x7_2).toNat * 9)).block, (ad506.add ((x7_2).toNat * 9)).off + 7, none⟩ = some (.int .i64 ((rd_T48 l0 x7_2).f6)) ∧ w'.cell? ⟨(ad506.add ((x7_2).toNat * 9)).block, (ad506.add ((x7_2).toNat * 9)).off + 8, none⟩ = some (.int .i64 ((rd_T48 l0 x7_2).f7))) (ds := []) #[F, F, F, F, F, F, F, F, F, F, F, F, F, F, F, F, F, F, F, F, F, F, F, F, F, F, F, F, F, F, F, F, F, F, F, F, F, F, F, F, F, F, F, F, F, F, F, F, F, F, F, F, F, F, F, F, F, F, F, F, F, F, F, F] (by kernel_rfl) rfl rfl ⟨(Qah BK505.out 0).trans rfl, (Qah BK505.out 1).trans rfl, (Qah BK505.out 2).trans rfl, (Qah BK505.out 3).trans rfl, (Qah BK505.out 4).trans rfl, ((HB.out.cell (World.block_lt_of_cell? w _ hw506_0)).trans hw506_0), ((HB.out.cell (World.block_lt_of_cell? w _ hw506_1)).trans hw506_1), ((HB.out.cell (World.block_lt_of_cell? w _ hw506_2)).trans hw506_2), ((HB.out.cell (World.block_lt_of_cell? w _ hw506_3)).trans hw506_3), ((HB.out.cell (World.block_lt_of_cell? w _ hw506_4)).trans hw506_4), ((HB.out.cell (World.block_lt_of_cell? w _ hw506_5)).trans hw506_5), ((HB.out.cell (World.block_lt_of_cell? w _ hw506_6)).trans hw506_6), ((HB.out.cell (World.block_lt_of_cell? w _ hw506_7)).trans hw506_7), ((HB.out.cell (World.block_lt_of_cell? w _ hw506_8)).trans hw506_8), ((HB.out.cell (World.block_lt_of_cell? w _ hw507_0)).trans hw507_0), ((HB.out.cell (World.block_lt_of_cell? w _ hw507_1)).trans hw507_1), ((HB.out.cell (World.block_lt_of_cell? w _ hw507_2)).trans hw507_2), ((HB.out.cell (World.block_lt_of_cell? w _ hw507_3)).trans hw507_3), ((HB.out.cell (World.block_lt_of_cell? w _ hw507_4)).trans hw507_4), ((HB.out.cell (World.block_lt_of_cell? w _ hw507_5)).trans hw507_5), ((HB.out.cell (World.block_lt_of_cell? w _ hw507_6)).trans hw507_6), ((HB.out.cell (World.block_lt_of_cell? w _ hw507_7)).trans hw507_7), ((HB.out.cell (World.block_lt_of_cell? w _ hw507_8)).trans hw507_8)⟩ (fun hHeld => ?_); refine Qbt contangolaw34_CoverGaps.tab17 contangolaw34_CoverGaps.bits17 (fun HT_ HW_ => ?_)
                generalize w44.drew = w45 at HO_5 BK494 BK505 HB hx506_0 hx506_1 hx506_2 hx506_3 hx506_4 hx506_5 hx506_6 hx506_7 hx506_8 hx507_0 hx507_1 hx507_2 hx507_3 hx507_4 hx507_5 hx507_6 hx507_7 hx507_8 hHeld ⊢
                refine pure_ (i := 0) (N := some 77) (v := ?_) (a' := ?_) #[T, F, F, F, F, F, F, F, F, F, F, F, F, F, F, F, F, F, F, F, F, F, F, F, F, F, F, F, F, F, F, F, F, F, F, F, F, F, F, F, F, F, F, F, F, F, F, F, F, F, F, F, F, F, F, F, F, F, F, F, F, F, F, F] rfl rfl (any_of HT_.out (by kernel_rfl)) (fun _ _ _ h => h) (Or.inl ⟨by rfl, ?_⟩) ?_ ?_
                rotate_left
                ·intro w'
                 go_simp
                 with_reducible rfl
                rotate_left
                ·simp only [Act.put, Zj, Zk, Zm, i64_w, i32_w]
                 rfl
                refine pure_ (i := 2) (N := some 79) (v := ?_) (a' := ?_) #[T, F, T, F, F, F, F, F, F, F, F, F, F, F, F, F, F, F, F, F, F, F, F, F, F, F, F, F, F, F, F, F, F, F, F, F, F, F, F, F, F, F, F, F, F, F, F, F, F, F, F, F, F, F, F, F, F, F, F, F, F, F, F, F] rfl rfl (any_of HT_.out (by kernel_rfl)) (fun _ _ _ h => h) (Or.inl ⟨by rfl, ?_⟩) ?_ ?_
                rotate_left
                ·intro w'
                 go_simp
                 with_reducible rfl
                rotate_left
                ·simp only [Act.put, Zj, Zk, Zm, i64_w, i32_w]
                 rfl
                refine pure_ (i := 3) (N := some 80) (v := ?_) (a' := ?_) #[T, F, T, T, F, F, F, F, F, F, F, F, F, F, F, F, F, F, F, F, F, F, F, F, F, F, F, F, F, F, F, F, F, F, F, F, F, F, F, F, F, F, F, F, F, F, F, F, F, F, F, F, F, F, F, F, F, F, F, F, F, F, F, F] rfl rfl (any_of HT_.out (by kernel_rfl)) (fun _ _ _ h => h) (Or.inl ⟨by rfl, ?_⟩) ?_ ?_
                rotate_left
                ·intro w'
                 go_simp
                 with_reducible rfl
                rotate_left
                ·simp only [Act.put, Zj, Zk, Zm, i64_w, i32_w]
                 rfl
                refine pure_ (i := 4) (N := some 81) (v := ?_) (a' := ?_) #[T, F, T, T, T, F, F, F, F, F, F, F, F, F, F, F, F, F, F, F, F, F, F, F, F, F, F, F, F, F, F, F, F, F, F, F, F, F, F, F, F, F, F, F, F, F, F, F, F, F, F, F, F, F, F, F, F, F, F, F, F, F, F, F] rfl rfl (any_of HT_.out (by kernel_rfl)) (fun _ _ _ h => h) (Or.inl ⟨by rfl, ?_⟩) ?_ ?_
                rotate_left
                ·intro w'
                 go_simp
                 with_reducible rfl
                rotate_left
                ·simp only [Act.put, Zj, Zk, Zm, i64_w, i32_w]
                 rfl
                refine pure_ (i := 5) (N := some 82) (v := ?_) (a' := ?_) #[T, F, T, T, T, T, F, F, F, F, F, F, F, F, F, F, F, F, F, F, F, F, F, F, F, F, F, F, F, F, F, F, F, F, F, F, F, F, F, F, F, F, F, F, F, F, F, F, F, F, F, F, F, F, F, F, F, F, F, F, F, F, F, F] rfl rfl (any_of HT_.out (by kernel_rfl)) (fun _ _ _ h => h) (Or.inl ⟨by rfl, ?_⟩) ?_ ?_
                rotate_left
                ·intro w'
                 go_simp
                 with_reducible rfl
                rotate_left
                ·simp only [Act.put, Zj, Zk, Zm, i64_w, i32_w]
                 rfl
                refine take_ (i := 1) (N := some 78) (v := ?_) (a' := ?_) #[T, T, T, T, T, T, F, F, F, F, F, F, F, F, F, F, F, F, F, F, F, F, F, F, F, F, F, F, F, F, F, F, F, F, F, F, F, F, F, F, F, F, F, F, F, F, F, F, F, F, F, F, F, F, F, F, F, F, F, F, F, F, F, F] rfl rfl (QaF HT_.out HW_.out (by kernel_rfl)) (fun _ _ _ h => h) (Or.inl ⟨by rfl, ?_⟩) hHeld ?_ ?_
                rotate_left
                ·rintro w' ⟨s0, s1, s2, s3, s4, s5, s6, s7, s8, s9, s10, s11, s12, s13, s14, s15, s16, s17, s18, s19, s20, s21, s22⟩
                 go_simp
                 with_reducible rfl
                rotate_left
                ·simp only [Act.put, Zj, Zk, Zm, i64_w, i32_w]
                 rfl
                refine take_ (i := 6) (N := some 83) (v := ?_) (a' := ?_) #[T, T, T, T, T, T, T, F, F, F, F, F, F, F, F, F, F, F, F, F, F, F, F, F, F, F, F, F, F, F, F, F, F, F, F, F, F, F, F, F, F, F, F, F, F, F, F, F, F, F, F, F, F, F, F, F, F, F, F, F, F, F, F, F] rfl rfl (QaF HT_.out HW_.out (by kernel_rfl)) (fun _ _ _ h => h) (Or.inl ⟨by rfl, ?_⟩) hHeld ?_ ?_
                rotate_left
                ·rintro w' ⟨s0, s1, s2, s3, s4, s5, s6, s7, s8, s9, s10, s11, s12, s13, s14, s15, s16, s17, s18, s19, s20, s21, s22⟩
                 go_simp
                 with_reducible rfl
                rotate_left
                ·simp only [Act.put, Zj, Zk, Zm, i64_w, i32_w]
                 rfl
                refine pure_ (i := 7) (N := some 84) (v := ?_) (a' := ?_) #[T, T, T, T, T, T, T, T, F, F, F, F, F, F, F, F, F, F, F, F, F, F, F, F, F, F, F, F, F, F, F, F, F, F, F, F, F, F, F, F, F, F, F, F, F, F, F, F, F, F, F, F, F, F, F, F, F, F, F, F, F, F, F, F] rfl rfl (any_of HT_.out (by kernel_rfl)) (fun _ _ _ h => h) (Or.inl ⟨by rfl, ?_⟩) ?_ ?_
                rotate_left
                ·intro w'
                 go_simp
                 with_reducible rfl
                rotate_left
                ·simp only [Act.put, Zj, Zk, Zm, i64_w, i32_w]
                 rfl
                refine pure_ (i := 8) (N := some 85) (v := ?_) (a' := ?_) #[T, T, T, T, T, T, T, T, T, F, F, F, F, F, F, F, F, F, F, F, F, F, F, F, F, F, F, F, F, F, F, F, F, F, F, F, F, F, F, F, F, F, F, F, F, F, F, F, F, F, F, F, F, F, F, F, F, F, F, F, F, F, F, F] rfl rfl (any_of HT_.out (by kernel_rfl)) (fun _ _ _ h => h) (Or.inl ⟨by rfl, ?_⟩) ?_ ?_
                rotate_left
                ·intro w'
                 go_simp
                 with_reducible rfl
                rotate_left
                ·simp only [Act.put, Zj, Zk, Zm, i64_w, i32_w]
                 rfl
                refine pure_ (i := 9) (N := some 86) (v := ?_) (a' := ?_) #[T, T, T, T, T, T, T, T, T, T, F, F, F, F, F, F, F, F, F, F, F, F, F, F, F, F, F, F, F, F, F, F, F, F, F, F, F, F, F, F, F, F, F, F, F, F, F, F, F, F, F, F, F, F, F, F, F, F, F, F, F, F, F, F] rfl rfl (any_of HT_.out (by kernel_rfl)) (fun _ _ _ h => h) (Or.inl ⟨by rfl, ?_⟩) ?_ ?_
                rotate_left
                ·intro w'
                 go_simp
                 with_reducible rfl
                rotate_left
                ·simp only [Act.put, Zj, Zk, Zm, i64_w, i32_w]
                 rfl
                refine pure_ (i := 11) (N := some 88) (v := ?_) (a' := ?_) #[T, T, T, T, T, T, T, T, T, T, F, T, F, F, F, F, F, F, F, F, F, F, F, F, F, F, F, F, F, F, F, F, F, F, F, F, F, F, F, F, F, F, F, F, F, F, F, F, F, F, F, F, F, F, F, F, F, F, F, F, F, F, F, F] rfl rfl (any_of HT_.out (by kernel_rfl)) (fun _ _ _ h => h) (Or.inl ⟨by rfl, ?_⟩) ?_ ?_
                rotate_left
                ·intro w'
                 go_simp
                 with_reducible rfl
                rotate_left
                ·simp only [Act.put, Zj, Zk, Zm, i64_w, i32_w]
                 rfl
                refine pure_ (i := 12) (N := some 89) (v := ?_) (a' := ?_) #[T, T, T, T, T, T, T, T, T, T, F, T, T, F, F, F, F, F, F, F, F, F, F, F, F, F, F, F, F, F, F, F, F, F, F, F, F, F, F, F, F, F, F, F, F, F, F, F, F, F, F, F, F, F, F, F, F, F, F, F, F, F, F, F] rfl rfl (any_of HT_.out (by kernel_rfl)) (fun _ _ _ h => h) (Or.inl ⟨by rfl, ?_⟩) ?_ ?_
                rotate_left
                ·intro w'
                 go_simp
                 with_reducible rfl
                rotate_left
                ·simp only [Act.put, Zj, Zk, Zm, i64_w, i32_w]
                 rfl
                refine pure_ (i := 13) (N := some 90) (v := ?_) (a' := ?_) #[T, T, T, T, T, T, T, T, T, T, F, T, T, T, F, F, F, F, F, F, F, F, F, F, F, F, F, F, F, F, F, F, F, F, F, F, F, F, F, F, F, F, F, F, F, F, F, F, F, F, F, F, F, F, F, F, F, F, F, F, F, F, F, F] rfl rfl (any_of HT_.out (by kernel_rfl)) (fun _ _ _ h => h) (Or.inl ⟨by rfl, ?_⟩) ?_ ?_
                rotate_left
                ·intro w'
                 go_simp
                 with_reducible rfl
                rotate_left
                ·simp only [Act.put, Zj, Zk, Zm, i64_w, i32_w]
                 rfl
                refine pure_ (i := 14) (N := some 91) (v := ?_) (a' := ?_) #[T, T, T, T, T, T, T, T, T, T, F, T, T, T, T, F, F, F, F, F, F, F, F, F, F, F, F, F, F, F, F, F, F, F, F, F, F, F, F, F, F, F, F, F, F, F, F, F, F, F, F, F, F, F, F, F, F, F, F, F, F, F, F, F] rfl rfl (any_of HT_.out (by kernel_rfl)) (fun _ _ _ h => h) (Or.inl ⟨by rfl, ?_⟩) ?_ ?_
                rotate_left
                ·intro w'
                 go_simp
                 with_reducible rfl
                rotate_left
                ·simp only [Act.put, Zj, Zk, Zm, i64_w, i32_w]
                 rfl
                refine take_ (i := 10) (N := some 87) (v := ?_) (a' := ?_) #[T, T, T, T, T, T, T, T, T, T, T, T, T, T, T, F, F, F, F, F, F, F, F, F, F, F, F, F, F, F, F, F, F, F, F, F, F, F, F, F, F, F, F, F, F, F, F, F, F, F, F, F, F, F, F, F, F, F, F, F, F, F, F, F] rfl rfl (QaF HT_.out HW_.out (by kernel_rfl)) (fun _ _ _ h => h) (Or.inl ⟨by rfl, ?_⟩) hHeld ?_ ?_
                rotate_left
                ·rintro w' ⟨s0, s1, s2, s3, s4, s5, s6, s7, s8, s9, s10, s11, s12, s13, s14, s15, s16, s17, s18, s19, s20, s21, s22⟩
                 go_simp
                 with_reducible rfl
                rotate_left
                ·simp only [Act.put, Zj, Zk, Zm, i64_w, i32_w]
                 rfl
                refine take_ (i := 15) (N := some 92) (v := ?_) (a' := ?_) #[T, T, T, T, T, T, T, T, T, T, T, T, T, T, T, T, F, F, F, F, F, F, F, F, F, F, F, F, F, F, F, F, F, F, F, F, F, F, F, F, F, F, F, F, F, F, F, F, F, F, F, F, F, F, F, F, F, F, F, F, F, F, F, F] rfl rfl (QaF HT_.out HW_.out (by kernel_rfl)) (fun _ _ _ h => h) (Or.inl ⟨by rfl, ?_⟩) hHeld ?_ ?_
                rotate_left
                ·rintro w' ⟨s0, s1, s2, s3, s4, s5, s6, s7, s8, s9, s10, s11, s12, s13, s14, s15, s16, s17, s18, s19, s20, s21, s22⟩
                 go_simp
                 with_reducible rfl
                rotate_left
                ·simp only [Act.put, Zj, Zk, Zm, i64_w, i32_w]
                 rfl
                refine pure_ (i := 16) (N := some 93) (v := ?_) (a' := ?_) #[T, T, T, T, T, T, T, T, T, T, T, T, T, T, T, T, T, F, F, F, F, F, F, F, F, F, F, F, F, F, F, F, F, F, F, F, F, F, F, F, F, F, F, F, F, F, F, F, F, F, F, F, F, F, F, F, F, F, F, F, F, F, F, F] rfl rfl (any_of HT_.out (by kernel_rfl)) (fun _ _ _ h => h) (Or.inl ⟨by rfl, ?_⟩) ?_ ?_
                rotate_left
                ·intro w'
                 go_simp
                 with_reducible rfl
                rotate_left
                ·simp only [Act.put, Zj, Zk, Zm, i64_w, i32_w]
                 rfl
                refine pure_ (i := 17) (N := some 94) (v := ?_) (a' := ?_) #[T, T, T, T, T, T, T, T, T, T, T, T, T, T, T, T, T, T, F, F, F, F, F, F, F, F, F, F, F, F, F, F, F, F, F, F, F, F, F, F, F, F, F, F, F, F, F, F, F, F, F, F, F, F, F, F, F, F, F, F, F, F, F, F] rfl rfl (any_of HT_.out (by kernel_rfl)) (fun _ _ _ h => h) (Or.inl ⟨by rfl, ?_⟩) ?_ ?_
                rotate_left
                ·intro w'
                 go_simp
                 with_reducible rfl
                rotate_left
                ·simp only [Act.put, Zj, Zk, Zm, i64_w, i32_w]
                 rfl
                refine pure_ (i := 18) (N := some 95) (v := ?_) (a' := ?_) #[T, T, T, T, T, T, T, T, T, T, T, T, T, T, T, T, T, T, T, F, F, F, F, F, F, F, F, F, F, F, F, F, F, F, F, F, F, F, F, F, F, F, F, F, F, F, F, F, F, F, F, F, F, F, F, F, F, F, F, F, F, F, F, F] rfl rfl (any_of HT_.out (by kernel_rfl)) (fun _ _ _ h => h) (Or.inl ⟨by rfl, ?_⟩) ?_ ?_
                rotate_left
                ·intro w'
                 go_simp
                 with_reducible rfl
                rotate_left
                ·simp only [Act.put, Zj, Zk, Zm, i64_w, i32_w]
                 rfl
                refine pure_ (i := 19) (N := some 96) (v := ?_) (a' := ?_) #[T, T, T, T, T, T, T, T, T, T, T, T, T, T, T, T, T, T, T, T, F, F, F, F, F, F, F, F, F, F, F, F, F, F, F, F, F, F, F, F, F, F, F, F, F, F, F, F, F, F, F, F, F, F, F, F, F, F, F, F, F, F, F, F] rfl rfl (any_of HT_.out (by kernel_rfl)) (fun _ _ _ h => h) (Or.inl ⟨by rfl, ?_⟩) ?_ ?_
                rotate_left
                ·intro w'
                 go_simp
                 with_reducible rfl
                rotate_left
                ·simp only [Act.put, Zj, Zk, Zm, i64_w, i32_w]
                 rfl
                refine take_ (i := 20) (N := some 97) (v := ?_) (a' := ?_) #[T, T, T, T, T, T, T, T, T, T, T, T, T, T, T, T, T, T, T, T, T, F, F, F, F, F, F, F, F, F, F, F, F, F, F, F, F, F, F, F, F, F, F, F, F, F, F, F, F, F, F, F, F, F, F, F, F, F, F, F, F, F, F, F] rfl rfl (QaF HT_.out HW_.out (by kernel_rfl)) (fun _ _ _ h => h) (Or.inl ⟨by rfl, ?_⟩) hHeld ?_ ?_
                rotate_left
                ·rintro w' ⟨s0, s1, s2, s3, s4, s5, s6, s7, s8, s9, s10, s11, s12, s13, s14, s15, s16, s17, s18, s19, s20, s21, s22⟩
                 go_simp
                 with_reducible rfl
                rotate_left
                ·simp only [Act.put, Zj, Zk, Zm, i64_w, i32_w]
                 rfl
                refine pure_ (i := 21) (N := some 98) (v := ?_) (a' := ?_) #[T, T, T, T, T, T, T, T, T, T, T, T, T, T, T, T, T, T, T, T, T, T, F, F, F, F, F, F, F, F, F, F, F, F, F, F, F, F, F, F, F, F, F, F, F, F, F, F, F, F, F, F, F, F, F, F, F, F, F, F, F, F, F, F] rfl rfl (any_of HT_.out (by kernel_rfl)) (fun _ _ _ h => h) (Or.inl ⟨by rfl, ?_⟩) ?_ ?_
                rotate_left
                ·intro w'
                 go_simp
                 with_reducible rfl
                rotate_left
                ·simp only [Act.put, Zj, Zk, Zm, i64_w, i32_w]
                 rfl
                refine pure_ (i := 22) (N := some 99) (v := ?_) (a' := ?_) #[T, T, T, T, T, T, T, T, T, T, T, T, T, T, T, T, T, T, T, T, T, T, T, F, F, F, F, F, F, F, F, F, F, F, F, F, F, F, F, F, F, F, F, F, F, F, F, F, F, F, F, F, F, F, F, F, F, F, F, F, F, F, F, F] rfl rfl (any_of HT_.out (by kernel_rfl)) (fun _ _ _ h => h) (Or.inl ⟨by rfl, ?_⟩) ?_ ?_
                rotate_left
                ·intro w'
                 go_simp
                 with_reducible rfl
                rotate_left
                ·simp only [Act.put, Zj, Zk, Zm, i64_w, i32_w]
                 rfl
                refine pure_ (i := 23) (N := some 100) (v := ?_) (a' := ?_) #[T, T, T, T, T, T, T, T, T, T, T, T, T, T, T, T, T, T, T, T, T, T, T, T, F, F, F, F, F, F, F, F, F, F, F, F, F, F, F, F, F, F, F, F, F, F, F, F, F, F, F, F, F, F, F, F, F, F, F, F, F, F, F, F] rfl rfl (any_of HT_.out (by kernel_rfl)) (fun _ _ _ h => h) (Or.inl ⟨by rfl, ?_⟩) ?_ ?_
                rotate_left
                ·intro w'
                 go_simp
                 with_reducible rfl
                rotate_left
                ·simp only [Act.put, Zj, Zk, Zm, i64_w, i32_w]
                 rfl
                refine pure_ (i := 24) (N := some 101) (v := ?_) (a' := ?_) #[T, T, T, T, T, T, T, T, T, T, T, T, T, T, T, T, T, T, T, T, T, T, T, T, T, F, F, F, F, F, F, F, F, F, F, F, F, F, F, F, F, F, F, F, F, F, F, F, F, F, F, F, F, F, F, F, F, F, F, F, F, F, F, F] rfl rfl (any_of HT_.out (by kernel_rfl)) (fun _ _ _ h => h) (Or.inl ⟨by rfl, ?_⟩) ?_ ?_
                rotate_left
                ·intro w'
                 go_simp
                 with_reducible rfl
                rotate_left
                ·simp only [Act.put, Zj, Zk, Zm, i64_w, i32_w]
                 rfl
                refine take_ (i := 25) (N := some 102) (v := ?_) (a' := ?_) #[T, T, T, T, T, T, T, T, T, T, T, T, T, T, T, T, T, T, T, T, T, T, T, T, T, T, F, F, F, F, F, F, F, F, F, F, F, F, F, F, F, F, F, F, F, F, F, F, F, F, F, F, F, F, F, F, F, F, F, F, F, F, F, F] rfl rfl (QaF HT_.out HW_.out (by kernel_rfl)) (fun _ _ _ h => h) (Or.inl ⟨by rfl, ?_⟩) hHeld ?_ ?_
                rotate_left
                ·rintro w' ⟨s0, s1, s2, s3, s4, s5, s6, s7, s8, s9, s10, s11, s12, s13, s14, s15, s16, s17, s18, s19, s20, s21, s22⟩
                 go_simp
                 with_reducible rfl
                rotate_left
                ·simp only [Act.put, Zj, Zk, Zm, i64_w, i32_w]
                 rfl
                refine pure_ (i := 26) (N := some 103) (v := ?_) (a' := ?_) #[T, T, T, T, T, T, T, T, T, T, T, T, T, T, T, T, T, T, T, T, T, T, T, T, T, T, T, F, F, F, F, F, F, F, F, F, F, F, F, F, F, F, F, F, F, F, F, F, F, F, F, F, F, F, F, F, F, F, F, F, F, F, F, F] rfl rfl (any_of HT_.out (by kernel_rfl)) (fun _ _ _ h => h) (Or.inl ⟨by rfl, ?_⟩) ?_ ?_
                rotate_left
                ·intro w'
                 go_simp
                 with_reducible rfl
                rotate_left
                ·simp only [Act.put, Zj, Zk, Zm, i64_w, i32_w]
                 rfl
                refine pure_ (i := 27) (N := some 104) (v := ?_) (a' := ?_) #[T, T, T, T, T, T, T, T, T, T, T, T, T, T, T, T, T, T, T, T, T, T, T, T, T, T, T, T, F, F, F, F, F, F, F, F, F, F, F, F, F, F, F, F, F, F, F, F, F, F, F, F, F, F, F, F, F, F, F, F, F, F, F, F] rfl rfl (any_of HT_.out (by kernel_rfl)) (fun _ _ _ h => h) (Or.inl ⟨by rfl, ?_⟩) ?_ ?_
                rotate_left
                ·intro w'
                 go_simp
                 with_reducible rfl
                rotate_left
                ·simp only [Act.put, Zj, Zk, Zm, i64_w, i32_w]
                 rfl
                refine pure_ (i := 28) (N := some 105) (v := ?_) (a' := ?_) #[T, T, T, T, T, T, T, T, T, T, T, T, T, T, T, T, T, T, T, T, T, T, T, T, T, T, T, T, T, F, F, F, F, F, F, F, F, F, F, F, F, F, F, F, F, F, F, F, F, F, F, F, F, F, F, F, F, F, F, F, F, F, F, F] rfl rfl (any_of HT_.out (by kernel_rfl)) (fun _ _ _ h => h) (Or.inl ⟨by rfl, ?_⟩) ?_ ?_
                rotate_left
                ·intro w'
                 go_simp
                 with_reducible rfl
                rotate_left
                ·simp only [Act.put, Zj, Zk, Zm, i64_w, i32_w]
                 rfl
                refine pure_ (i := 29) (N := some 106) (v := ?_) (a' := ?_) #[T, T, T, T, T, T, T, T, T, T, T, T, T, T, T, T, T, T, T, T, T, T, T, T, T, T, T, T, T, T, F, F, F, F, F, F, F, F, F, F, F, F, F, F, F, F, F, F, F, F, F, F, F, F, F, F, F, F, F, F, F, F, F, F] rfl rfl (any_of HT_.out (by kernel_rfl)) (fun _ _ _ h => h) (Or.inl ⟨by rfl, ?_⟩) ?_ ?_
                rotate_left
                ·intro w'
                 go_simp
                 with_reducible rfl
                rotate_left
                ·simp only [Act.put, Zj, Zk, Zm, i64_w, i32_w]
                 rfl
                refine pure_ (i := 31) (N := some 108) (v := ?_) (a' := ?_) #[T, T, T, T, T, T, T, T, T, T, T, T, T, T, T, T, T, T, T, T, T, T, T, T, T, T, T, T, T, T, F, T, F, F, F, F, F, F, F, F, F, F, F, F, F, F, F, F, F, F, F, F, F, F, F, F, F, F, F, F, F, F, F, F] rfl rfl (any_of HT_.out (by kernel_rfl)) (fun _ _ _ h => h) (Or.inl ⟨by rfl, ?_⟩) ?_ ?_
                rotate_left
                ·intro w'
                 go_simp
                 with_reducible rfl
                rotate_left
                ·simp only [Act.put, Zj, Zk, Zm, i64_w, i32_w]
                 rfl
                refine pure_ (i := 34) (N := some 111) (v := ?_) (a' := ?_) #[T, T, T, T, T, T, T, T, T, T, T, T, T, T, T, T, T, T, T, T, T, T, T, T, T, T, T, T, T, T, F, T, F, F, T, F, F, F, F, F, F, F, F, F, F, F, F, F, F, F, F, F, F, F, F, F, F, F, F, F, F, F, F, F] rfl rfl (any_of HT_.out (by kernel_rfl)) (fun _ _ _ h => h) (Or.inl ⟨by rfl, ?_⟩) ?_ ?_
                rotate_left
                ·intro w'
                 go_simp
                 with_reducible rfl
                rotate_left
                ·simp only [Act.put, Zj, Zk, Zm, i64_w, i32_w]
                 rfl
                refine take_ (i := 30) (N := some 107) (v := ?_) (a' := ?_) #[T, T, T, T, T, T, T, T, T, T, T, T, T, T, T, T, T, T, T, T, T, T, T, T, T, T, T, T, T, T, T, T, F, F, T, F, F, F, F, F, F, F, F, F, F, F, F, F, F, F, F, F, F, F, F, F, F, F, F, F, F, F, F, F] rfl rfl (QaF HT_.out HW_.out (by kernel_rfl)) (fun _ _ _ h => h) (Or.inl ⟨by rfl, ?_⟩) hHeld ?_ ?_
                rotate_left
                ·rintro w' ⟨s0, s1, s2, s3, s4, s5, s6, s7, s8, s9, s10, s11, s12, s13, s14, s15, s16, s17, s18, s19, s20, s21, s22⟩
                 go_simp
                 with_reducible rfl
                rotate_left
                ·simp only [Act.put, Zj, Zk, Zm, i64_w, i32_w]
                 rfl
                refine take_ (i := 32) (N := some 109) (v := ?_) (a' := ?_) #[T, T, T, T, T, T, T, T, T, T, T, T, T, T, T, T, T, T, T, T, T, T, T, T, T, T, T, T, T, T, T, T, T, F, T, F, F, F, F, F, F, F, F, F, F, F, F, F, F, F, F, F, F, F, F, F, F, F, F, F, F, F, F, F] rfl rfl (QaF HT_.out HW_.out (by kernel_rfl)) (fun _ _ _ h => h) (Or.inl ⟨by rfl, ?_⟩) hHeld ?_ ?_
                rotate_left
                ·rintro w' ⟨s0, s1, s2, s3, s4, s5, s6, s7, s8, s9, s10, s11, s12, s13, s14, s15, s16, s17, s18, s19, s20, s21, s22⟩
                 go_simp
                 with_reducible rfl
                rotate_left
                ·simp only [Act.put, Zj, Zk, Zm, i64_w, i32_w]
                 rfl
                refine pure_ (i := 33) (N := some 110) (v := ?_) (a' := ?_) #[T, T, T, T, T, T, T, T, T, T, T, T, T, T, T, T, T, T, T, T, T, T, T, T, T, T, T, T, T, T, T, T, T, T, T, F, F, F, F, F, F, F, F, F, F, F, F, F, F, F, F, F, F, F, F, F, F, F, F, F, F, F, F, F] rfl rfl (any_of HT_.out (by kernel_rfl)) (fun _ _ _ h => h) (Or.inl ⟨by rfl, ?_⟩) ?_ ?_
                rotate_left
                ·intro w'
                 go_simp
                 with_reducible rfl
                rotate_left
                ·simp only [Act.put, Zj, Zk, Zm, i64_w, i32_w]
                 rfl
                refine take_ (i := 35) (N := some 112) (v := ?_) (a' := ?_) #[T, T, T, T, T, T, T, T, T, T, T, T, T, T, T, T, T, T, T, T, T, T, T, T, T, T, T, T, T, T, T, T, T, T, T, T, F, F, F, F, F, F, F, F, F, F, F, F, F, F, F, F, F, F, F, F, F, F, F, F, F, F, F, F] rfl rfl (QaF HT_.out HW_.out (by kernel_rfl)) (fun _ _ _ h => h) (Or.inl ⟨by rfl, ?_⟩) hHeld ?_ ?_
                rotate_left
                ·rintro w' ⟨s0, s1, s2, s3, s4, s5, s6, s7, s8, s9, s10, s11, s12, s13, s14, s15, s16, s17, s18, s19, s20, s21, s22⟩
                 go_simp
                 with_reducible rfl
                rotate_left
                ·simp only [Act.put, Zj, Zk, Zm, i64_w, i32_w]
                 rfl
                refine pure_ (i := 36) (N := some 113) (v := ?_) (a' := ?_) #[T, T, T, T, T, T, T, T, T, T, T, T, T, T, T, T, T, T, T, T, T, T, T, T, T, T, T, T, T, T, T, T, T, T, T, T, T, F, F, F, F, F, F, F, F, F, F, F, F, F, F, F, F, F, F, F, F, F, F, F, F, F, F, F] rfl rfl (any_of HT_.out (by kernel_rfl)) (fun _ _ _ h => h) (Or.inl ⟨by rfl, ?_⟩) ?_ ?_
                rotate_left
                ·intro w'
                 go_simp
                 with_reducible rfl
                rotate_left
                ·simp only [Act.put, Zj, Zk, Zm, i64_w, i32_w]
                 rfl
                refine pure_ (i := 37) (N := some 114) (v := ?_) (a' := ?_) #[T, T, T, T, T, T, T, T, T, T, T, T, T, T, T, T, T, T, T, T, T, T, T, T, T, T, T, T, T, T, T, T, T, T, T, T, T, T, F, F, F, F, F, F, F, F, F, F, F, F, F, F, F, F, F, F, F, F, F, F, F, F, F, F] rfl rfl (any_of HT_.out (by kernel_rfl)) (fun _ _ _ h => h) (Or.inl ⟨by rfl, ?_⟩) ?_ ?_
                rotate_left
                ·intro w'
                 go_simp
                 with_reducible rfl
                rotate_left
                ·simp only [Act.put, Zj, Zk, Zm, i64_w, i32_w]
                 rfl
                refine pure_ (i := 38) (N := some 115) (v := ?_) (a' := ?_) #[T, T, T, T, T, T, T, T, T, T, T, T, T, T, T, T, T, T, T, T, T, T, T, T, T, T, T, T, T, T, T, T, T, T, T, T, T, T, T, F, F, F, F, F, F, F, F, F, F, F, F, F, F, F, F, F, F, F, F, F, F, F, F, F] rfl rfl (any_of HT_.out (by kernel_rfl)) (fun _ _ _ h => h) (Or.inl ⟨by rfl, ?_⟩) ?_ ?_
                rotate_left
                ·intro w'
                 go_simp
                 with_reducible rfl
                rotate_left
                ·simp only [Act.put, Zj, Zk, Zm, i64_w, i32_w]
                 rfl
                refine pure_ (i := 39) (N := some 116) (v := ?_) (a' := ?_) #[T, T, T, T, T, T, T, T, T, T, T, T, T, T, T, T, T, T, T, T, T, T, T, T, T, T, T, T, T, T, T, T, T, T, T, T, T, T, T, T, F, F, F, F, F, F, F, F, F, F, F, F, F, F, F, F, F, F, F, F, F, F, F, F] rfl rfl (any_of HT_.out (by kernel_rfl)) (fun _ _ _ h => h) (Or.inl ⟨by rfl, ?_⟩) ?_ ?_
                rotate_left
                ·intro w'
                 go_simp
                 with_reducible rfl
                rotate_left
                ·simp only [Act.put, Zj, Zk, Zm, i64_w, i32_w]
                 rfl
                refine take_ (i := 40) (N := some 117) (v := ?_) (a' := ?_) #[T, T, T, T, T, T, T, T, T, T, T, T, T, T, T, T, T, T, T, T, T, T, T, T, T, T, T, T, T, T, T, T, T, T, T, T, T, T, T, T, T, F, F, F, F, F, F, F, F, F, F, F, F, F, F, F, F, F, F, F, F, F, F, F] rfl rfl (QaF HT_.out HW_.out (by kernel_rfl)) (fun _ _ _ h => h) (Or.inl ⟨by rfl, ?_⟩) hHeld ?_ ?_
                rotate_left
                ·rintro w' ⟨s0, s1, s2, s3, s4, s5, s6, s7, s8, s9, s10, s11, s12, s13, s14, s15, s16, s17, s18, s19, s20, s21, s22⟩
                 go_simp
                 with_reducible rfl
                rotate_left
                ·simp only [Act.put, Zj, Zk, Zm, i64_w, i32_w]
                 rfl
                refine pure_ (i := 41) (N := some 118) (v := ?_) (a' := ?_) #[T, T, T, T, T, T, T, T, T, T, T, T, T, T, T, T, T, T, T, T, T, T, T, T, T, T, T, T, T, T, T, T, T, T, T, T, T, T, T, T, T, T, F, F, F, F, F, F, F, F, F, F, F, F, F, F, F, F, F, F, F, F, F, F] rfl rfl (any_of HT_.out (by kernel_rfl)) (fun _ _ _ h => h) (Or.inl ⟨by rfl, ?_⟩) ?_ ?_
                rotate_left
                ·intro w'
                 go_simp
                 with_reducible rfl
                rotate_left
                ·simp only [Act.put, Zj, Zk, Zm, i64_w, i32_w]
                 rfl
                refine pure_ (i := 42) (N := some 119) (v := ?_) (a' := ?_) #[T, T, T, T, T, T, T, T, T, T, T, T, T, T, T, T, T, T, T, T, T, T, T, T, T, T, T, T, T, T, T, T, T, T, T, T, T, T, T, T, T, T, T, F, F, F, F, F, F, F, F, F, F, F, F, F, F, F, F, F, F, F, F, F] rfl rfl (any_of HT_.out (by kernel_rfl)) (fun _ _ _ h => h) (Or.inl ⟨by rfl, ?_⟩) ?_ ?_
                rotate_left
                ·intro w'
                 go_simp
                 with_reducible rfl
                rotate_left
                ·simp only [Act.put, Zj, Zk, Zm, i64_w, i32_w]
                 rfl
                refine pure_ (i := 43) (N := some 120) (v := ?_) (a' := ?_) #[T, T, T, T, T, T, T, T, T, T, T, T, T, T, T, T, T, T, T, T, T, T, T, T, T, T, T, T, T, T, T, T, T, T, T, T, T, T, T, T, T, T, T, T, F, F, F, F, F, F, F, F, F, F, F, F, F, F, F, F, F, F, F, F] rfl rfl (any_of HT_.out (by kernel_rfl)) (fun _ _ _ h => h) (Or.inl ⟨by rfl, ?_⟩) ?_ ?_
                rotate_left
                ·intro w'
                 go_simp
                 with_reducible rfl
                rotate_left
                ·simp only [Act.put, Zj, Zk, Zm, i64_w, i32_w]
                 rfl
                refine pure_ (i := 45) (N := some 122) (v := ?_) (a' := ?_) #[T, T, T, T, T, T, T, T, T, T, T, T, T, T, T, T, T, T, T, T, T, T, T, T, T, T, T, T, T, T, T, T, T, T, T, T, T, T, T, T, T, T, T, T, F, T, F, F, F, F, F, F, F, F, F, F, F, F, F, F, F, F, F, F] rfl rfl (any_of HT_.out (by kernel_rfl)) (fun _ _ _ h => h) (Or.inl ⟨by rfl, ?_⟩) ?_ ?_
                rotate_left
                ·intro w'
                 go_simp
                 with_reducible rfl
                rotate_left
                ·simp only [Act.put, Zj, Zk, Zm, i64_w, i32_w]
                 rfl
                refine pure_ (i := 48) (N := some 125) (v := ?_) (a' := ?_) #[T, T, T, T, T, T, T, T, T, T, T, T, T, T, T, T, T, T, T, T, T, T, T, T, T, T, T, T, T, T, T, T, T, T, T, T, T, T, T, T, T, T, T, T, F, T, F, F, T, F, F, F, F, F, F, F, F, F, F, F, F, F, F, F] rfl rfl (any_of HT_.out (by kernel_rfl)) (fun _ _ _ h => h) (Or.inl ⟨by rfl, ?_⟩) ?_ ?_
                rotate_left
                ·intro w'
                 go_simp
                 with_reducible rfl
                rotate_left
                ·simp only [Act.put, Zj, Zk, Zm, i64_w, i32_w]
                 rfl
                refine take_ (i := 44) (N := some 121) (v := ?_) (a' := ?_) #[T, T, T, T, T, T, T, T, T, T, T, T, T, T, T, T, T, T, T, T, T, T, T, T, T, T, T, T, T, T, T, T, T, T, T, T, T, T, T, T, T, T, T, T, T, T, F, F, T, F, F, F, F, F, F, F, F, F, F, F, F, F, F, F] rfl rfl (QaF HT_.out HW_.out (by kernel_rfl)) (fun _ _ _ h => h) (Or.inl ⟨by rfl, ?_⟩) hHeld ?_ ?_
                rotate_left
                ·rintro w' ⟨s0, s1, s2, s3, s4, s5, s6, s7, s8, s9, s10, s11, s12, s13, s14, s15, s16, s17, s18, s19, s20, s21, s22⟩
                 go_simp
                 with_reducible rfl
                rotate_left
                ·simp only [Act.put, Zj, Zk, Zm, i64_w, i32_w]
                 rfl
                refine take_ (i := 46) (N := some 123) (v := ?_) (a' := ?_) #[T, T, T, T, T, T, T, T, T, T, T, T, T, T, T, T, T, T, T, T, T, T, T, T, T, T, T, T, T, T, T, T, T, T, T, T, T, T, T, T, T, T, T, T, T, T, T, F, T, F, F, F, F, F, F, F, F, F, F, F, F, F, F, F] rfl rfl (QaF HT_.out HW_.out (by kernel_rfl)) (fun _ _ _ h => h) (Or.inl ⟨by rfl, ?_⟩) hHeld ?_ ?_
                rotate_left
                ·rintro w' ⟨s0, s1, s2, s3, s4, s5, s6, s7, s8, s9, s10, s11, s12, s13, s14, s15, s16, s17, s18, s19, s20, s21, s22⟩
                 go_simp
                 with_reducible rfl
                rotate_left
                ·simp only [Act.put, Zj, Zk, Zm, i64_w, i32_w]
                 rfl
                refine pure_ (i := 47) (N := some 124) (v := ?_) (a' := ?_) #[T, T, T, T, T, T, T, T, T, T, T, T, T, T, T, T, T, T, T, T, T, T, T, T, T, T, T, T, T, T, T, T, T, T, T, T, T, T, T, T, T, T, T, T, T, T, T, T, T, F, F, F, F, F, F, F, F, F, F, F, F, F, F, F] rfl rfl (any_of HT_.out (by kernel_rfl)) (fun _ _ _ h => h) (Or.inl ⟨by rfl, ?_⟩) ?_ ?_
                rotate_left
                ·intro w'
                 go_simp
                 with_reducible rfl
                rotate_left
                ·simp only [Act.put, Zj, Zk, Zm, i64_w, i32_w]
                 rfl
                refine take_ (i := 49) (N := some 126) (v := ?_) (a' := ?_) #[T, T, T, T, T, T, T, T, T, T, T, T, T, T, T, T, T, T, T, T, T, T, T, T, T, T, T, T, T, T, T, T, T, T, T, T, T, T, T, T, T, T, T, T, T, T, T, T, T, T, F, F, F, F, F, F, F, F, F, F, F, F, F, F] rfl rfl (QaF HT_.out HW_.out (by kernel_rfl)) (fun _ _ _ h => h) (Or.inl ⟨by rfl, ?_⟩) hHeld ?_ ?_
                rotate_left
                ·rintro w' ⟨s0, s1, s2, s3, s4, s5, s6, s7, s8, s9, s10, s11, s12, s13, s14, s15, s16, s17, s18, s19, s20, s21, s22⟩
                 go_simp
                 with_reducible rfl
                rotate_left
                ·simp only [Act.put, Zj, Zk, Zm, i64_w, i32_w]
                 rfl
                refine pure_ (i := 50) (N := some 127) (v := ?_) (a' := ?_) #[T, T, T, T, T, T, T, T, T, T, T, T, T, T, T, T, T, T, T, T, T, T, T, T, T, T, T, T, T, T, T, T, T, T, T, T, T, T, T, T, T, T, T, T, T, T, T, T, T, T, T, F, F, F, F, F, F, F, F, F, F, F, F, F] rfl rfl (any_of HT_.out (by kernel_rfl)) (fun _ _ _ h => h) (Or.inl ⟨by rfl, ?_⟩) ?_ ?_
                rotate_left
                ·intro w'
                 go_simp
                 with_reducible rfl
                rotate_left
                ·simp only [Act.put, Zj, Zk, Zm, i64_w, i32_w]
                 rfl
                refine pure_ (i := 51) (N := some 128) (v := ?_) (a' := ?_) #[T, T, T, T, T, T, T, T, T, T, T, T, T, T, T, T, T, T, T, T, T, T, T, T, T, T, T, T, T, T, T, T, T, T, T, T, T, T, T, T, T, T, T, T, T, T, T, T, T, T, T, T, F, F, F, F, F, F, F, F, F, F, F, F] rfl rfl (any_of HT_.out (by kernel_rfl)) (fun _ _ _ h => h) (Or.inl ⟨by rfl, ?_⟩) ?_ ?_
                rotate_left
                ·intro w'
                 go_simp
                 with_reducible rfl
                rotate_left
                ·simp only [Act.put, Zj, Zk, Zm, i64_w, i32_w]
                 rfl
                refine pure_ (i := 52) (N := some 129) (v := ?_) (a' := ?_) #[T, T, T, T, T, T, T, T, T, T, T, T, T, T, T, T, T, T, T, T, T, T, T, T, T, T, T, T, T, T, T, T, T, T, T, T, T, T, T, T, T, T, T, T, T, T, T, T, T, T, T, T, T, F, F, F, F, F, F, F, F, F, F, F] rfl rfl (any_of HT_.out (by kernel_rfl)) (fun _ _ _ h => h) (Or.inl ⟨by rfl, ?_⟩) ?_ ?_
                rotate_left
                ·intro w'
                 go_simp
                 with_reducible rfl
                rotate_left
                ·simp only [Act.put, Zj, Zk, Zm, i64_w, i32_w]
                 rfl
                refine pure_ (i := 53) (N := some 130) (v := ?_) (a' := ?_) #[T, T, T, T, T, T, T, T, T, T, T, T, T, T, T, T, T, T, T, T, T, T, T, T, T, T, T, T, T, T, T, T, T, T, T, T, T, T, T, T, T, T, T, T, T, T, T, T, T, T, T, T, T, T, F, F, F, F, F, F, F, F, F, F] rfl rfl (any_of HT_.out (by kernel_rfl)) (fun _ _ _ h => h) (Or.inl ⟨by rfl, ?_⟩) ?_ ?_
                rotate_left
                ·intro w'
                 go_simp
                 with_reducible rfl
                rotate_left
                ·simp only [Act.put, Zj, Zk, Zm, i64_w, i32_w]
                 rfl
                refine pure_ (i := 54) (N := some 131) (v := ?_) (a' := ?_) #[T, T, T, T, T, T, T, T, T, T, T, T, T, T, T, T, T, T, T, T, T, T, T, T, T, T, T, T, T, T, T, T, T, T, T, T, T, T, T, T, T, T, T, T, T, T, T, T, T, T, T, T, T, T, T, F, F, F, F, F, F, F, F, F] rfl rfl (any_of HT_.out (by kernel_rfl)) (fun _ _ _ h => h) (Or.inl ⟨by rfl, ?_⟩) ?_ ?_
                rotate_left
                ·intro w'
                 go_simp
                 with_reducible rfl
                rotate_left
                ·simp only [Act.put, Zj, Zk, Zm, i64_w, i32_w]
                 rfl
                refine pure_ (i := 55) (N := some 132) (v := ?_) (a' := ?_) #[T, T, T, T, T, T, T, T, T, T, T, T, T, T, T, T, T, T, T, T, T, T, T, T, T, T, T, T, T, T, T, T, T, T, T, T, T, T, T, T, T, T, T, T, T, T, T, T, T, T, T, T, T, T, T, T, F, F, F, F, F, F, F, F] rfl rfl (any_of HT_.out (by kernel_rfl)) (fun _ _ _ h => h) (Or.inl ⟨by rfl, ?_⟩) ?_ ?_
                rotate_left
                ·intro w'
                 go_simp
                 with_reducible rfl
                rotate_left
                ·simp only [Act.put, Zj, Zk, Zm, i64_w, i32_w]
                 rfl
                refine pure_ (i := 56) (N := some 133) (v := ?_) (a' := ?_) #[T, T, T, T, T, T, T, T, T, T, T, T, T, T, T, T, T, T, T, T, T, T, T, T, T, T, T, T, T, T, T, T, T, T, T, T, T, T, T, T, T, T, T, T, T, T, T, T, T, T, T, T, T, T, T, T, T, F, F, F, F, F, F, F] rfl rfl (any_of HT_.out (by kernel_rfl)) (fun _ _ _ h => h) (Or.inl ⟨by rfl, ?_⟩) ?_ ?_
                rotate_left
                ·intro w'
                 go_simp
                 with_reducible rfl
                rotate_left
                ·simp only [Act.put, Zj, Zk, Zm, i64_w, i32_w]
                 rfl
                refine pure_ (i := 57) (N := some 134) (v := ?_) (a' := ?_) #[T, T, T, T, T, T, T, T, T, T, T, T, T, T, T, T, T, T, T, T, T, T, T, T, T, T, T, T, T, T, T, T, T, T, T, T, T, T, T, T, T, T, T, T, T, T, T, T, T, T, T, T, T, T, T, T, T, T, F, F, F, F, F, F] rfl rfl (any_of HT_.out (by kernel_rfl)) (fun _ _ _ h => h) (Or.inl ⟨by rfl, ?_⟩) ?_ ?_
                rotate_left
                ·intro w'
                 go_simp
                 with_reducible rfl
                rotate_left
                ·simp only [Act.put, Zj, Zk, Zm, i64_w, i32_w]
                 rfl
                refine pure_ (i := 59) (N := some 136) (v := ?_) (a' := ?_) #[T, T, T, T, T, T, T, T, T, T, T, T, T, T, T, T, T, T, T, T, T, T, T, T, T, T, T, T, T, T, T, T, T, T, T, T, T, T, T, T, T, T, T, T, T, T, T, T, T, T, T, T, T, T, T, T, T, T, F, T, F, F, F, F] rfl rfl (any_of HT_.out (by kernel_rfl)) (fun _ _ _ h => h) (Or.inl ⟨by rfl, ?_⟩) ?_ ?_
                rotate_left
                ·intro w'
                 go_simp
                 with_reducible rfl
                rotate_left
                ·simp only [Act.put, Zj, Zk, Zm, i64_w, i32_w]
                 rfl
                refine take_ (i := 58) (N := some 135) (v := ?_) (a' := ?_) #[T, T, T, T, T, T, T, T, T, T, T, T, T, T, T, T, T, T, T, T, T, T, T, T, T, T, T, T, T, T, T, T, T, T, T, T, T, T, T, T, T, T, T, T, T, T, T, T, T, T, T, T, T, T, T, T, T, T, T, T, F, F, F, F] rfl rfl (QaF HT_.out HW_.out (by kernel_rfl)) (fun _ _ _ h => h) (Or.inl ⟨by rfl, ?_⟩) hHeld ?_ ?_
                rotate_left
                ·rintro w' ⟨s0, s1, s2, s3, s4, s5, s6, s7, s8, s9, s10, s11, s12, s13, s14, s15, s16, s17, s18, s19, s20, s21, s22⟩
                 go_simp
                 with_reducible rfl
                rotate_left
                ·simp only [Act.put, Zj, Zk, Zm, i64_w, i32_w]
                 rfl
                refine take_ (i := 60) (N := some 137) (v := ?_) (a' := ?_) #[T, T, T, T, T, T, T, T, T, T, T, T, T, T, T, T, T, T, T, T, T, T, T, T, T, T, T, T, T, T, T, T, T, T, T, T, T, T, T, T, T, T, T, T, T, T, T, T, T, T, T, T, T, T, T, T, T, T, T, T, T, F, F, F] rfl rfl (QaF HT_.out HW_.out (by kernel_rfl)) (fun _ _ _ h => h) (Or.inl ⟨by rfl, ?_⟩) hHeld ?_ ?_
                rotate_left
                ·rintro w' ⟨s0, s1, s2, s3, s4, s5, s6, s7, s8, s9, s10, s11, s12, s13, s14, s15, s16, s17, s18, s19, s20, s21, s22⟩
                 go_simp
                 with_reducible rfl
                rotate_left
                ·simp only [Act.put, Zj, Zk, Zm, i64_w, i32_w]
                 rfl
                refine pure_ (i := 61) (N := some 138) (v := ?_) (a' := ?_) #[T, T, T, T, T, T, T, T, T, T, T, T, T, T, T, T, T, T, T, T, T, T, T, T, T, T, T, T, T, T, T, T, T, T, T, T, T, T, T, T, T, T, T, T, T, T, T, T, T, T, T, T, T, T, T, T, T, T, T, T, T, T, F, F] rfl rfl (any_of HT_.out (by kernel_rfl)) (fun _ _ _ h => h) (Or.inl ⟨by rfl, ?_⟩) ?_ ?_
                rotate_left
                ·intro w'
                 go_simp
                 with_reducible rfl
                rotate_left
                ·simp only [Act.put, Zj, Zk, Zm, i64_w, i32_w]
                 rfl
                refine pure_ (i := 62) (N := some 139) (v := ?_) (a' := ?_) #[T, T, T, T, T, T, T, T, T, T, T, T, T, T, T, T, T, T, T, T, T, T, T, T, T, T, T, T, T, T, T, T, T, T, T, T, T, T, T, T, T, T, T, T, T, T, T, T, T, T, T, T, T, T, T, T, T, T, T, T, T, T, T, F] rfl rfl (any_of HT_.out (by kernel_rfl)) (fun _ _ _ h => h) (Or.inl ⟨by rfl, ?_⟩) ?_ ?_
                rotate_left
                ·intro w'
                 go_simp
                 with_reducible rfl
                rotate_left
                ·simp only [Act.put, Zj, Zk, Zm, i64_w, i32_w]
                 rfl
                refine pure_ (i := 63) (N := some 140) (v := ?_) (a' := ?_) #[T, T, T, T, T, T, T, T, T, T, T, T, T, T, T, T, T, T, T, T, T, T, T, T, T, T, T, T, T, T, T, T, T, T, T, T, T, T, T, T, T, T, T, T, T, T, T, T, T, T, T, T, T, T, T, T, T, T, T, T, T, T, T, T] rfl rfl (any_of HT_.out (by kernel_rfl)) (fun _ _ _ h => h) (Or.inl ⟨by rfl, ?_⟩) ?_ ?_
                rotate_left
                ·intro w'
                 go_simp
                 with_reducible rfl
                rotate_left
                ·simp only [Act.put, Zj, Zk, Zm, i64_w, i32_w]
                 rfl
                refine done_ (QbC HT_.out (by kernel_rfl)) ?_
                go_upto_if 140 with (fail)
                by_cases c46 : ((rd_T50 t496 x7_2).f3) = ((rd_T50 t496 x7_2).f1)
                ·rw [if_pos c46] at H
                 have c46b0 : (((rd_T50 t496 x7_2).f3) == ((rd_T50 t496 x7_2).f1)) = T := beq_iff_eq.mpr c46
                 have c46b1 : (((rd_T50 t496 x7_2).f3) != ((rd_T50 t496 x7_2).f1)) = F := bne_eq_false_iff_eq.mpr c46
                 clear c46
                 (try simp only [c46b0, c46b1])
                 have H' := Aside0.mk H
                 clear H
                 go_wp2
                 go_roundg k3
                 case measure => have := HJ2.out; have := HK2.out; have := HK3.out; omega
                 case rel => exact ⟨(wrap64 (x7_2 + 1)), (Zs), H', ⟨by have := HJ2.out; have := HK2.out; have := HK3.out; omega⟩, ⟨by (with_reducible repeat (first | apply Kd.R_alloc | apply Kd.R_drewN | apply Kd.R_drew)); exact Kd.R_mono HO_5.out (fun _ hk => trivial)⟩, ⟨Zu BK494.out⟩, ⟨Zc2 GE494.out GE505.out⟩⟩
                rw [if_neg c46] at H
                exact absurd H (by simp)
               rw [if_neg c34] at H
               have c34b0 : ((wrap64 (((rd_T50 t496 x7_2).f3) + ((rd_T50 t496 x7_2).f2))) == ((rd_T50 t496 x7_2).f1)) = F := beq_eq_false_iff_ne.mpr c34
               have c34b1 : ((wrap64 (((rd_T50 t496 x7_2).f3) + ((rd_T50 t496 x7_2).f2))) != ((rd_T50 t496 x7_2).f1)) = T := bne_iff_ne.mpr c34
               exact absurd H (by simp)
              rw [if_neg c33] at H
              have c33b0 : decide (0 < ((rd_T50 t496 x7_2).f3)) = F := decide_eq_false c33
              clear c33
              by_cases c47 : x8_3 = T
              ·subst c47
               have H1 : (contangolaw34_CoverGaps.l0 k3 l0 t496 (wrap64 (x7_2 + 1)) l1_0 l1_1 l1_2) = some r := by rw [if_pos rfl] at H; exact H
               clear H
               have H := H1
               clear H1
               have H' := Aside0.mk H
               clear H
               have p504 : 0 ≤ (x7_2 : Int) := Ze
               have q504 : x7_2 < (t496.length : Int) := Ze
               obtain ⟨ad504, e504, hx504_0, hx504_1, hx504_2, hx504_3, hx504_4⟩ := at_T50 (Kd.R_reads' HO_5.out).2.2 x7_2 p504 q504
               cases e504
               replace p504 := eq_true p504
               replace q504 := eq_true q504
               try go_wp2_with (first | ((with_reducible refine QaE (N := 10) rfl ?_); (try (refine Qa6 (by rfl) ?_; dsimp only)); refine Zbx (N := 10) (cs := #[.string (⟨#[]⟩ : ByteArray), .string (⟨#[]⟩ : ByteArray), .int .i64 0, .int .i64 0, .int .i64 0]) (t := 50) ?_; intro gb505 hg w48 hbox hb; have BK505 := Aside0.mk (hbox); have GW505 := Aside0.mk (Zt w hg (Zc1 GE494.out)); have GE505 := GW505; have NB494_505 := Aside0.mk (Zn hg BK494.out); have NB505_494 := Aside0.mk NB494_505.out.symm; replace HO_5 := Aside0.mk (Kd.R_below (Kd.R_elderB (Zr HO_5.out) gb505 (Nat.le_of_eq hg.symm)) hb); replace BK494 := Aside0.mk (Zi BK494.out hb); replace HB := Aside0.mk (Qaq (Zc1 GE494.out) hb); clear hb hbox hg; have hnb49 := NB505_494.out; have hnc49 := NB494_505.out; obtain ⟨hcz50_0, hfz50_0⟩ := Zy (v := (.string (⟨#[]⟩ : ByteArray))) BK505.out 0; obtain ⟨hcz50_1, hfz50_1⟩ := Zy (v := (.string (⟨#[]⟩ : ByteArray))) BK505.out 1; obtain ⟨hcz50_2, hfz50_2⟩ := Zy (v := (.int .i64 0)) BK505.out 2; obtain ⟨hcz50_3, hfz50_3⟩ := Zy (v := (.int .i64 0)) BK505.out 3; obtain ⟨hcz50_4, hfz50_4⟩ := Zy (v := (.int .i64 0)) BK505.out 4))
               have n0_ : Aside0 (Kd.R k50 50 (((((w48.setCell ⟨gb505, 0, none⟩ (.string ((rd_T50 t496 x7_2).f0.f0))).setCell ⟨gb505, 1, none⟩ (.string ((rd_T50 t496 x7_2).f0.f1))).setCell ⟨gb505, 2, none⟩ (.int .i64 ((rd_T50 t496 x7_2).f1))).setCell ⟨gb505, 3, none⟩ (.int .i64 ((rd_T50 t496 x7_2).f2))).setCell ⟨gb505, 4, none⟩ (.int .i64 ((rd_T50 t496 x7_2).f3))) w.heap.size (fun k_ => k_ ≠ gb505) (.slice (some ad504) t496.length co14) t496) := ⟨by (with_reducible repeat (first | apply Kd.R_alloc | apply Kd.R_drewN | apply Kd.R_drew)); exact Kd.R_mono (Zf gb505 4 (Zf gb505 3 (Zf gb505 2 (Zf gb505 1 (Zf gb505 0 (Kd.R_mono HO_5.out (fun k_ hk => (⟨hk, hk.2⟩ : _ ∧ k_ ≠ gb505))) (.string ((rd_T50 t496 x7_2).f0.f0))) (.string ((rd_T50 t496 x7_2).f0.f1))) (.int .i64 ((rd_T50 t496 x7_2).f1))) (.int .i64 ((rd_T50 t496 x7_2).f2))) (.int .i64 ((rd_T50 t496 x7_2).f3))) (fun _ hk => hk.1.2)⟩
               have n1_ : Aside0 ((((((w48.setCell ⟨gb505, 0, none⟩ (.string ((rd_T50 t496 x7_2).f0.f0))).setCell ⟨gb505, 1, none⟩ (.string ((rd_T50 t496 x7_2).f0.f1))).setCell ⟨gb505, 2, none⟩ (.int .i64 ((rd_T50 t496 x7_2).f1))).setCell ⟨gb505, 3, none⟩ (.int .i64 ((rd_T50 t496 x7_2).f2))).setCell ⟨gb505, 4, none⟩ (.int .i64 ((rd_T50 t496 x7_2).f3))).heap[gb494]? = some (.cells #[.slice A1_0 l1_0.length c1_0, .slice A1_1 l1_1.length c1_1, .slice A1_2 l1_2.length c1_2] 34 (0, 0))) := ⟨Zg5 BK494.out NB494_505.out NB494_505.out NB494_505.out NB494_505.out NB494_505.out⟩
               have n2_ : Aside0 ((((((w48.setCell ⟨gb505, 0, none⟩ (.string ((rd_T50 t496 x7_2).f0.f0))).setCell ⟨gb505, 1, none⟩ (.string ((rd_T50 t496 x7_2).f0.f1))).setCell ⟨gb505, 2, none⟩ (.int .i64 ((rd_T50 t496 x7_2).f1))).setCell ⟨gb505, 3, none⟩ (.int .i64 ((rd_T50 t496 x7_2).f2))).setCell ⟨gb505, 4, none⟩ (.int .i64 ((rd_T50 t496 x7_2).f3))).heap[gb505]? = some (.cells #[.string ((rd_T50 t496 x7_2).f0.f0), .string ((rd_T50 t496 x7_2).f0.f1), .int .i64 ((rd_T50 t496 x7_2).f1), .int .i64 ((rd_T50 t496 x7_2).f2), .int .i64 ((rd_T50 t496 x7_2).f3)] 50 (0, 0))) := ⟨Zp2 BK505.out⟩
               have n3_ : Aside0 (Below w.heap.size w (((((w48.setCell ⟨gb505, 0, none⟩ (.string ((rd_T50 t496 x7_2).f0.f0))).setCell ⟨gb505, 1, none⟩ (.string ((rd_T50 t496 x7_2).f0.f1))).setCell ⟨gb505, 2, none⟩ (.int .i64 ((rd_T50 t496 x7_2).f1))).setCell ⟨gb505, 3, none⟩ (.int .i64 ((rd_T50 t496 x7_2).f2))).setCell ⟨gb505, 4, none⟩ (.int .i64 ((rd_T50 t496 x7_2).f3)))) := ⟨Zc2 GE494.out GE505.out⟩
               (try clear HO_5)
               (try clear BK494)
               (try clear BK505)
               (try clear HB)
               generalize (((((w48.setCell ⟨gb505, 0, none⟩ (.string ((rd_T50 t496 x7_2).f0.f0))).setCell ⟨gb505, 1, none⟩ (.string ((rd_T50 t496 x7_2).f0.f1))).setCell ⟨gb505, 2, none⟩ (.int .i64 ((rd_T50 t496 x7_2).f1))).setCell ⟨gb505, 3, none⟩ (.int .i64 ((rd_T50 t496 x7_2).f2))).setCell ⟨gb505, 4, none⟩ (.int .i64 ((rd_T50 t496 x7_2).f3))) = w51 at n0_ n1_ n2_ n3_ ⊢
               have HO_5 := n0_
               have BK494 := n1_
               have BK505 := n2_
               have HB := n3_
               clear n0_ n1_ n2_ n3_
               replace HO_5 := Aside0.mk (Kd.R_drew HO_5.out)
               replace BK494 := Aside0.mk (Qac BK494.out)
               replace BK505 := Aside0.mk (Qac BK505.out)
               replace HB := Aside0.mk (Qag HB.out)
               have p506 : 0 ≤ (x7_2 : Int) := Ze
               have q506 : x7_2 < (l0.length : Int) := Ze
               obtain ⟨ad506, e506, hx506_0, hx506_1, hx506_2, hx506_3, hx506_4, hx506_5, hx506_6, hx506_7, hx506_8⟩ := at_T48 HR0.out x7_2 p506 q506
               have hw506_8 := hx506_8
               have hw506_7 := hx506_7
               have hw506_6 := hx506_6
               have hw506_5 := hx506_5
               have hw506_4 := hx506_4
               have hw506_3 := hx506_3
               have hw506_2 := hx506_2
               have hw506_1 := hx506_1
               have hw506_0 := hx506_0
               cases e506
               replace hx506_0 := Zx HB.out hx506_0
               replace hx506_1 := Zx HB.out hx506_1
               replace hx506_2 := Zx HB.out hx506_2
               replace hx506_3 := Zx HB.out hx506_3
               replace hx506_4 := Zx HB.out hx506_4
               replace hx506_5 := Zx HB.out hx506_5
               replace hx506_6 := Zx HB.out hx506_6
               replace hx506_7 := Zx HB.out hx506_7
               replace hx506_8 := Zx HB.out hx506_8
               replace p506 := eq_true p506
               replace q506 := eq_true q506
               have p507 : 0 ≤ (x7_2 : Int) := Ze
               have q507 : x7_2 < (l0.length : Int) := Ze
               obtain ⟨ad507, e507, hx507_0, hx507_1, hx507_2, hx507_3, hx507_4, hx507_5, hx507_6, hx507_7, hx507_8⟩ := at_T48 HR0.out x7_2 p507 q507
               have hw507_8 := hx507_8
               have hw507_7 := hx507_7
               have hw507_6 := hx507_6
               have hw507_5 := hx507_5
               have hw507_4 := hx507_4
               have hw507_3 := hx507_3
               have hw507_2 := hx507_2
               have hw507_1 := hx507_1
               have hw507_0 := hx507_0
               obtain rfl : ad506 = ad507 := (by injection e507)
               replace hx507_0 := Zx HB.out hx507_0
               replace hx507_1 := Zx HB.out hx507_1
               replace hx507_2 := Zx HB.out hx507_2
               replace hx507_3 := Zx HB.out hx507_3
               replace hx507_4 := Zx HB.out hx507_4
               replace hx507_5 := Zx HB.out hx507_5
               replace hx507_6 := Zx HB.out hx507_6
               replace hx507_7 := Zx HB.out hx507_7
               replace hx507_8 := Zx HB.out hx507_8
               replace p507 := eq_true p507
               replace q507 := eq_true q507
               refine start_ (n := 64) (S := fun w' => w'.cell? ⟨gb505, 0, none⟩ = some (.string ((rd_T50 t496 x7_2).f0.f0)) ∧ w'.cell? ⟨gb505, 1, none⟩ = some (.string ((rd_T50 t496 x7_2).f0.f1)) ∧ w'.cell? ⟨gb505, 2, none⟩ = some (.int .i64 ((rd_T50 t496 x7_2).f1)) ∧ w'.cell? ⟨gb505, 3, none⟩ = some (.int .i64 ((rd_T50 t496 x7_2).f2)) ∧ w'.cell? ⟨gb505, 4, none⟩ = some (.int .i64 ((rd_T50 t496 x7_2).f3)) ∧ w'.cell? (ad506.add ((x7_2).toNat * 9)) = some (.string ((rd_T48 l0 x7_2).f0.f0)) ∧ w'.cell? ⟨(ad506.add ((x7_2).toNat * 9)).block, (ad506.add ((x7_2).toNat * 9)).off + 1, none⟩ = some (.string ((rd_T48 l0 x7_2).f0.f1)) ∧ w'.cell? ⟨(ad506.add ((x7_2).toNat * 9)).block, (ad506.add ((x7_2).toNat * 9)).off + 2, none⟩ = some (.int .i64 ((rd_T48 l0 x7_2).f1)) ∧ w'.cell? ⟨(ad506.add ((x7_2).toNat * 9)).block, (ad506.add ((x7_2).toNat * 9)).off + 3, none⟩ = some (.int .i64 ((rd_T48 l0 x7_2).f2)) ∧ w'.cell? ⟨(ad506.add ((x7_2).toNat * 9)).block, (ad506.add ((x7_2).toNat * 9)).off + 4, none⟩ = some (.int .i64 ((rd_T48 l0 x7_2).f3)) ∧ w'.cell? ⟨(ad506.add ((x7_2).toNat * 9)).block, (ad506.add ((x7_2).toNat * 9)).off + 5, none⟩ = some (.int .i64 ((rd_T48 l0 x7_2).f4)) ∧ w'.cell? ⟨(ad506.add ((x7_2).toNat * 9)).block, (ad506.add ((x7_2).toNat * 9)).off + 6, none⟩ = some (.int .i64 ((rd_T48 l0 x7_2).f5)) ∧ w'.cell? ⟨(ad506.add ((x7_2).toNat * 9)).block, (ad506.add ((x7_2).toNat * 9)).off + 7, none⟩ = some (.int .i64 ((rd_T48 l0 x7_2).f6)) ∧ w'.cell? ⟨(ad506.add ((x7_2).toNat * 9)).block, (ad506.add ((x7_2).toNat * 9)).off + 8, none⟩ = some (.int .i64 ((rd_T48 l0 x7_2).f7)) ∧ w'.cell? (ad506.add ((x7_2).toNat * 9)) = some (.string ((rd_T48 l0 x7_2).f0.f0)) ∧ w'.cell? ⟨(ad506.add ((x7_2).toNat * 9)).block, (ad506.add ((x7_2).toNat * 9)).off + 1, none⟩ = some (.string ((rd_T48 l0 x7_2).f0.f1)) ∧ w'.cell? ⟨(ad506.add ((x7_2).toNat * 9)).block, (ad506.add ((x7_2).toNat * 9)).off + 2, none⟩ = some (.int .i64 ((rd_T48 l0 x7_2).f1)) ∧ w'.cell? ⟨(ad506.add ((x7_2).toNat * 9)).block, (ad506.add ((x7_2).toNat * 9)).off + 3, none⟩ = some (.int .i64 ((rd_T48 l0 x7_2).f2)) ∧ w'.cell? ⟨(ad506.add ((x7_2).toNat * 9)).block, (ad506.add ((x7_2).toNat * 9)).off + 4, none⟩ = some (.int .i64 ((rd_T48 l0 x7_2).f3)) ∧ w'.cell? ⟨(ad506.add ((x7_2).toNat * 9)).block, (ad506.add ((x7_2).toNat * 9)).off + 5, none⟩ = some (.int .i64 ((rd_T48 l0 x7_2).f4)) ∧ w'.cell? ⟨(ad506.add ((x7_2).toNat * 9)).block, (ad506.add ((x7_2).toNat * 9)).off + 6, none⟩ = some (.int .i64 ((rd_T48 l0 x7_2).f5)) ∧ w'.cell? ⟨(ad506.add ((x7_2).toNat * 9)).block, (ad506.add ((x7_2).toNat * 9)).off + 7, none⟩ = some (.int .i64 ((rd_T48 l0 x7_2).f6)) ∧ w'.cell? ⟨(ad506.add ((x7_2).toNat * 9)).block, (ad506.add ((x7_2).toNat * 9)).off + 8, none⟩ = some (.int .i64 ((rd_T48 l0 x7_2).f7))) (ds := []) #[F, F, F, F, F, F, F, F, F, F, F, F, F, F, F, F, F, F, F, F, F, F, F, F, F, F, F, F, F, F, F, F, F, F, F, F, F, F, F, F, F, F, F, F, F, F, F, F, F, F, F, F, F, F, F, F, F, F, F, F, F, F, F, F] (by kernel_rfl) rfl rfl ⟨(Qah BK505.out 0).trans rfl, (Qah BK505.out 1).trans rfl, (Qah BK505.out 2).trans rfl, (Qah BK505.out 3).trans rfl, (Qah BK505.out 4).trans rfl, ((HB.out.cell (World.block_lt_of_cell? w _ hw506_0)).trans hw506_0), ((HB.out.cell (World.block_lt_of_cell? w _ hw506_1)).trans hw506_1), ((HB.out.cell (World.block_lt_of_cell? w _ hw506_2)).trans hw506_2), ((HB.out.cell (World.block_lt_of_cell? w _ hw506_3)).trans hw506_3), ((HB.out.cell (World.block_lt_of_cell? w _ hw506_4)).trans hw506_4), ((HB.out.cell (World.block_lt_of_cell? w _ hw506_5)).trans hw506_5), ((HB.out.cell (World.block_lt_of_cell? w _ hw506_6)).trans hw506_6), ((HB.out.cell (World.block_lt_of_cell? w _ hw506_7)).trans hw506_7), ((HB.out.cell (World.block_lt_of_cell? w _ hw506_8)).trans hw506_8), ((HB.out.cell (World.block_lt_of_cell? w _ hw507_0)).trans hw507_0), ((HB.out.cell (World.block_lt_of_cell? w _ hw507_1)).trans hw507_1), ((HB.out.cell (World.block_lt_of_cell? w _ hw507_2)).trans hw507_2), ((HB.out.cell (World.block_lt_of_cell? w _ hw507_3)).trans hw507_3), ((HB.out.cell (World.block_lt_of_cell? w _ hw507_4)).trans hw507_4), ((HB.out.cell (World.block_lt_of_cell? w _ hw507_5)).trans hw507_5), ((HB.out.cell (World.block_lt_of_cell? w _ hw507_6)).trans hw507_6), ((HB.out.cell (World.block_lt_of_cell? w _ hw507_7)).trans hw507_7), ((HB.out.cell (World.block_lt_of_cell? w _ hw507_8)).trans hw507_8)⟩ (fun hHeld => ?_); refine Qbt contangolaw34_CoverGaps.tab17 contangolaw34_CoverGaps.bits17 (fun HT_ HW_ => ?_)
               generalize w51.drew = w52 at HO_5 BK494 BK505 HB hx506_0 hx506_1 hx506_2 hx506_3 hx506_4 hx506_5 hx506_6 hx506_7 hx506_8 hx507_0 hx507_1 hx507_2 hx507_3 hx507_4 hx507_5 hx507_6 hx507_7 hx507_8 hHeld ⊢
               refine pure_ (i := 0) (N := some 77) (v := ?_) (a' := ?_) #[T, F, F, F, F, F, F, F, F, F, F, F, F, F, F, F, F, F, F, F, F, F, F, F, F, F, F, F, F, F, F, F, F, F, F, F, F, F, F, F, F, F, F, F, F, F, F, F, F, F, F, F, F, F, F, F, F, F, F, F, F, F, F, F] rfl rfl (any_of HT_.out (by kernel_rfl)) (fun _ _ _ h => h) (Or.inl ⟨by rfl, ?_⟩) ?_ ?_
               rotate_left
               ·intro w'
                go_simp
                with_reducible rfl
               rotate_left
               ·simp only [Act.put, Zj, Zk, Zm, i64_w, i32_w]
                rfl
               refine pure_ (i := 2) (N := some 79) (v := ?_) (a' := ?_) #[T, F, T, F, F, F, F, F, F, F, F, F, F, F, F, F, F, F, F, F, F, F, F, F, F, F, F, F, F, F, F, F, F, F, F, F, F, F, F, F, F, F, F, F, F, F, F, F, F, F, F, F, F, F, F, F, F, F, F, F, F, F, F, F] rfl rfl (any_of HT_.out (by kernel_rfl)) (fun _ _ _ h => h) (Or.inl ⟨by rfl, ?_⟩) ?_ ?_
               rotate_left
               ·intro w'
                go_simp
                with_reducible rfl
               rotate_left
               ·simp only [Act.put, Zj, Zk, Zm, i64_w, i32_w]
                rfl
               refine pure_ (i := 3) (N := some 80) (v := ?_) (a' := ?_) #[T, F, T, T, F, F, F, F, F, F, F, F, F, F, F, F, F, F, F, F, F, F, F, F, F, F, F, F, F, F, F, F, F, F, F, F, F, F, F, F, F, F, F, F, F, F, F, F, F, F, F, F, F, F, F, F, F, F, F, F, F, F, F, F] rfl rfl (any_of HT_.out (by kernel_rfl)) (fun _ _ _ h => h) (Or.inl ⟨by rfl, ?_⟩) ?_ ?_
               rotate_left
               ·intro w'
                go_simp
                with_reducible rfl
               rotate_left
               ·simp only [Act.put, Zj, Zk, Zm, i64_w, i32_w]
                rfl
               refine pure_ (i := 4) (N := some 81) (v := ?_) (a' := ?_) #[T, F, T, T, T, F, F, F, F, F, F, F, F, F, F, F, F, F, F, F, F, F, F, F, F, F, F, F, F, F, F, F, F, F, F, F, F, F, F, F, F, F, F, F, F, F, F, F, F, F, F, F, F, F, F, F, F, F, F, F, F, F, F, F] rfl rfl (any_of HT_.out (by kernel_rfl)) (fun _ _ _ h => h) (Or.inl ⟨by rfl, ?_⟩) ?_ ?_
               rotate_left
               ·intro w'
                go_simp
                with_reducible rfl
               rotate_left
               ·simp only [Act.put, Zj, Zk, Zm, i64_w, i32_w]
                rfl
               refine pure_ (i := 5) (N := some 82) (v := ?_) (a' := ?_) #[T, F, T, T, T, T, F, F, F, F, F, F, F, F, F, F, F, F, F, F, F, F, F, F, F, F, F, F, F, F, F, F, F, F, F, F, F, F, F, F, F, F, F, F, F, F, F, F, F, F, F, F, F, F, F, F, F, F, F, F, F, F, F, F] rfl rfl (any_of HT_.out (by kernel_rfl)) (fun _ _ _ h => h) (Or.inl ⟨by rfl, ?_⟩) ?_ ?_
               rotate_left
               ·intro w'
                go_simp
                with_reducible rfl
               rotate_left
               ·simp only [Act.put, Zj, Zk, Zm, i64_w, i32_w]
                rfl
               refine take_ (i := 1) (N := some 78) (v := ?_) (a' := ?_) #[T, T, T, T, T, T, F, F, F, F, F, F, F, F, F, F, F, F, F, F, F, F, F, F, F, F, F, F, F, F, F, F, F, F, F, F, F, F, F, F, F, F, F, F, F, F, F, F, F, F, F, F, F, F, F, F, F, F, F, F, F, F, F, F] rfl rfl (QaF HT_.out HW_.out (by kernel_rfl)) (fun _ _ _ h => h) (Or.inl ⟨by rfl, ?_⟩) hHeld ?_ ?_
               rotate_left
               ·rintro w' ⟨s0, s1, s2, s3, s4, s5, s6, s7, s8, s9, s10, s11, s12, s13, s14, s15, s16, s17, s18, s19, s20, s21, s22⟩
                go_simp
                with_reducible rfl
               rotate_left
               ·simp only [Act.put, Zj, Zk, Zm, i64_w, i32_w]
                rfl
               refine take_ (i := 6) (N := some 83) (v := ?_) (a' := ?_) #[T, T, T, T, T, T, T, F, F, F, F, F, F, F, F, F, F, F, F, F, F, F, F, F, F, F, F, F, F, F, F, F, F, F, F, F, F, F, F, F, F, F, F, F, F, F, F, F, F, F, F, F, F, F, F, F, F, F, F, F, F, F, F, F] rfl rfl (QaF HT_.out HW_.out (by kernel_rfl)) (fun _ _ _ h => h) (Or.inl ⟨by rfl, ?_⟩) hHeld ?_ ?_
               rotate_left
               ·rintro w' ⟨s0, s1, s2, s3, s4, s5, s6, s7, s8, s9, s10, s11, s12, s13, s14, s15, s16, s17, s18, s19, s20, s21, s22⟩
                go_simp
                with_reducible rfl
               rotate_left
               ·simp only [Act.put, Zj, Zk, Zm, i64_w, i32_w]
                rfl
               refine pure_ (i := 7) (N := some 84) (v := ?_) (a' := ?_) #[T, T, T, T, T, T, T, T, F, F, F, F, F, F, F, F, F, F, F, F, F, F, F, F, F, F, F, F, F, F, F, F, F, F, F, F, F, F, F, F, F, F, F, F, F, F, F, F, F, F, F, F, F, F, F, F, F, F, F, F, F, F, F, F] rfl rfl (any_of HT_.out (by kernel_rfl)) (fun _ _ _ h => h) (Or.inl ⟨by rfl, ?_⟩) ?_ ?_
               rotate_left
               ·intro w'
                go_simp
                with_reducible rfl
               rotate_left
               ·simp only [Act.put, Zj, Zk, Zm, i64_w, i32_w]
                rfl
               refine pure_ (i := 8) (N := some 85) (v := ?_) (a' := ?_) #[T, T, T, T, T, T, T, T, T, F, F, F, F, F, F, F, F, F, F, F, F, F, F, F, F, F, F, F, F, F, F, F, F, F, F, F, F, F, F, F, F, F, F, F, F, F, F, F, F, F, F, F, F, F, F, F, F, F, F, F, F, F, F, F] rfl rfl (any_of HT_.out (by kernel_rfl)) (fun _ _ _ h => h) (Or.inl ⟨by rfl, ?_⟩) ?_ ?_
               rotate_left
               ·intro w'
                go_simp
                with_reducible rfl
               rotate_left
               ·simp only [Act.put, Zj, Zk, Zm, i64_w, i32_w]
                rfl
               refine pure_ (i := 9) (N := some 86) (v := ?_) (a' := ?_) #[T, T, T, T, T, T, T, T, T, T, F, F, F, F, F, F, F, F, F, F, F, F, F, F, F, F, F, F, F, F, F, F, F, F, F, F, F, F, F, F, F, F, F, F, F, F, F, F, F, F, F, F, F, F, F, F, F, F, F, F, F, F, F, F] rfl rfl (any_of HT_.out (by kernel_rfl)) (fun _ _ _ h => h) (Or.inl ⟨by rfl, ?_⟩) ?_ ?_
               rotate_left
               ·intro w'
                go_simp
                with_reducible rfl
               rotate_left
               ·simp only [Act.put, Zj, Zk, Zm, i64_w, i32_w]
                rfl
               refine pure_ (i := 11) (N := some 88) (v := ?_) (a' := ?_) #[T, T, T, T, T, T, T, T, T, T, F, T, F, F, F, F, F, F, F, F, F, F, F, F, F, F, F, F, F, F, F, F, F, F, F, F, F, F, F, F, F, F, F, F, F, F, F, F, F, F, F, F, F, F, F, F, F, F, F, F, F, F, F, F] rfl rfl (any_of HT_.out (by kernel_rfl)) (fun _ _ _ h => h) (Or.inl ⟨by rfl, ?_⟩) ?_ ?_
               rotate_left
               ·intro w'
                go_simp
                with_reducible rfl
               rotate_left
               ·simp only [Act.put, Zj, Zk, Zm, i64_w, i32_w]
                rfl
               refine pure_ (i := 12) (N := some 89) (v := ?_) (a' := ?_) #[T, T, T, T, T, T, T, T, T, T, F, T, T, F, F, F, F, F, F, F, F, F, F, F, F, F, F, F, F, F, F, F, F, F, F, F, F, F, F, F, F, F, F, F, F, F, F, F, F, F, F, F, F, F, F, F, F, F, F, F, F, F, F, F] rfl rfl (any_of HT_.out (by kernel_rfl)) (fun _ _ _ h => h) (Or.inl ⟨by rfl, ?_⟩) ?_ ?_
               rotate_left
               ·intro w'
                go_simp
                with_reducible rfl
               rotate_left
               ·simp only [Act.put, Zj, Zk, Zm, i64_w, i32_w]
                rfl
               refine pure_ (i := 13) (N := some 90) (v := ?_) (a' := ?_) #[T, T, T, T, T, T, T, T, T, T, F, T, T, T, F, F, F, F, F, F, F, F, F, F, F, F, F, F, F, F, F, F, F, F, F, F, F, F, F, F, F, F, F, F, F, F, F, F, F, F, F, F, F, F, F, F, F, F, F, F, F, F, F, F] rfl rfl (any_of HT_.out (by kernel_rfl)) (fun _ _ _ h => h) (Or.inl ⟨by rfl, ?_⟩) ?_ ?_
               rotate_left
               ·intro w'
                go_simp
                with_reducible rfl
               rotate_left
               ·simp only [Act.put, Zj, Zk, Zm, i64_w, i32_w]
                rfl
               refine pure_ (i := 14) (N := some 91) (v := ?_) (a' := ?_) #[T, T, T, T, T, T, T, T, T, T, F, T, T, T, T, F, F, F, F, F, F, F, F, F, F, F, F, F, F, F, F, F, F, F, F, F, F, F, F, F, F, F, F, F, F, F, F, F, F, F, F, F, F, F, F, F, F, F, F, F, F, F, F, F] rfl rfl (any_of HT_.out (by kernel_rfl)) (fun _ _ _ h => h) (Or.inl ⟨by rfl, ?_⟩) ?_ ?_
               rotate_left
               ·intro w'
                go_simp
                with_reducible rfl
               rotate_left
               ·simp only [Act.put, Zj, Zk, Zm, i64_w, i32_w]
                rfl
               refine take_ (i := 10) (N := some 87) (v := ?_) (a' := ?_) #[T, T, T, T, T, T, T, T, T, T, T, T, T, T, T, F, F, F, F, F, F, F, F, F, F, F, F, F, F, F, F, F, F, F, F, F, F, F, F, F, F, F, F, F, F, F, F, F, F, F, F, F, F, F, F, F, F, F, F, F, F, F, F, F] rfl rfl (QaF HT_.out HW_.out (by kernel_rfl)) (fun _ _ _ h => h) (Or.inl ⟨by rfl, ?_⟩) hHeld ?_ ?_
               rotate_left
               ·rintro w' ⟨s0, s1, s2, s3, s4, s5, s6, s7, s8, s9, s10, s11, s12, s13, s14, s15, s16, s17, s18, s19, s20, s21, s22⟩
                go_simp
                with_reducible rfl
               rotate_left
               ·simp only [Act.put, Zj, Zk, Zm, i64_w, i32_w]
                rfl
               refine take_ (i := 15) (N := some 92) (v := ?_) (a' := ?_) #[T, T, T, T, T, T, T, T, T, T, T, T, T, T, T, T, F, F, F, F, F, F, F, F, F, F, F, F, F, F, F, F, F, F, F, F, F, F, F, F, F, F, F, F, F, F, F, F, F, F, F, F, F, F, F, F, F, F, F, F, F, F, F, F] rfl rfl (QaF HT_.out HW_.out (by kernel_rfl)) (fun _ _ _ h => h) (Or.inl ⟨by rfl, ?_⟩) hHeld ?_ ?_
               rotate_left
               ·rintro w' ⟨s0, s1, s2, s3, s4, s5, s6, s7, s8, s9, s10, s11, s12, s13, s14, s15, s16, s17, s18, s19, s20, s21, s22⟩
                go_simp
                with_reducible rfl
               rotate_left
               ·simp only [Act.put, Zj, Zk, Zm, i64_w, i32_w]
                rfl
               refine pure_ (i := 16) (N := some 93) (v := ?_) (a' := ?_) #[T, T, T, T, T, T, T, T, T, T, T, T, T, T, T, T, T, F, F, F, F, F, F, F, F, F, F, F, F, F, F, F, F, F, F, F, F, F, F, F, F, F, F, F, F, F, F, F, F, F, F, F, F, F, F, F, F, F, F, F, F, F, F, F] rfl rfl (any_of HT_.out (by kernel_rfl)) (fun _ _ _ h => h) (Or.inl ⟨by rfl, ?_⟩) ?_ ?_
               rotate_left
               ·intro w'
                go_simp
                with_reducible rfl
               rotate_left
               ·simp only [Act.put, Zj, Zk, Zm, i64_w, i32_w]
                rfl
               refine pure_ (i := 17) (N := some 94) (v := ?_) (a' := ?_) #[T, T, T, T, T, T, T, T, T, T, T, T, T, T, T, T, T, T, F, F, F, F, F, F, F, F, F, F, F, F, F, F, F, F, F, F, F, F, F, F, F, F, F, F, F, F, F, F, F, F, F, F, F, F, F, F, F, F, F, F, F, F, F, F] rfl rfl (any_of HT_.out (by kernel_rfl)) (fun _ _ _ h => h) (Or.inl ⟨by rfl, ?_⟩) ?_ ?_
               rotate_left
               ·intro w'
                go_simp
                with_reducible rfl
               rotate_left
               ·simp only [Act.put, Zj, Zk, Zm, i64_w, i32_w]
                rfl
               refine pure_ (i := 18) (N := some 95) (v := ?_) (a' := ?_) #[T, T, T, T, T, T, T, T, T, T, T, T, T, T, T, T, T, T, T, F, F, F, F, F, F, F, F, F, F, F, F, F, F, F, F, F, F, F, F, F, F, F, F, F, F, F, F, F, F, F, F, F, F, F, F, F, F, F, F, F, F, F, F, F] rfl rfl (any_of HT_.out (by kernel_rfl)) (fun _ _ _ h => h) (Or.inl ⟨by rfl, ?_⟩) ?_ ?_
               rotate_left
               ·intro w'
                go_simp
                with_reducible rfl
               rotate_left
               ·simp only [Act.put, Zj, Zk, Zm, i64_w, i32_w]
                rfl
               refine pure_ (i := 19) (N := some 96) (v := ?_) (a' := ?_) #[T, T, T, T, T, T, T, T, T, T, T, T, T, T, T, T, T, T, T, T, F, F, F, F, F, F, F, F, F, F, F, F, F, F, F, F, F, F, F, F, F, F, F, F, F, F, F, F, F, F, F, F, F, F, F, F, F, F, F, F, F, F, F, F] rfl rfl (any_of HT_.out (by kernel_rfl)) (fun _ _ _ h => h) (Or.inl ⟨by rfl, ?_⟩) ?_ ?_
               rotate_left
               ·intro w'
                go_simp
                with_reducible rfl
               rotate_left
               ·simp only [Act.put, Zj, Zk, Zm, i64_w, i32_w]
                rfl
               refine take_ (i := 20) (N := some 97) (v := ?_) (a' := ?_) #[T, T, T, T, T, T, T, T, T, T, T, T, T, T, T, T, T, T, T, T, T, F, F, F, F, F, F, F, F, F, F, F, F, F, F, F, F, F, F, F, F, F, F, F, F, F, F, F, F, F, F, F, F, F, F, F, F, F, F, F, F, F, F, F] rfl rfl (QaF HT_.out HW_.out (by kernel_rfl)) (fun _ _ _ h => h) (Or.inl ⟨by rfl, ?_⟩) hHeld ?_ ?_
               rotate_left
               ·rintro w' ⟨s0, s1, s2, s3, s4, s5, s6, s7, s8, s9, s10, s11, s12, s13, s14, s15, s16, s17, s18, s19, s20, s21, s22⟩
                go_simp
                with_reducible rfl
               rotate_left
               ·simp only [Act.put, Zj, Zk, Zm, i64_w, i32_w]
                rfl
               refine pure_ (i := 21) (N := some 98) (v := ?_) (a' := ?_) #[T, T, T, T, T, T, T, T, T, T, T, T, T, T, T, T, T, T, T, T, T, T, F, F, F, F, F, F, F, F, F, F, F, F, F, F, F, F, F, F, F, F, F, F, F, F, F, F, F, F, F, F, F, F, F, F, F, F, F, F, F, F, F, F] rfl rfl (any_of HT_.out (by kernel_rfl)) (fun _ _ _ h => h) (Or.inl ⟨by rfl, ?_⟩) ?_ ?_
               rotate_left
               ·intro w'
                go_simp
                with_reducible rfl
               rotate_left
               ·simp only [Act.put, Zj, Zk, Zm, i64_w, i32_w]
                rfl
               refine pure_ (i := 22) (N := some 99) (v := ?_) (a' := ?_) #[T, T, T, T, T, T, T, T, T, T, T, T, T, T, T, T, T, T, T, T, T, T, T, F, F, F, F, F, F, F, F, F, F, F, F, F, F, F, F, F, F, F, F, F, F, F, F, F, F, F, F, F, F, F, F, F, F, F, F, F, F, F, F, F] rfl rfl (any_of HT_.out (by kernel_rfl)) (fun _ _ _ h => h) (Or.inl ⟨by rfl, ?_⟩) ?_ ?_
               rotate_left
               ·intro w'
                go_simp
                with_reducible rfl
               rotate_left
               ·simp only [Act.put, Zj, Zk, Zm, i64_w, i32_w]
                rfl
               refine pure_ (i := 23) (N := some 100) (v := ?_) (a' := ?_) #[T, T, T, T, T, T, T, T, T, T, T, T, T, T, T, T, T, T, T, T, T, T, T, T, F, F, F, F, F, F, F, F, F, F, F, F, F, F, F, F, F, F, F, F, F, F, F, F, F, F, F, F, F, F, F, F, F, F, F, F, F, F, F, F] rfl rfl (any_of HT_.out (by kernel_rfl)) (fun _ _ _ h => h) (Or.inl ⟨by rfl, ?_⟩) ?_ ?_
               rotate_left
               ·intro w'
                go_simp
                with_reducible rfl
               rotate_left
               ·simp only [Act.put, Zj, Zk, Zm, i64_w, i32_w]
                rfl
               refine pure_ (i := 24) (N := some 101) (v := ?_) (a' := ?_) #[T, T, T, T, T, T, T, T, T, T, T, T, T, T, T, T, T, T, T, T, T, T, T, T, T, F, F, F, F, F, F, F, F, F, F, F, F, F, F, F, F, F, F, F, F, F, F, F, F, F, F, F, F, F, F, F, F, F, F, F, F, F, F, F] rfl rfl (any_of HT_.out (by kernel_rfl)) (fun _ _ _ h => h) (Or.inl ⟨by rfl, ?_⟩) ?_ ?_
               rotate_left
               ·intro w'
                go_simp
                with_reducible rfl
               rotate_left
               ·simp only [Act.put, Zj, Zk, Zm, i64_w, i32_w]
                rfl
               refine take_ (i := 25) (N := some 102) (v := ?_) (a' := ?_) #[T, T, T, T, T, T, T, T, T, T, T, T, T, T, T, T, T, T, T, T, T, T, T, T, T, T, F, F, F, F, F, F, F, F, F, F, F, F, F, F, F, F, F, F, F, F, F, F, F, F, F, F, F, F, F, F, F, F, F, F, F, F, F, F] rfl rfl (QaF HT_.out HW_.out (by kernel_rfl)) (fun _ _ _ h => h) (Or.inl ⟨by rfl, ?_⟩) hHeld ?_ ?_
               rotate_left
               ·rintro w' ⟨s0, s1, s2, s3, s4, s5, s6, s7, s8, s9, s10, s11, s12, s13, s14, s15, s16, s17, s18, s19, s20, s21, s22⟩
                go_simp
                with_reducible rfl
               rotate_left
               ·simp only [Act.put, Zj, Zk, Zm, i64_w, i32_w]
                rfl
               refine pure_ (i := 26) (N := some 103) (v := ?_) (a' := ?_) #[T, T, T, T, T, T, T, T, T, T, T, T, T, T, T, T, T, T, T, T, T, T, T, T, T, T, T, F, F, F, F, F, F, F, F, F, F, F, F, F, F, F, F, F, F, F, F, F, F, F, F, F, F, F, F, F, F, F, F, F, F, F, F, F] rfl rfl (any_of HT_.out (by kernel_rfl)) (fun _ _ _ h => h) (Or.inl ⟨by rfl, ?_⟩) ?_ ?_
               rotate_left
               ·intro w'
                go_simp
                with_reducible rfl
               rotate_left
               ·simp only [Act.put, Zj, Zk, Zm, i64_w, i32_w]
                rfl
               refine pure_ (i := 27) (N := some 104) (v := ?_) (a' := ?_) #[T, T, T, T, T, T, T, T, T, T, T, T, T, T, T, T, T, T, T, T, T, T, T, T, T, T, T, T, F, F, F, F, F, F, F, F, F, F, F, F, F, F, F, F, F, F, F, F, F, F, F, F, F, F, F, F, F, F, F, F, F, F, F, F] rfl rfl (any_of HT_.out (by kernel_rfl)) (fun _ _ _ h => h) (Or.inl ⟨by rfl, ?_⟩) ?_ ?_
               rotate_left
               ·intro w'
                go_simp
                with_reducible rfl
               rotate_left
               ·simp only [Act.put, Zj, Zk, Zm, i64_w, i32_w]
                rfl
               refine pure_ (i := 28) (N := some 105) (v := ?_) (a' := ?_) #[T, T, T, T, T, T, T, T, T, T, T, T, T, T, T, T, T, T, T, T, T, T, T, T, T, T, T, T, T, F, F, F, F, F, F, F, F, F, F, F, F, F, F, F, F, F, F, F, F, F, F, F, F, F, F, F, F, F, F, F, F, F, F, F] rfl rfl (any_of HT_.out (by kernel_rfl)) (fun _ _ _ h => h) (Or.inl ⟨by rfl, ?_⟩) ?_ ?_
               rotate_left
               ·intro w'
                go_simp
                with_reducible rfl
               rotate_left
               ·simp only [Act.put, Zj, Zk, Zm, i64_w, i32_w]
                rfl
               refine pure_ (i := 29) (N := some 106) (v := ?_) (a' := ?_) #[T, T, T, T, T, T, T, T, T, T, T, T, T, T, T, T, T, T, T, T, T, T, T, T, T, T, T, T, T, T, F, F, F, F, F, F, F, F, F, F, F, F, F, F, F, F, F, F, F, F, F, F, F, F, F, F, F, F, F, F, F, F, F, F] rfl rfl (any_of HT_.out (by kernel_rfl)) (fun _ _ _ h => h) (Or.inl ⟨by rfl, ?_⟩) ?_ ?_
               rotate_left
               ·intro w'
                go_simp
                with_reducible rfl
               rotate_left
               ·simp only [Act.put, Zj, Zk, Zm, i64_w, i32_w]
                rfl
               refine pure_ (i := 31) (N := some 108) (v := ?_) (a' := ?_) #[T, T, T, T, T, T, T, T, T, T, T, T, T, T, T, T, T, T, T, T, T, T, T, T, T, T, T, T, T, T, F, T, F, F, F, F, F, F, F, F, F, F, F, F, F, F, F, F, F, F, F, F, F, F, F, F, F, F, F, F, F, F, F, F] rfl rfl (any_of HT_.out (by kernel_rfl)) (fun _ _ _ h => h) (Or.inl ⟨by rfl, ?_⟩) ?_ ?_
               rotate_left
               ·intro w'
                go_simp
                with_reducible rfl
               rotate_left
               ·simp only [Act.put, Zj, Zk, Zm, i64_w, i32_w]
                rfl
               refine pure_ (i := 34) (N := some 111) (v := ?_) (a' := ?_) #[T, T, T, T, T, T, T, T, T, T, T, T, T, T, T, T, T, T, T, T, T, T, T, T, T, T, T, T, T, T, F, T, F, F, T, F, F, F, F, F, F, F, F, F, F, F, F, F, F, F, F, F, F, F, F, F, F, F, F, F, F, F, F, F] rfl rfl (any_of HT_.out (by kernel_rfl)) (fun _ _ _ h => h) (Or.inl ⟨by rfl, ?_⟩) ?_ ?_
               rotate_left
               ·intro w'
                go_simp
                with_reducible rfl
               rotate_left
               ·simp only [Act.put, Zj, Zk, Zm, i64_w, i32_w]
                rfl
               refine take_ (i := 30) (N := some 107) (v := ?_) (a' := ?_) #[T, T, T, T, T, T, T, T, T, T, T, T, T, T, T, T, T, T, T, T, T, T, T, T, T, T, T, T, T, T, T, T, F, F, T, F, F, F, F, F, F, F, F, F, F, F, F, F, F, F, F, F, F, F, F, F, F, F, F, F, F, F, F, F] rfl rfl (QaF HT_.out HW_.out (by kernel_rfl)) (fun _ _ _ h => h) (Or.inl ⟨by rfl, ?_⟩) hHeld ?_ ?_
               rotate_left
               ·rintro w' ⟨s0, s1, s2, s3, s4, s5, s6, s7, s8, s9, s10, s11, s12, s13, s14, s15, s16, s17, s18, s19, s20, s21, s22⟩
                go_simp
                with_reducible rfl
               rotate_left
               ·simp only [Act.put, Zj, Zk, Zm, i64_w, i32_w]
                rfl
               refine take_ (i := 32) (N := some 109) (v := ?_) (a' := ?_) #[T, T, T, T, T, T, T, T, T, T, T, T, T, T, T, T, T, T, T, T, T, T, T, T, T, T, T, T, T, T, T, T, T, F, T, F, F, F, F, F, F, F, F, F, F, F, F, F, F, F, F, F, F, F, F, F, F, F, F, F, F, F, F, F] rfl rfl (QaF HT_.out HW_.out (by kernel_rfl)) (fun _ _ _ h => h) (Or.inl ⟨by rfl, ?_⟩) hHeld ?_ ?_
               rotate_left
               ·rintro w' ⟨s0, s1, s2, s3, s4, s5, s6, s7, s8, s9, s10, s11, s12, s13, s14, s15, s16, s17, s18, s19, s20, s21, s22⟩
                go_simp
                with_reducible rfl
               rotate_left
               ·simp only [Act.put, Zj, Zk, Zm, i64_w, i32_w]
                rfl
               refine pure_ (i := 33) (N := some 110) (v := ?_) (a' := ?_) #[T, T, T, T, T, T, T, T, T, T, T, T, T, T, T, T, T, T, T, T, T, T, T, T, T, T, T, T, T, T, T, T, T, T, T, F, F, F, F, F, F, F, F, F, F, F, F, F, F, F, F, F, F, F, F, F, F, F, F, F, F, F, F, F] rfl rfl (any_of HT_.out (by kernel_rfl)) (fun _ _ _ h => h) (Or.inl ⟨by rfl, ?_⟩) ?_ ?_
               rotate_left
               ·intro w'
                go_simp
                with_reducible rfl
               rotate_left
               ·simp only [Act.put, Zj, Zk, Zm, i64_w, i32_w]
                rfl
               refine take_ (i := 35) (N := some 112) (v := ?_) (a' := ?_) #[T, T, T, T, T, T, T, T, T, T, T, T, T, T, T, T, T, T, T, T, T, T, T, T, T, T, T, T, T, T, T, T, T, T, T, T, F, F, F, F, F, F, F, F, F, F, F, F, F, F, F, F, F, F, F, F, F, F, F, F, F, F, F, F] rfl rfl (QaF HT_.out HW_.out (by kernel_rfl)) (fun _ _ _ h => h) (Or.inl ⟨by rfl, ?_⟩) hHeld ?_ ?_
               rotate_left
               ·rintro w' ⟨s0, s1, s2, s3, s4, s5, s6, s7, s8, s9, s10, s11, s12, s13, s14, s15, s16, s17, s18, s19, s20, s21, s22⟩
                go_simp
                with_reducible rfl
               rotate_left
               ·simp only [Act.put, Zj, Zk, Zm, i64_w, i32_w]
                rfl
               refine pure_ (i := 36) (N := some 113) (v := ?_) (a' := ?_) #[T, T, T, T, T, T, T, T, T, T, T, T, T, T, T, T, T, T, T, T, T, T, T, T, T, T, T, T, T, T, T, T, T, T, T, T, T, F, F, F, F, F, F, F, F, F, F, F, F, F, F, F, F, F, F, F, F, F, F, F, F, F, F, F] rfl rfl (any_of HT_.out (by kernel_rfl)) (fun _ _ _ h => h) (Or.inl ⟨by rfl, ?_⟩) ?_ ?_
               rotate_left
               ·intro w'
                go_simp
                with_reducible rfl
               rotate_left
               ·simp only [Act.put, Zj, Zk, Zm, i64_w, i32_w]
                rfl
               refine pure_ (i := 37) (N := some 114) (v := ?_) (a' := ?_) #[T, T, T, T, T, T, T, T, T, T, T, T, T, T, T, T, T, T, T, T, T, T, T, T, T, T, T, T, T, T, T, T, T, T, T, T, T, T, F, F, F, F, F, F, F, F, F, F, F, F, F, F, F, F, F, F, F, F, F, F, F, F, F, F] rfl rfl (any_of HT_.out (by kernel_rfl)) (fun _ _ _ h => h) (Or.inl ⟨by rfl, ?_⟩) ?_ ?_
               rotate_left
               ·intro w'
                go_simp
                with_reducible rfl
               rotate_left
               ·simp only [Act.put, Zj, Zk, Zm, i64_w, i32_w]
                rfl
               refine pure_ (i := 38) (N := some 115) (v := ?_) (a' := ?_) #[T, T, T, T, T, T, T, T, T, T, T, T, T, T, T, T, T, T, T, T, T, T, T, T, T, T, T, T, T, T, T, T, T, T, T, T, T, T, T, F, F, F, F, F, F, F, F, F, F, F, F, F, F, F, F, F, F, F, F, F, F, F, F, F] rfl rfl (any_of HT_.out (by kernel_rfl)) (fun _ _ _ h => h) (Or.inl ⟨by rfl, ?_⟩) ?_ ?_
               rotate_left
               ·intro w'
                go_simp
                with_reducible rfl
               rotate_left
               ·simp only [Act.put, Zj, Zk, Zm, i64_w, i32_w]
                rfl
               refine pure_ (i := 39) (N := some 116) (v := ?_) (a' := ?_) #[T, T, T, T, T, T, T, T, T, T, T, T, T, T, T, T, T, T, T, T, T, T, T, T, T, T, T, T, T, T, T, T, T, T, T, T, T, T, T, T, F, F, F, F, F, F, F, F, F, F, F, F, F, F, F, F, F, F, F, F, F, F, F, F] rfl rfl (any_of HT_.out (by kernel_rfl)) (fun _ _ _ h => h) (Or.inl ⟨by rfl, ?_⟩) ?_ ?_
               rotate_left
               ·intro w'
                go_simp
                with_reducible rfl
               rotate_left
               ·simp only [Act.put, Zj, Zk, Zm, i64_w, i32_w]
                rfl
               refine take_ (i := 40) (N := some 117) (v := ?_) (a' := ?_) #[T, T, T, T, T, T, T, T, T, T, T, T, T, T, T, T, T, T, T, T, T, T, T, T, T, T, T, T, T, T, T, T, T, T, T, T, T, T, T, T, T, F, F, F, F, F, F, F, F, F, F, F, F, F, F, F, F, F, F, F, F, F, F, F] rfl rfl (QaF HT_.out HW_.out (by kernel_rfl)) (fun _ _ _ h => h) (Or.inl ⟨by rfl, ?_⟩) hHeld ?_ ?_
               rotate_left
               ·rintro w' ⟨s0, s1, s2, s3, s4, s5, s6, s7, s8, s9, s10, s11, s12, s13, s14, s15, s16, s17, s18, s19, s20, s21, s22⟩
                go_simp
                with_reducible rfl
               rotate_left
               ·simp only [Act.put, Zj, Zk, Zm, i64_w, i32_w]
                rfl
               refine pure_ (i := 41) (N := some 118) (v := ?_) (a' := ?_) #[T, T, T, T, T, T, T, T, T, T, T, T, T, T, T, T, T, T, T, T, T, T, T, T, T, T, T, T, T, T, T, T, T, T, T, T, T, T, T, T, T, T, F, F, F, F, F, F, F, F, F, F, F, F, F, F, F, F, F, F, F, F, F, F] rfl rfl (any_of HT_.out (by kernel_rfl)) (fun _ _ _ h => h) (Or.inl ⟨by rfl, ?_⟩) ?_ ?_
               rotate_left
               ·intro w'
                go_simp
                with_reducible rfl
               rotate_left
               ·simp only [Act.put, Zj, Zk, Zm, i64_w, i32_w]
                rfl
               refine pure_ (i := 42) (N := some 119) (v := ?_) (a' := ?_) #[T, T, T, T, T, T, T, T, T, T, T, T, T, T, T, T, T, T, T, T, T, T, T, T, T, T, T, T, T, T, T, T, T, T, T, T, T, T, T, T, T, T, T, F, F, F, F, F, F, F, F, F, F, F, F, F, F, F, F, F, F, F, F, F] rfl rfl (any_of HT_.out (by kernel_rfl)) (fun _ _ _ h => h) (Or.inl ⟨by rfl, ?_⟩) ?_ ?_
               rotate_left
               ·intro w'
                go_simp
                with_reducible rfl
               rotate_left
               ·simp only [Act.put, Zj, Zk, Zm, i64_w, i32_w]
                rfl
               refine pure_ (i := 43) (N := some 120) (v := undef) (a' := ?_) #[T, T, T, T, T, T, T, T, T, T, T, T, T, T, T, T, T, T, T, T, T, T, T, T, T, T, T, T, T, T, T, T, T, T, T, T, T, T, T, T, T, T, T, T, F, F, F, F, F, F, F, F, F, F, F, F, F, F, F, F, F, F, F, F] rfl rfl (any_of HT_.out (by kernel_rfl)) (fun _ _ _ h => h) (Or.inr ⟨by rfl, rfl⟩) ?_ ?_
               rotate_left
               ·simp only [Act.put, Zj, Zk, Zm, i64_w, i32_w]
                rfl
               refine pure_ (i := 44) (N := some 121) (v := undef) (a' := ?_) #[T, T, T, T, T, T, T, T, T, T, T, T, T, T, T, T, T, T, T, T, T, T, T, T, T, T, T, T, T, T, T, T, T, T, T, T, T, T, T, T, T, T, T, T, T, F, F, F, F, F, F, F, F, F, F, F, F, F, F, F, F, F, F, F] rfl rfl (any_of HT_.out (by kernel_rfl)) (fun _ _ _ h => h) (Or.inr ⟨by rfl, rfl⟩) ?_ ?_
               rotate_left
               ·simp only [Act.put, Zj, Zk, Zm, i64_w, i32_w]
                rfl
               refine pure_ (i := 45) (N := some 122) (v := undef) (a' := ?_) #[T, T, T, T, T, T, T, T, T, T, T, T, T, T, T, T, T, T, T, T, T, T, T, T, T, T, T, T, T, T, T, T, T, T, T, T, T, T, T, T, T, T, T, T, T, T, F, F, F, F, F, F, F, F, F, F, F, F, F, F, F, F, F, F] rfl rfl (any_of HT_.out (by kernel_rfl)) (fun _ _ _ h => h) (Or.inr ⟨by rfl, rfl⟩) ?_ ?_
               rotate_left
               ·simp only [Act.put, Zj, Zk, Zm, i64_w, i32_w]
                rfl
               refine pure_ (i := 46) (N := some 123) (v := undef) (a' := ?_) #[T, T, T, T, T, T, T, T, T, T, T, T, T, T, T, T, T, T, T, T, T, T, T, T, T, T, T, T, T, T, T, T, T, T, T, T, T, T, T, T, T, T, T, T, T, T, T, F, F, F, F, F, F, F, F, F, F, F, F, F, F, F, F, F] rfl rfl (any_of HT_.out (by kernel_rfl)) (fun _ _ _ h => h) (Or.inr ⟨by rfl, rfl⟩) ?_ ?_
               rotate_left
               ·simp only [Act.put, Zj, Zk, Zm, i64_w, i32_w]
                rfl
               refine pure_ (i := 47) (N := some 124) (v := undef) (a' := ?_) #[T, T, T, T, T, T, T, T, T, T, T, T, T, T, T, T, T, T, T, T, T, T, T, T, T, T, T, T, T, T, T, T, T, T, T, T, T, T, T, T, T, T, T, T, T, T, T, T, F, F, F, F, F, F, F, F, F, F, F, F, F, F, F, F] rfl rfl (any_of HT_.out (by kernel_rfl)) (fun _ _ _ h => h) (Or.inr ⟨by rfl, rfl⟩) ?_ ?_
               rotate_left
               ·simp only [Act.put, Zj, Zk, Zm, i64_w, i32_w]
                rfl
               refine pure_ (i := 48) (N := some 125) (v := undef) (a' := ?_) #[T, T, T, T, T, T, T, T, T, T, T, T, T, T, T, T, T, T, T, T, T, T, T, T, T, T, T, T, T, T, T, T, T, T, T, T, T, T, T, T, T, T, T, T, T, T, T, T, T, F, F, F, F, F, F, F, F, F, F, F, F, F, F, F] rfl rfl (any_of HT_.out (by kernel_rfl)) (fun _ _ _ h => h) (Or.inr ⟨by rfl, rfl⟩) ?_ ?_
               rotate_left
               ·simp only [Act.put, Zj, Zk, Zm, i64_w, i32_w]
                rfl
               refine pure_ (i := 49) (N := some 126) (v := undef) (a' := ?_) #[T, T, T, T, T, T, T, T, T, T, T, T, T, T, T, T, T, T, T, T, T, T, T, T, T, T, T, T, T, T, T, T, T, T, T, T, T, T, T, T, T, T, T, T, T, T, T, T, T, T, F, F, F, F, F, F, F, F, F, F, F, F, F, F] rfl rfl (any_of HT_.out (by kernel_rfl)) (fun _ _ _ h => h) (Or.inr ⟨by rfl, rfl⟩) ?_ ?_
               rotate_left
               ·simp only [Act.put, Zj, Zk, Zm, i64_w, i32_w]
                rfl
               refine pure_ (i := 50) (N := some 127) (v := undef) (a' := ?_) #[T, T, T, T, T, T, T, T, T, T, T, T, T, T, T, T, T, T, T, T, T, T, T, T, T, T, T, T, T, T, T, T, T, T, T, T, T, T, T, T, T, T, T, T, T, T, T, T, T, T, T, F, F, F, F, F, F, F, F, F, F, F, F, F] rfl rfl (any_of HT_.out (by kernel_rfl)) (fun _ _ _ h => h) (Or.inr ⟨by rfl, rfl⟩) ?_ ?_
               rotate_left
               ·simp only [Act.put, Zj, Zk, Zm, i64_w, i32_w]
                rfl
               refine pure_ (i := 51) (N := some 128) (v := ?_) (a' := ?_) #[T, T, T, T, T, T, T, T, T, T, T, T, T, T, T, T, T, T, T, T, T, T, T, T, T, T, T, T, T, T, T, T, T, T, T, T, T, T, T, T, T, T, T, T, T, T, T, T, T, T, T, T, F, F, F, F, F, F, F, F, F, F, F, F] rfl rfl (any_of HT_.out (by kernel_rfl)) (fun _ _ _ h => h) (Or.inl ⟨by rfl, ?_⟩) ?_ ?_
               rotate_left
               ·intro w'
                go_simp
                with_reducible rfl
               rotate_left
               ·simp only [Act.put, Zj, Zk, Zm, i64_w, i32_w]
                rfl
               refine pure_ (i := 52) (N := some 129) (v := ?_) (a' := ?_) #[T, T, T, T, T, T, T, T, T, T, T, T, T, T, T, T, T, T, T, T, T, T, T, T, T, T, T, T, T, T, T, T, T, T, T, T, T, T, T, T, T, T, T, T, T, T, T, T, T, T, T, T, T, F, F, F, F, F, F, F, F, F, F, F] rfl rfl (any_of HT_.out (by kernel_rfl)) (fun _ _ _ h => h) (Or.inl ⟨by rfl, ?_⟩) ?_ ?_
               rotate_left
               ·intro w'
                go_simp
                with_reducible rfl
               rotate_left
               ·simp only [Act.put, Zj, Zk, Zm, i64_w, i32_w]
                rfl
               refine pure_ (i := 53) (N := some 130) (v := ?_) (a' := ?_) #[T, T, T, T, T, T, T, T, T, T, T, T, T, T, T, T, T, T, T, T, T, T, T, T, T, T, T, T, T, T, T, T, T, T, T, T, T, T, T, T, T, T, T, T, T, T, T, T, T, T, T, T, T, T, F, F, F, F, F, F, F, F, F, F] rfl rfl (any_of HT_.out (by kernel_rfl)) (fun _ _ _ h => h) (Or.inl ⟨by rfl, ?_⟩) ?_ ?_
               rotate_left
               ·intro w'
                go_simp
                with_reducible rfl
               rotate_left
               ·simp only [Act.put, Zj, Zk, Zm, i64_w, i32_w]
                rfl
               refine pure_ (i := 54) (N := some 131) (v := ?_) (a' := ?_) #[T, T, T, T, T, T, T, T, T, T, T, T, T, T, T, T, T, T, T, T, T, T, T, T, T, T, T, T, T, T, T, T, T, T, T, T, T, T, T, T, T, T, T, T, T, T, T, T, T, T, T, T, T, T, T, F, F, F, F, F, F, F, F, F] rfl rfl (any_of HT_.out (by kernel_rfl)) (fun _ _ _ h => h) (Or.inl ⟨by rfl, ?_⟩) ?_ ?_
               rotate_left
               ·intro w'
                go_simp
                with_reducible rfl
               rotate_left
               ·simp only [Act.put, Zj, Zk, Zm, i64_w, i32_w]
                rfl
               refine pure_ (i := 55) (N := some 132) (v := ?_) (a' := ?_) #[T, T, T, T, T, T, T, T, T, T, T, T, T, T, T, T, T, T, T, T, T, T, T, T, T, T, T, T, T, T, T, T, T, T, T, T, T, T, T, T, T, T, T, T, T, T, T, T, T, T, T, T, T, T, T, T, F, F, F, F, F, F, F, F] rfl rfl (any_of HT_.out (by kernel_rfl)) (fun _ _ _ h => h) (Or.inl ⟨by rfl, ?_⟩) ?_ ?_
               rotate_left
               ·intro w'
                go_simp
                with_reducible rfl
               rotate_left
               ·simp only [Act.put, Zj, Zk, Zm, i64_w, i32_w]
                rfl
               refine pure_ (i := 56) (N := some 133) (v := ?_) (a' := ?_) #[T, T, T, T, T, T, T, T, T, T, T, T, T, T, T, T, T, T, T, T, T, T, T, T, T, T, T, T, T, T, T, T, T, T, T, T, T, T, T, T, T, T, T, T, T, T, T, T, T, T, T, T, T, T, T, T, T, F, F, F, F, F, F, F] rfl rfl (any_of HT_.out (by kernel_rfl)) (fun _ _ _ h => h) (Or.inl ⟨by rfl, ?_⟩) ?_ ?_
               rotate_left
               ·intro w'
                go_simp
                with_reducible rfl
               rotate_left
               ·simp only [Act.put, Zj, Zk, Zm, i64_w, i32_w]
                rfl
               refine pure_ (i := 57) (N := some 134) (v := undef) (a' := ?_) #[T, T, T, T, T, T, T, T, T, T, T, T, T, T, T, T, T, T, T, T, T, T, T, T, T, T, T, T, T, T, T, T, T, T, T, T, T, T, T, T, T, T, T, T, T, T, T, T, T, T, T, T, T, T, T, T, T, T, F, F, F, F, F, F] rfl rfl (any_of HT_.out (by kernel_rfl)) (fun _ _ _ h => h) (Or.inr ⟨by rfl, rfl⟩) ?_ ?_
               rotate_left
               ·simp only [Act.put, Zj, Zk, Zm, i64_w, i32_w]
                rfl
               refine pure_ (i := 58) (N := some 135) (v := undef) (a' := ?_) #[T, T, T, T, T, T, T, T, T, T, T, T, T, T, T, T, T, T, T, T, T, T, T, T, T, T, T, T, T, T, T, T, T, T, T, T, T, T, T, T, T, T, T, T, T, T, T, T, T, T, T, T, T, T, T, T, T, T, T, F, F, F, F, F] rfl rfl (any_of HT_.out (by kernel_rfl)) (fun _ _ _ h => h) (Or.inr ⟨by rfl, rfl⟩) ?_ ?_
               rotate_left
               ·simp only [Act.put, Zj, Zk, Zm, i64_w, i32_w]
                rfl
               refine pure_ (i := 59) (N := some 136) (v := undef) (a' := ?_) #[T, T, T, T, T, T, T, T, T, T, T, T, T, T, T, T, T, T, T, T, T, T, T, T, T, T, T, T, T, T, T, T, T, T, T, T, T, T, T, T, T, T, T, T, T, T, T, T, T, T, T, T, T, T, T, T, T, T, T, T, F, F, F, F] rfl rfl (any_of HT_.out (by kernel_rfl)) (fun _ _ _ h => h) (Or.inr ⟨by rfl, rfl⟩) ?_ ?_
               rotate_left
               ·simp only [Act.put, Zj, Zk, Zm, i64_w, i32_w]
                rfl
               refine pure_ (i := 60) (N := some 137) (v := undef) (a' := ?_) #[T, T, T, T, T, T, T, T, T, T, T, T, T, T, T, T, T, T, T, T, T, T, T, T, T, T, T, T, T, T, T, T, T, T, T, T, T, T, T, T, T, T, T, T, T, T, T, T, T, T, T, T, T, T, T, T, T, T, T, T, T, F, F, F] rfl rfl (any_of HT_.out (by kernel_rfl)) (fun _ _ _ h => h) (Or.inr ⟨by rfl, rfl⟩) ?_ ?_
               rotate_left
               ·simp only [Act.put, Zj, Zk, Zm, i64_w, i32_w]
                rfl
               refine pure_ (i := 61) (N := some 138) (v := undef) (a' := ?_) #[T, T, T, T, T, T, T, T, T, T, T, T, T, T, T, T, T, T, T, T, T, T, T, T, T, T, T, T, T, T, T, T, T, T, T, T, T, T, T, T, T, T, T, T, T, T, T, T, T, T, T, T, T, T, T, T, T, T, T, T, T, T, F, F] rfl rfl (any_of HT_.out (by kernel_rfl)) (fun _ _ _ h => h) (Or.inr ⟨by rfl, rfl⟩) ?_ ?_
               rotate_left
               ·simp only [Act.put, Zj, Zk, Zm, i64_w, i32_w]
                rfl
               refine pure_ (i := 62) (N := some 139) (v := ?_) (a' := ?_) #[T, T, T, T, T, T, T, T, T, T, T, T, T, T, T, T, T, T, T, T, T, T, T, T, T, T, T, T, T, T, T, T, T, T, T, T, T, T, T, T, T, T, T, T, T, T, T, T, T, T, T, T, T, T, T, T, T, T, T, T, T, T, T, F] rfl rfl (any_of HT_.out (by kernel_rfl)) (fun _ _ _ h => h) (Or.inl ⟨by rfl, ?_⟩) ?_ ?_
               rotate_left
               ·intro w'
                go_simp
                with_reducible rfl
               rotate_left
               ·simp only [Act.put, Zj, Zk, Zm, i64_w, i32_w]
                rfl
               refine pure_ (i := 63) (N := some 140) (v := ?_) (a' := ?_) #[T, T, T, T, T, T, T, T, T, T, T, T, T, T, T, T, T, T, T, T, T, T, T, T, T, T, T, T, T, T, T, T, T, T, T, T, T, T, T, T, T, T, T, T, T, T, T, T, T, T, T, T, T, T, T, T, T, T, T, T, T, T, T, T] rfl rfl (any_of HT_.out (by kernel_rfl)) (fun _ _ _ h => h) (Or.inl ⟨by rfl, ?_⟩) ?_ ?_
               rotate_left
               ·intro w'
                go_simp
                with_reducible rfl
               rotate_left
               ·simp only [Act.put, Zj, Zk, Zm, i64_w, i32_w]
                rfl
               refine done_ (QbC HT_.out (by kernel_rfl)) ?_
               try go_wp2
               go_roundg k3
               case measure => have := HJ2.out; have := HK2.out; have := HK3.out; omega
               case rel => exact ⟨(wrap64 (x7_2 + 1)), (Zs), H', ⟨by have := HJ2.out; have := HK2.out; have := HK3.out; omega⟩, ⟨by (with_reducible repeat (first | apply Kd.R_alloc | apply Kd.R_drewN | apply Kd.R_drew)); exact Kd.R_mono HO_5.out (fun _ hk => trivial)⟩, ⟨Zu BK494.out⟩, ⟨Zc2 GE494.out GE505.out⟩⟩
              replace c47 := Bool.eq_false_iff.mpr c47
              subst c47
              have H1 : (if ((rd_T50 t496 x7_2).f3) = ((rd_T50 t496 x7_2).f1) then (contangolaw34_CoverGaps.l0 k3 l0 t496 (wrap64 (x7_2 + 1)) l1_0 l1_1 l1_2) else (none)) = some r := by rw [if_neg (show ¬ (F = T) by decide)] at H; exact H
              clear H
              have H := H1
              clear H1
              have p504 : 0 ≤ (x7_2 : Int) := Ze
              have q504 : x7_2 < (t496.length : Int) := Ze
              obtain ⟨ad504, e504, hx504_0, hx504_1, hx504_2, hx504_3, hx504_4⟩ := at_T50 (Kd.R_reads' HO_5.out).2.2 x7_2 p504 q504
              cases e504
              replace p504 := eq_true p504
              replace q504 := eq_true q504
              try go_wp2_with (first | ((with_reducible refine QaE (N := 10) rfl ?_); (try (refine Qa6 (by rfl) ?_; dsimp only)); refine Zbx (N := 10) (cs := #[.string (⟨#[]⟩ : ByteArray), .string (⟨#[]⟩ : ByteArray), .int .i64 0, .int .i64 0, .int .i64 0]) (t := 50) ?_; intro gb505 hg w53 hbox hb; have BK505 := Aside0.mk (hbox); have GW505 := Aside0.mk (Zt w hg (Zc1 GE494.out)); have GE505 := GW505; have NB494_505 := Aside0.mk (Zn hg BK494.out); have NB505_494 := Aside0.mk NB494_505.out.symm; replace HO_5 := Aside0.mk (Kd.R_below (Kd.R_elderB (Zr HO_5.out) gb505 (Nat.le_of_eq hg.symm)) hb); replace BK494 := Aside0.mk (Zi BK494.out hb); replace HB := Aside0.mk (Qaq (Zc1 GE494.out) hb); clear hb hbox hg; have hnb54 := NB505_494.out; have hnc54 := NB494_505.out; obtain ⟨hcz55_0, hfz55_0⟩ := Zy (v := (.string (⟨#[]⟩ : ByteArray))) BK505.out 0; obtain ⟨hcz55_1, hfz55_1⟩ := Zy (v := (.string (⟨#[]⟩ : ByteArray))) BK505.out 1; obtain ⟨hcz55_2, hfz55_2⟩ := Zy (v := (.int .i64 0)) BK505.out 2; obtain ⟨hcz55_3, hfz55_3⟩ := Zy (v := (.int .i64 0)) BK505.out 3; obtain ⟨hcz55_4, hfz55_4⟩ := Zy (v := (.int .i64 0)) BK505.out 4))
              have n0_ : Aside0 (Kd.R k50 50 (((((w53.setCell ⟨gb505, 0, none⟩ (.string ((rd_T50 t496 x7_2).f0.f0))).setCell ⟨gb505, 1, none⟩ (.string ((rd_T50 t496 x7_2).f0.f1))).setCell ⟨gb505, 2, none⟩ (.int .i64 ((rd_T50 t496 x7_2).f1))).setCell ⟨gb505, 3, none⟩ (.int .i64 ((rd_T50 t496 x7_2).f2))).setCell ⟨gb505, 4, none⟩ (.int .i64 ((rd_T50 t496 x7_2).f3))) w.heap.size (fun k_ => k_ ≠ gb505) (.slice (some ad504) t496.length co14) t496) := ⟨by (with_reducible repeat (first | apply Kd.R_alloc | apply Kd.R_drewN | apply Kd.R_drew)); exact Kd.R_mono (Zf gb505 4 (Zf gb505 3 (Zf gb505 2 (Zf gb505 1 (Zf gb505 0 (Kd.R_mono HO_5.out (fun k_ hk => (⟨hk, hk.2⟩ : _ ∧ k_ ≠ gb505))) (.string ((rd_T50 t496 x7_2).f0.f0))) (.string ((rd_T50 t496 x7_2).f0.f1))) (.int .i64 ((rd_T50 t496 x7_2).f1))) (.int .i64 ((rd_T50 t496 x7_2).f2))) (.int .i64 ((rd_T50 t496 x7_2).f3))) (fun _ hk => hk.1.2)⟩
              have n1_ : Aside0 ((((((w53.setCell ⟨gb505, 0, none⟩ (.string ((rd_T50 t496 x7_2).f0.f0))).setCell ⟨gb505, 1, none⟩ (.string ((rd_T50 t496 x7_2).f0.f1))).setCell ⟨gb505, 2, none⟩ (.int .i64 ((rd_T50 t496 x7_2).f1))).setCell ⟨gb505, 3, none⟩ (.int .i64 ((rd_T50 t496 x7_2).f2))).setCell ⟨gb505, 4, none⟩ (.int .i64 ((rd_T50 t496 x7_2).f3))).heap[gb494]? = some (.cells #[.slice A1_0 l1_0.length c1_0, .slice A1_1 l1_1.length c1_1, .slice A1_2 l1_2.length c1_2] 34 (0, 0))) := ⟨Zg5 BK494.out NB494_505.out NB494_505.out NB494_505.out NB494_505.out NB494_505.out⟩
              have n2_ : Aside0 ((((((w53.setCell ⟨gb505, 0, none⟩ (.string ((rd_T50 t496 x7_2).f0.f0))).setCell ⟨gb505, 1, none⟩ (.string ((rd_T50 t496 x7_2).f0.f1))).setCell ⟨gb505, 2, none⟩ (.int .i64 ((rd_T50 t496 x7_2).f1))).setCell ⟨gb505, 3, none⟩ (.int .i64 ((rd_T50 t496 x7_2).f2))).setCell ⟨gb505, 4, none⟩ (.int .i64 ((rd_T50 t496 x7_2).f3))).heap[gb505]? = some (.cells #[.string ((rd_T50 t496 x7_2).f0.f0), .string ((rd_T50 t496 x7_2).f0.f1), .int .i64 ((rd_T50 t496 x7_2).f1), .int .i64 ((rd_T50 t496 x7_2).f2), .int .i64 ((rd_T50 t496 x7_2).f3)] 50 (0, 0))) := ⟨Zp2 BK505.out⟩
              have n3_ : Aside0 (Below w.heap.size w (((((w53.setCell ⟨gb505, 0, none⟩ (.string ((rd_T50 t496 x7_2).f0.f0))).setCell ⟨gb505, 1, none⟩ (.string ((rd_T50 t496 x7_2).f0.f1))).setCell ⟨gb505, 2, none⟩ (.int .i64 ((rd_T50 t496 x7_2).f1))).setCell ⟨gb505, 3, none⟩ (.int .i64 ((rd_T50 t496 x7_2).f2))).setCell ⟨gb505, 4, none⟩ (.int .i64 ((rd_T50 t496 x7_2).f3)))) := ⟨Zc2 GE494.out GE505.out⟩
              (try clear HO_5)
              (try clear BK494)
              (try clear BK505)
              (try clear HB)
              generalize (((((w53.setCell ⟨gb505, 0, none⟩ (.string ((rd_T50 t496 x7_2).f0.f0))).setCell ⟨gb505, 1, none⟩ (.string ((rd_T50 t496 x7_2).f0.f1))).setCell ⟨gb505, 2, none⟩ (.int .i64 ((rd_T50 t496 x7_2).f1))).setCell ⟨gb505, 3, none⟩ (.int .i64 ((rd_T50 t496 x7_2).f2))).setCell ⟨gb505, 4, none⟩ (.int .i64 ((rd_T50 t496 x7_2).f3))) = w56 at n0_ n1_ n2_ n3_ ⊢
              have HO_5 := n0_
              have BK494 := n1_
              have BK505 := n2_
              have HB := n3_
              clear n0_ n1_ n2_ n3_
              replace HO_5 := Aside0.mk (Kd.R_drew HO_5.out)
              replace BK494 := Aside0.mk (Qac BK494.out)
              replace BK505 := Aside0.mk (Qac BK505.out)
              replace HB := Aside0.mk (Qag HB.out)
              have p506 : 0 ≤ (x7_2 : Int) := Ze
              have q506 : x7_2 < (l0.length : Int) := Ze
              obtain ⟨ad506, e506, hx506_0, hx506_1, hx506_2, hx506_3, hx506_4, hx506_5, hx506_6, hx506_7, hx506_8⟩ := at_T48 HR0.out x7_2 p506 q506
              have hw506_8 := hx506_8
              have hw506_7 := hx506_7
              have hw506_6 := hx506_6
              have hw506_5 := hx506_5
              have hw506_4 := hx506_4
              have hw506_3 := hx506_3
              have hw506_2 := hx506_2
              have hw506_1 := hx506_1
              have hw506_0 := hx506_0
              cases e506
              replace hx506_0 := Zx HB.out hx506_0
              replace hx506_1 := Zx HB.out hx506_1
              replace hx506_2 := Zx HB.out hx506_2
              replace hx506_3 := Zx HB.out hx506_3
              replace hx506_4 := Zx HB.out hx506_4
              replace hx506_5 := Zx HB.out hx506_5
              replace hx506_6 := Zx HB.out hx506_6
              replace hx506_7 := Zx HB.out hx506_7
              replace hx506_8 := Zx HB.out hx506_8
              replace p506 := eq_true p506
              replace q506 := eq_true q506
              have p507 : 0 ≤ (x7_2 : Int) := Ze
              have q507 : x7_2 < (l0.length : Int) := Ze
              obtain ⟨ad507, e507, hx507_0, hx507_1, hx507_2, hx507_3, hx507_4, hx507_5, hx507_6, hx507_7, hx507_8⟩ := at_T48 HR0.out x7_2 p507 q507
              have hw507_8 := hx507_8
              have hw507_7 := hx507_7
              have hw507_6 := hx507_6
              have hw507_5 := hx507_5
              have hw507_4 := hx507_4
              have hw507_3 := hx507_3
              have hw507_2 := hx507_2
              have hw507_1 := hx507_1
              have hw507_0 := hx507_0
              obtain rfl : ad506 = ad507 := (by injection e507)
              replace hx507_0 := Zx HB.out hx507_0
              replace hx507_1 := Zx HB.out hx507_1
              replace hx507_2 := Zx HB.out hx507_2
              replace hx507_3 := Zx HB.out hx507_3
              replace hx507_4 := Zx HB.out hx507_4
              replace hx507_5 := Zx HB.out hx507_5
              replace hx507_6 := Zx HB.out hx507_6
              replace hx507_7 := Zx HB.out hx507_7
              replace hx507_8 := Zx HB.out hx507_8
              replace p507 := eq_true p507
              replace q507 := eq_true q507
              refine start_ (n := 64) (S := fun w' => w'.cell? ⟨gb505, 0, none⟩ = some (.string ((rd_T50 t496 x7_2).f0.f0)) ∧ w'.cell? ⟨gb505, 1, none⟩ = some (.string ((rd_T50 t496 x7_2).f0.f1)) ∧ w'.cell? ⟨gb505, 2, none⟩ = some (.int .i64 ((rd_T50 t496 x7_2).f1)) ∧ w'.cell? ⟨gb505, 3, none⟩ = some (.int .i64 ((rd_T50 t496 x7_2).f2)) ∧ w'.cell? ⟨gb505, 4, none⟩ = some (.int .i64 ((rd_T50 t496 x7_2).f3)) ∧ w'.cell? (ad506.add ((x7_2).toNat * 9)) = some (.string ((rd_T48 l0 x7_2).f0.f0)) ∧ w'.cell? ⟨(ad506.add ((x7_2).toNat * 9)).block, (ad506.add ((x7_2).toNat * 9)).off + 1, none⟩ = some (.string ((rd_T48 l0 x7_2).f0.f1)) ∧ w'.cell? ⟨(ad506.add ((x7_2).toNat * 9)).block, (ad506.add ((x7_2).toNat * 9)).off + 2, none⟩ = some (.int .i64 ((rd_T48 l0 x7_2).f1)) ∧ w'.cell? ⟨(ad506.add ((x7_2).toNat * 9)).block, (ad506.add ((x7_2).toNat * 9)).off + 3, none⟩ = some (.int .i64 ((rd_T48 l0 x7_2).f2)) ∧ w'.cell? ⟨(ad506.add ((x7_2).toNat * 9)).block, (ad506.add ((x7_2).toNat * 9)).off + 4, none⟩ = some (.int .i64 ((rd_T48 l0 x7_2).f3)) ∧ w'.cell? ⟨(ad506.add ((x7_2).toNat * 9)).block, (ad506.add ((x7_2).toNat * 9)).off + 5, none⟩ = some (.int .i64 ((rd_T48 l0 x7_2).f4)) ∧ w'.cell? ⟨(ad506.add ((x7_2).toNat * 9)).block, (ad506.add ((x7_2).toNat * 9)).off + 6, none⟩ = some (.int .i64 ((rd_T48 l0 x7_2).f5)) ∧ w'.cell? ⟨(ad506.add ((x7_2).toNat * 9)).block, (ad506.add ((x7_2).toNat * 9)).off + 7, none⟩ = some (.int .i64 ((rd_T48 l0 x7_2).f6)) ∧ w'.cell? ⟨(ad506.add ((x7_2).toNat * 9)).block, (ad506.add ((x7_2).toNat * 9)).off + 8, none⟩ = some (.int .i64 ((rd_T48 l0 x7_2).f7)) ∧ w'.cell? (ad506.add ((x7_2).toNat * 9)) = some (.string ((rd_T48 l0 x7_2).f0.f0)) ∧ w'.cell? ⟨(ad506.add ((x7_2).toNat * 9)).block, (ad506.add ((x7_2).toNat * 9)).off + 1, none⟩ = some (.string ((rd_T48 l0 x7_2).f0.f1)) ∧ w'.cell? ⟨(ad506.add ((x7_2).toNat * 9)).block, (ad506.add ((x7_2).toNat * 9)).off + 2, none⟩ = some (.int .i64 ((rd_T48 l0 x7_2).f1)) ∧ w'.cell? ⟨(ad506.add ((x7_2).toNat * 9)).block, (ad506.add ((x7_2).toNat * 9)).off + 3, none⟩ = some (.int .i64 ((rd_T48 l0 x7_2).f2)) ∧ w'.cell? ⟨(ad506.add ((x7_2).toNat * 9)).block, (ad506.add ((x7_2).toNat * 9)).off + 4, none⟩ = some (.int .i64 ((rd_T48 l0 x7_2).f3)) ∧ w'.cell? ⟨(ad506.add ((x7_2).toNat * 9)).block, (ad506.add ((x7_2).toNat * 9)).off + 5, none⟩ = some (.int .i64 ((rd_T48 l0 x7_2).f4)) ∧ w'.cell? ⟨(ad506.add ((x7_2).toNat * 9)).block, (ad506.add ((x7_2).toNat * 9)).off + 6, none⟩ = some (.int .i64 ((rd_T48 l0 x7_2).f5)) ∧ w'.cell? ⟨(ad506.add ((x7_2).toNat * 9)).block, (ad506.add ((x7_2).toNat * 9)).off + 7, none⟩ = some (.int .i64 ((rd_T48 l0 x7_2).f6)) ∧ w'.cell? ⟨(ad506.add ((x7_2).toNat * 9)).block, (ad506.add ((x7_2).toNat * 9)).off + 8, none⟩ = some (.int .i64 ((rd_T48 l0 x7_2).f7))) (ds := []) #[F, F, F, F, F, F, F, F, F, F, F, F, F, F, F, F, F, F, F, F, F, F, F, F, F, F, F, F, F, F, F, F, F, F, F, F, F, F, F, F, F, F, F, F, F, F, F, F, F, F, F, F, F, F, F, F, F, F, F, F, F, F, F, F] (by kernel_rfl) rfl rfl ⟨(Qah BK505.out 0).trans rfl, (Qah BK505.out 1).trans rfl, (Qah BK505.out 2).trans rfl, (Qah BK505.out 3).trans rfl, (Qah BK505.out 4).trans rfl, ((HB.out.cell (World.block_lt_of_cell? w _ hw506_0)).trans hw506_0), ((HB.out.cell (World.block_lt_of_cell? w _ hw506_1)).trans hw506_1), ((HB.out.cell (World.block_lt_of_cell? w _ hw506_2)).trans hw506_2), ((HB.out.cell (World.block_lt_of_cell? w _ hw506_3)).trans hw506_3), ((HB.out.cell (World.block_lt_of_cell? w _ hw506_4)).trans hw506_4), ((HB.out.cell (World.block_lt_of_cell? w _ hw506_5)).trans hw506_5), ((HB.out.cell (World.block_lt_of_cell? w _ hw506_6)).trans hw506_6), ((HB.out.cell (World.block_lt_of_cell? w _ hw506_7)).trans hw506_7), ((HB.out.cell (World.block_lt_of_cell? w _ hw506_8)).trans hw506_8), ((HB.out.cell (World.block_lt_of_cell? w _ hw507_0)).trans hw507_0), ((HB.out.cell (World.block_lt_of_cell? w _ hw507_1)).trans hw507_1), ((HB.out.cell (World.block_lt_of_cell? w _ hw507_2)).trans hw507_2), ((HB.out.cell (World.block_lt_of_cell? w _ hw507_3)).trans hw507_3), ((HB.out.cell (World.block_lt_of_cell? w _ hw507_4)).trans hw507_4), ((HB.out.cell (World.block_lt_of_cell? w _ hw507_5)).trans hw507_5), ((HB.out.cell (World.block_lt_of_cell? w _ hw507_6)).trans hw507_6), ((HB.out.cell (World.block_lt_of_cell? w _ hw507_7)).trans hw507_7), ((HB.out.cell (World.block_lt_of_cell? w _ hw507_8)).trans hw507_8)⟩ (fun hHeld => ?_); refine Qbt contangolaw34_CoverGaps.tab17 contangolaw34_CoverGaps.bits17 (fun HT_ HW_ => ?_)
              generalize w56.drew = w57 at HO_5 BK494 BK505 HB hx506_0 hx506_1 hx506_2 hx506_3 hx506_4 hx506_5 hx506_6 hx506_7 hx506_8 hx507_0 hx507_1 hx507_2 hx507_3 hx507_4 hx507_5 hx507_6 hx507_7 hx507_8 hHeld ⊢
              refine pure_ (i := 0) (N := some 77) (v := ?_) (a' := ?_) #[T, F, F, F, F, F, F, F, F, F, F, F, F, F, F, F, F, F, F, F, F, F, F, F, F, F, F, F, F, F, F, F, F, F, F, F, F, F, F, F, F, F, F, F, F, F, F, F, F, F, F, F, F, F, F, F, F, F, F, F, F, F, F, F] rfl rfl (any_of HT_.out (by kernel_rfl)) (fun _ _ _ h => h) (Or.inl ⟨by rfl, ?_⟩) ?_ ?_
              rotate_left
              ·intro w'
               go_simp
               with_reducible rfl
              rotate_left
              ·simp only [Act.put, Zj, Zk, Zm, i64_w, i32_w]
               rfl
              refine pure_ (i := 2) (N := some 79) (v := ?_) (a' := ?_) #[T, F, T, F, F, F, F, F, F, F, F, F, F, F, F, F, F, F, F, F, F, F, F, F, F, F, F, F, F, F, F, F, F, F, F, F, F, F, F, F, F, F, F, F, F, F, F, F, F, F, F, F, F, F, F, F, F, F, F, F, F, F, F, F] rfl rfl (any_of HT_.out (by kernel_rfl)) (fun _ _ _ h => h) (Or.inl ⟨by rfl, ?_⟩) ?_ ?_
              rotate_left
              ·intro w'
               go_simp
               with_reducible rfl
              rotate_left
              ·simp only [Act.put, Zj, Zk, Zm, i64_w, i32_w]
               rfl
              refine pure_ (i := 3) (N := some 80) (v := ?_) (a' := ?_) #[T, F, T, T, F, F, F, F, F, F, F, F, F, F, F, F, F, F, F, F, F, F, F, F, F, F, F, F, F, F, F, F, F, F, F, F, F, F, F, F, F, F, F, F, F, F, F, F, F, F, F, F, F, F, F, F, F, F, F, F, F, F, F, F] rfl rfl (any_of HT_.out (by kernel_rfl)) (fun _ _ _ h => h) (Or.inl ⟨by rfl, ?_⟩) ?_ ?_
              rotate_left
              ·intro w'
               go_simp
               with_reducible rfl
              rotate_left
              ·simp only [Act.put, Zj, Zk, Zm, i64_w, i32_w]
               rfl
              refine pure_ (i := 4) (N := some 81) (v := ?_) (a' := ?_) #[T, F, T, T, T, F, F, F, F, F, F, F, F, F, F, F, F, F, F, F, F, F, F, F, F, F, F, F, F, F, F, F, F, F, F, F, F, F, F, F, F, F, F, F, F, F, F, F, F, F, F, F, F, F, F, F, F, F, F, F, F, F, F, F] rfl rfl (any_of HT_.out (by kernel_rfl)) (fun _ _ _ h => h) (Or.inl ⟨by rfl, ?_⟩) ?_ ?_
              rotate_left
              ·intro w'
               go_simp
               with_reducible rfl
              rotate_left
              ·simp only [Act.put, Zj, Zk, Zm, i64_w, i32_w]
               rfl
              refine pure_ (i := 5) (N := some 82) (v := ?_) (a' := ?_) #[T, F, T, T, T, T, F, F, F, F, F, F, F, F, F, F, F, F, F, F, F, F, F, F, F, F, F, F, F, F, F, F, F, F, F, F, F, F, F, F, F, F, F, F, F, F, F, F, F, F, F, F, F, F, F, F, F, F, F, F, F, F, F, F] rfl rfl (any_of HT_.out (by kernel_rfl)) (fun _ _ _ h => h) (Or.inl ⟨by rfl, ?_⟩) ?_ ?_
              rotate_left
              ·intro w'
               go_simp
               with_reducible rfl
              rotate_left
              ·simp only [Act.put, Zj, Zk, Zm, i64_w, i32_w]
               rfl
              refine take_ (i := 1) (N := some 78) (v := ?_) (a' := ?_) #[T, T, T, T, T, T, F, F, F, F, F, F, F, F, F, F, F, F, F, F, F, F, F, F, F, F, F, F, F, F, F, F, F, F, F, F, F, F, F, F, F, F, F, F, F, F, F, F, F, F, F, F, F, F, F, F, F, F, F, F, F, F, F, F] rfl rfl (QaF HT_.out HW_.out (by kernel_rfl)) (fun _ _ _ h => h) (Or.inl ⟨by rfl, ?_⟩) hHeld ?_ ?_
              rotate_left
              ·rintro w' ⟨s0, s1, s2, s3, s4, s5, s6, s7, s8, s9, s10, s11, s12, s13, s14, s15, s16, s17, s18, s19, s20, s21, s22⟩
               go_simp
               with_reducible rfl
              rotate_left
              ·simp only [Act.put, Zj, Zk, Zm, i64_w, i32_w]
               rfl
              refine take_ (i := 6) (N := some 83) (v := ?_) (a' := ?_) #[T, T, T, T, T, T, T, F, F, F, F, F, F, F, F, F, F, F, F, F, F, F, F, F, F, F, F, F, F, F, F, F, F, F, F, F, F, F, F, F, F, F, F, F, F, F, F, F, F, F, F, F, F, F, F, F, F, F, F, F, F, F, F, F] rfl rfl (QaF HT_.out HW_.out (by kernel_rfl)) (fun _ _ _ h => h) (Or.inl ⟨by rfl, ?_⟩) hHeld ?_ ?_
              rotate_left
              ·rintro w' ⟨s0, s1, s2, s3, s4, s5, s6, s7, s8, s9, s10, s11, s12, s13, s14, s15, s16, s17, s18, s19, s20, s21, s22⟩
               go_simp
               with_reducible rfl
              rotate_left
              ·simp only [Act.put, Zj, Zk, Zm, i64_w, i32_w]
               rfl
              refine pure_ (i := 7) (N := some 84) (v := ?_) (a' := ?_) #[T, T, T, T, T, T, T, T, F, F, F, F, F, F, F, F, F, F, F, F, F, F, F, F, F, F, F, F, F, F, F, F, F, F, F, F, F, F, F, F, F, F, F, F, F, F, F, F, F, F, F, F, F, F, F, F, F, F, F, F, F, F, F, F] rfl rfl (any_of HT_.out (by kernel_rfl)) (fun _ _ _ h => h) (Or.inl ⟨by rfl, ?_⟩) ?_ ?_
              rotate_left
              ·intro w'
               go_simp
               with_reducible rfl
              rotate_left
              ·simp only [Act.put, Zj, Zk, Zm, i64_w, i32_w]
               rfl
              refine pure_ (i := 8) (N := some 85) (v := ?_) (a' := ?_) #[T, T, T, T, T, T, T, T, T, F, F, F, F, F, F, F, F, F, F, F, F, F, F, F, F, F, F, F, F, F, F, F, F, F, F, F, F, F, F, F, F, F, F, F, F, F, F, F, F, F, F, F, F, F, F, F, F, F, F, F, F, F, F, F] rfl rfl (any_of HT_.out (by kernel_rfl)) (fun _ _ _ h => h) (Or.inl ⟨by rfl, ?_⟩) ?_ ?_
              rotate_left
              ·intro w'
               go_simp
               with_reducible rfl
              rotate_left
              ·simp only [Act.put, Zj, Zk, Zm, i64_w, i32_w]
               rfl
              refine pure_ (i := 9) (N := some 86) (v := ?_) (a' := ?_) #[T, T, T, T, T, T, T, T, T, T, F, F, F, F, F, F, F, F, F, F, F, F, F, F, F, F, F, F, F, F, F, F, F, F, F, F, F, F, F, F, F, F, F, F, F, F, F, F, F, F, F, F, F, F, F, F, F, F, F, F, F, F, F, F] rfl rfl (any_of HT_.out (by kernel_rfl)) (fun _ _ _ h => h) (Or.inl ⟨by rfl, ?_⟩) ?_ ?_
              rotate_left
              ·intro w'
               go_simp
               with_reducible rfl
              rotate_left
              ·simp only [Act.put, Zj, Zk, Zm, i64_w, i32_w]
               rfl
              refine pure_ (i := 11) (N := some 88) (v := ?_) (a' := ?_) #[T, T, T, T, T, T, T, T, T, T, F, T, F, F, F, F, F, F, F, F, F, F, F, F, F, F, F, F, F, F, F, F, F, F, F, F, F, F, F, F, F, F, F, F, F, F, F, F, F, F, F, F, F, F, F, F, F, F, F, F, F, F, F, F] rfl rfl (any_of HT_.out (by kernel_rfl)) (fun _ _ _ h => h) (Or.inl ⟨by rfl, ?_⟩) ?_ ?_
              rotate_left
              ·intro w'
               go_simp
               with_reducible rfl
              rotate_left
              ·simp only [Act.put, Zj, Zk, Zm, i64_w, i32_w]
               rfl
              refine pure_ (i := 12) (N := some 89) (v := ?_) (a' := ?_) #[T, T, T, T, T, T, T, T, T, T, F, T, T, F, F, F, F, F, F, F, F, F, F, F, F, F, F, F, F, F, F, F, F, F, F, F, F, F, F, F, F, F, F, F, F, F, F, F, F, F, F, F, F, F, F, F, F, F, F, F, F, F, F, F] rfl rfl (any_of HT_.out (by kernel_rfl)) (fun _ _ _ h => h) (Or.inl ⟨by rfl, ?_⟩) ?_ ?_
              rotate_left
              ·intro w'
               go_simp
               with_reducible rfl
              rotate_left
              ·simp only [Act.put, Zj, Zk, Zm, i64_w, i32_w]
               rfl
              refine pure_ (i := 13) (N := some 90) (v := ?_) (a' := ?_) #[T, T, T, T, T, T, T, T, T, T, F, T, T, T, F, F, F, F, F, F, F, F, F, F, F, F, F, F, F, F, F, F, F, F, F, F, F, F, F, F, F, F, F, F, F, F, F, F, F, F, F, F, F, F, F, F, F, F, F, F, F, F, F, F] rfl rfl (any_of HT_.out (by kernel_rfl)) (fun _ _ _ h => h) (Or.inl ⟨by rfl, ?_⟩) ?_ ?_
              rotate_left
              ·intro w'
               go_simp
               with_reducible rfl
              rotate_left
              ·simp only [Act.put, Zj, Zk, Zm, i64_w, i32_w]
               rfl
              refine pure_ (i := 14) (N := some 91) (v := ?_) (a' := ?_) #[T, T, T, T, T, T, T, T, T, T, F, T, T, T, T, F, F, F, F, F, F, F, F, F, F, F, F, F, F, F, F, F, F, F, F, F, F, F, F, F, F, F, F, F, F, F, F, F, F, F, F, F, F, F, F, F, F, F, F, F, F, F, F, F] rfl rfl (any_of HT_.out (by kernel_rfl)) (fun _ _ _ h => h) (Or.inl ⟨by rfl, ?_⟩) ?_ ?_
              rotate_left
              ·intro w'
               go_simp
               with_reducible rfl
              rotate_left
              ·simp only [Act.put, Zj, Zk, Zm, i64_w, i32_w]
               rfl
              refine take_ (i := 10) (N := some 87) (v := ?_) (a' := ?_) #[T, T, T, T, T, T, T, T, T, T, T, T, T, T, T, F, F, F, F, F, F, F, F, F, F, F, F, F, F, F, F, F, F, F, F, F, F, F, F, F, F, F, F, F, F, F, F, F, F, F, F, F, F, F, F, F, F, F, F, F, F, F, F, F] rfl rfl (QaF HT_.out HW_.out (by kernel_rfl)) (fun _ _ _ h => h) (Or.inl ⟨by rfl, ?_⟩) hHeld ?_ ?_
              rotate_left
              ·rintro w' ⟨s0, s1, s2, s3, s4, s5, s6, s7, s8, s9, s10, s11, s12, s13, s14, s15, s16, s17, s18, s19, s20, s21, s22⟩
               go_simp
               with_reducible rfl
              rotate_left
              ·simp only [Act.put, Zj, Zk, Zm, i64_w, i32_w]
               rfl
              refine take_ (i := 15) (N := some 92) (v := ?_) (a' := ?_) #[T, T, T, T, T, T, T, T, T, T, T, T, T, T, T, T, F, F, F, F, F, F, F, F, F, F, F, F, F, F, F, F, F, F, F, F, F, F, F, F, F, F, F, F, F, F, F, F, F, F, F, F, F, F, F, F, F, F, F, F, F, F, F, F] rfl rfl (QaF HT_.out HW_.out (by kernel_rfl)) (fun _ _ _ h => h) (Or.inl ⟨by rfl, ?_⟩) hHeld ?_ ?_
              rotate_left
              ·rintro w' ⟨s0, s1, s2, s3, s4, s5, s6, s7, s8, s9, s10, s11, s12, s13, s14, s15, s16, s17, s18, s19, s20, s21, s22⟩
               go_simp
               with_reducible rfl
              rotate_left
              ·simp only [Act.put, Zj, Zk, Zm, i64_w, i32_w]
               rfl
              refine pure_ (i := 16) (N := some 93) (v := ?_) (a' := ?_) #[T, T, T, T, T, T, T, T, T, T, T, T, T, T, T, T, T, F, F, F, F, F, F, F, F, F, F, F, F, F, F, F, F, F, F, F, F, F, F, F, F, F, F, F, F, F, F, F, F, F, F, F, F, F, F, F, F, F, F, F, F, F, F, F] rfl rfl (any_of HT_.out (by kernel_rfl)) (fun _ _ _ h => h) (Or.inl ⟨by rfl, ?_⟩) ?_ ?_
              rotate_left
              ·intro w'
               go_simp
               with_reducible rfl
              rotate_left
              ·simp only [Act.put, Zj, Zk, Zm, i64_w, i32_w]
               rfl
              refine pure_ (i := 17) (N := some 94) (v := ?_) (a' := ?_) #[T, T, T, T, T, T, T, T, T, T, T, T, T, T, T, T, T, T, F, F, F, F, F, F, F, F, F, F, F, F, F, F, F, F, F, F, F, F, F, F, F, F, F, F, F, F, F, F, F, F, F, F, F, F, F, F, F, F, F, F, F, F, F, F] rfl rfl (any_of HT_.out (by kernel_rfl)) (fun _ _ _ h => h) (Or.inl ⟨by rfl, ?_⟩) ?_ ?_
              rotate_left
              ·intro w'
               go_simp
               with_reducible rfl
              rotate_left
              ·simp only [Act.put, Zj, Zk, Zm, i64_w, i32_w]
               rfl
              refine pure_ (i := 18) (N := some 95) (v := ?_) (a' := ?_) #[T, T, T, T, T, T, T, T, T, T, T, T, T, T, T, T, T, T, T, F, F, F, F, F, F, F, F, F, F, F, F, F, F, F, F, F, F, F, F, F, F, F, F, F, F, F, F, F, F, F, F, F, F, F, F, F, F, F, F, F, F, F, F, F] rfl rfl (any_of HT_.out (by kernel_rfl)) (fun _ _ _ h => h) (Or.inl ⟨by rfl, ?_⟩) ?_ ?_
              rotate_left
              ·intro w'
               go_simp
               with_reducible rfl
              rotate_left
              ·simp only [Act.put, Zj, Zk, Zm, i64_w, i32_w]
               rfl
              refine pure_ (i := 19) (N := some 96) (v := ?_) (a' := ?_) #[T, T, T, T, T, T, T, T, T, T, T, T, T, T, T, T, T, T, T, T, F, F, F, F, F, F, F, F, F, F, F, F, F, F, F, F, F, F, F, F, F, F, F, F, F, F, F, F, F, F, F, F, F, F, F, F, F, F, F, F, F, F, F, F] rfl rfl (any_of HT_.out (by kernel_rfl)) (fun _ _ _ h => h) (Or.inl ⟨by rfl, ?_⟩) ?_ ?_
              rotate_left
              ·intro w'
               go_simp
               with_reducible rfl
              rotate_left
              ·simp only [Act.put, Zj, Zk, Zm, i64_w, i32_w]
               rfl
              refine take_ (i := 20) (N := some 97) (v := ?_) (a' := ?_) #[T, T, T, T, T, T, T, T, T, T, T, T, T, T, T, T, T, T, T, T, T, F, F, F, F, F, F, F, F, F, F, F, F, F, F, F, F, F, F, F, F, F, F, F, F, F, F, F, F, F, F, F, F, F, F, F, F, F, F, F, F, F, F, F] rfl rfl (QaF HT_.out HW_.out (by kernel_rfl)) (fun _ _ _ h => h) (Or.inl ⟨by rfl, ?_⟩) hHeld ?_ ?_
              rotate_left
              ·rintro w' ⟨s0, s1, s2, s3, s4, s5, s6, s7, s8, s9, s10, s11, s12, s13, s14, s15, s16, s17, s18, s19, s20, s21, s22⟩
               go_simp
               with_reducible rfl
              rotate_left
              ·simp only [Act.put, Zj, Zk, Zm, i64_w, i32_w]
               rfl
              refine pure_ (i := 21) (N := some 98) (v := ?_) (a' := ?_) #[T, T, T, T, T, T, T, T, T, T, T, T, T, T, T, T, T, T, T, T, T, T, F, F, F, F, F, F, F, F, F, F, F, F, F, F, F, F, F, F, F, F, F, F, F, F, F, F, F, F, F, F, F, F, F, F, F, F, F, F, F, F, F, F] rfl rfl (any_of HT_.out (by kernel_rfl)) (fun _ _ _ h => h) (Or.inl ⟨by rfl, ?_⟩) ?_ ?_
              rotate_left
              ·intro w'
               go_simp
               with_reducible rfl
              rotate_left
              ·simp only [Act.put, Zj, Zk, Zm, i64_w, i32_w]
               rfl
              refine pure_ (i := 22) (N := some 99) (v := ?_) (a' := ?_) #[T, T, T, T, T, T, T, T, T, T, T, T, T, T, T, T, T, T, T, T, T, T, T, F, F, F, F, F, F, F, F, F, F, F, F, F, F, F, F, F, F, F, F, F, F, F, F, F, F, F, F, F, F, F, F, F, F, F, F, F, F, F, F, F] rfl rfl (any_of HT_.out (by kernel_rfl)) (fun _ _ _ h => h) (Or.inl ⟨by rfl, ?_⟩) ?_ ?_
              rotate_left
              ·intro w'
               go_simp
               with_reducible rfl
              rotate_left
              ·simp only [Act.put, Zj, Zk, Zm, i64_w, i32_w]
               rfl
              refine pure_ (i := 23) (N := some 100) (v := ?_) (a' := ?_) #[T, T, T, T, T, T, T, T, T, T, T, T, T, T, T, T, T, T, T, T, T, T, T, T, F, F, F, F, F, F, F, F, F, F, F, F, F, F, F, F, F, F, F, F, F, F, F, F, F, F, F, F, F, F, F, F, F, F, F, F, F, F, F, F] rfl rfl (any_of HT_.out (by kernel_rfl)) (fun _ _ _ h => h) (Or.inl ⟨by rfl, ?_⟩) ?_ ?_
              rotate_left
              ·intro w'
               go_simp
               with_reducible rfl
              rotate_left
              ·simp only [Act.put, Zj, Zk, Zm, i64_w, i32_w]
               rfl
              refine pure_ (i := 24) (N := some 101) (v := ?_) (a' := ?_) #[T, T, T, T, T, T, T, T, T, T, T, T, T, T, T, T, T, T, T, T, T, T, T, T, T, F, F, F, F, F, F, F, F, F, F, F, F, F, F, F, F, F, F, F, F, F, F, F, F, F, F, F, F, F, F, F, F, F, F, F, F, F, F, F] rfl rfl (any_of HT_.out (by kernel_rfl)) (fun _ _ _ h => h) (Or.inl ⟨by rfl, ?_⟩) ?_ ?_
              rotate_left
              ·intro w'
               go_simp
               with_reducible rfl
              rotate_left
              ·simp only [Act.put, Zj, Zk, Zm, i64_w, i32_w]
               rfl
              refine take_ (i := 25) (N := some 102) (v := ?_) (a' := ?_) #[T, T, T, T, T, T, T, T, T, T, T, T, T, T, T, T, T, T, T, T, T, T, T, T, T, T, F, F, F, F, F, F, F, F, F, F, F, F, F, F, F, F, F, F, F, F, F, F, F, F, F, F, F, F, F, F, F, F, F, F, F, F, F, F] rfl rfl (QaF HT_.out HW_.out (by kernel_rfl)) (fun _ _ _ h => h) (Or.inl ⟨by rfl, ?_⟩) hHeld ?_ ?_
              rotate_left
              ·rintro w' ⟨s0, s1, s2, s3, s4, s5, s6, s7, s8, s9, s10, s11, s12, s13, s14, s15, s16, s17, s18, s19, s20, s21, s22⟩
               go_simp
               with_reducible rfl
              rotate_left
              ·simp only [Act.put, Zj, Zk, Zm, i64_w, i32_w]
               rfl
              refine pure_ (i := 26) (N := some 103) (v := ?_) (a' := ?_) #[T, T, T, T, T, T, T, T, T, T, T, T, T, T, T, T, T, T, T, T, T, T, T, T, T, T, T, F, F, F, F, F, F, F, F, F, F, F, F, F, F, F, F, F, F, F, F, F, F, F, F, F, F, F, F, F, F, F, F, F, F, F, F, F] rfl rfl (any_of HT_.out (by kernel_rfl)) (fun _ _ _ h => h) (Or.inl ⟨by rfl, ?_⟩) ?_ ?_
              rotate_left
              ·intro w'
               go_simp
               with_reducible rfl
              rotate_left
              ·simp only [Act.put, Zj, Zk, Zm, i64_w, i32_w]
               rfl
              refine pure_ (i := 27) (N := some 104) (v := ?_) (a' := ?_) #[T, T, T, T, T, T, T, T, T, T, T, T, T, T, T, T, T, T, T, T, T, T, T, T, T, T, T, T, F, F, F, F, F, F, F, F, F, F, F, F, F, F, F, F, F, F, F, F, F, F, F, F, F, F, F, F, F, F, F, F, F, F, F, F] rfl rfl (any_of HT_.out (by kernel_rfl)) (fun _ _ _ h => h) (Or.inl ⟨by rfl, ?_⟩) ?_ ?_
              rotate_left
              ·intro w'
               go_simp
               with_reducible rfl
              rotate_left
              ·simp only [Act.put, Zj, Zk, Zm, i64_w, i32_w]
               rfl
              refine pure_ (i := 28) (N := some 105) (v := ?_) (a' := ?_) #[T, T, T, T, T, T, T, T, T, T, T, T, T, T, T, T, T, T, T, T, T, T, T, T, T, T, T, T, T, F, F, F, F, F, F, F, F, F, F, F, F, F, F, F, F, F, F, F, F, F, F, F, F, F, F, F, F, F, F, F, F, F, F, F] rfl rfl (any_of HT_.out (by kernel_rfl)) (fun _ _ _ h => h) (Or.inl ⟨by rfl, ?_⟩) ?_ ?_
              rotate_left
              ·intro w'
               go_simp
               with_reducible rfl
              rotate_left
              ·simp only [Act.put, Zj, Zk, Zm, i64_w, i32_w]
               rfl
              refine pure_ (i := 29) (N := some 106) (v := ?_) (a' := ?_) #[T, T, T, T, T, T, T, T, T, T, T, T, T, T, T, T, T, T, T, T, T, T, T, T, T, T, T, T, T, T, F, F, F, F, F, F, F, F, F, F, F, F, F, F, F, F, F, F, F, F, F, F, F, F, F, F, F, F, F, F, F, F, F, F] rfl rfl (any_of HT_.out (by kernel_rfl)) (fun _ _ _ h => h) (Or.inl ⟨by rfl, ?_⟩) ?_ ?_
              rotate_left
              ·intro w'
               go_simp
               with_reducible rfl
              rotate_left
              ·simp only [Act.put, Zj, Zk, Zm, i64_w, i32_w]
               rfl
              refine pure_ (i := 31) (N := some 108) (v := ?_) (a' := ?_) #[T, T, T, T, T, T, T, T, T, T, T, T, T, T, T, T, T, T, T, T, T, T, T, T, T, T, T, T, T, T, F, T, F, F, F, F, F, F, F, F, F, F, F, F, F, F, F, F, F, F, F, F, F, F, F, F, F, F, F, F, F, F, F, F] rfl rfl (any_of HT_.out (by kernel_rfl)) (fun _ _ _ h => h) (Or.inl ⟨by rfl, ?_⟩) ?_ ?_
              rotate_left
              ·intro w'
               go_simp
               with_reducible rfl
              rotate_left
              ·simp only [Act.put, Zj, Zk, Zm, i64_w, i32_w]
               rfl
              refine pure_ (i := 34) (N := some 111) (v := ?_) (a' := ?_) #[T, T, T, T, T, T, T, T, T, T, T, T, T, T, T, T, T, T, T, T, T, T, T, T, T, T, T, T, T, T, F, T, F, F, T, F, F, F, F, F, F, F, F, F, F, F, F, F, F, F, F, F, F, F, F, F, F, F, F, F, F, F, F, F] rfl rfl (any_of HT_.out (by kernel_rfl)) (fun _ _ _ h => h) (Or.inl ⟨by rfl, ?_⟩) ?_ ?_
              rotate_left
              ·intro w'
               go_simp
               with_reducible rfl
              rotate_left
              ·simp only [Act.put, Zj, Zk, Zm, i64_w, i32_w]
               rfl
              refine take_ (i := 30) (N := some 107) (v := ?_) (a' := ?_) #[T, T, T, T, T, T, T, T, T, T, T, T, T, T, T, T, T, T, T, T, T, T, T, T, T, T, T, T, T, T, T, T, F, F, T, F, F, F, F, F, F, F, F, F, F, F, F, F, F, F, F, F, F, F, F, F, F, F, F, F, F, F, F, F] rfl rfl (QaF HT_.out HW_.out (by kernel_rfl)) (fun _ _ _ h => h) (Or.inl ⟨by rfl, ?_⟩) hHeld ?_ ?_
              rotate_left
              ·rintro w' ⟨s0, s1, s2, s3, s4, s5, s6, s7, s8, s9, s10, s11, s12, s13, s14, s15, s16, s17, s18, s19, s20, s21, s22⟩
               go_simp
               with_reducible rfl
              rotate_left
              ·simp only [Act.put, Zj, Zk, Zm, i64_w, i32_w]
               rfl
              refine take_ (i := 32) (N := some 109) (v := ?_) (a' := ?_) #[T, T, T, T, T, T, T, T, T, T, T, T, T, T, T, T, T, T, T, T, T, T, T, T, T, T, T, T, T, T, T, T, T, F, T, F, F, F, F, F, F, F, F, F, F, F, F, F, F, F, F, F, F, F, F, F, F, F, F, F, F, F, F, F] rfl rfl (QaF HT_.out HW_.out (by kernel_rfl)) (fun _ _ _ h => h) (Or.inl ⟨by rfl, ?_⟩) hHeld ?_ ?_
              rotate_left
              ·rintro w' ⟨s0, s1, s2, s3, s4, s5, s6, s7, s8, s9, s10, s11, s12, s13, s14, s15, s16, s17, s18, s19, s20, s21, s22⟩
               go_simp
               with_reducible rfl
              rotate_left
              ·simp only [Act.put, Zj, Zk, Zm, i64_w, i32_w]
               rfl
              refine pure_ (i := 33) (N := some 110) (v := ?_) (a' := ?_) #[T, T, T, T, T, T, T, T, T, T, T, T, T, T, T, T, T, T, T, T, T, T, T, T, T, T, T, T, T, T, T, T, T, T, T, F, F, F, F, F, F, F, F, F, F, F, F, F, F, F, F, F, F, F, F, F, F, F, F, F, F, F, F, F] rfl rfl (any_of HT_.out (by kernel_rfl)) (fun _ _ _ h => h) (Or.inl ⟨by rfl, ?_⟩) ?_ ?_
              rotate_left
              ·intro w'
               go_simp
               with_reducible rfl
              rotate_left
              ·simp only [Act.put, Zj, Zk, Zm, i64_w, i32_w]
               rfl
              refine take_ (i := 35) (N := some 112) (v := ?_) (a' := ?_) #[T, T, T, T, T, T, T, T, T, T, T, T, T, T, T, T, T, T, T, T, T, T, T, T, T, T, T, T, T, T, T, T, T, T, T, T, F, F, F, F, F, F, F, F, F, F, F, F, F, F, F, F, F, F, F, F, F, F, F, F, F, F, F, F] rfl rfl (QaF HT_.out HW_.out (by kernel_rfl)) (fun _ _ _ h => h) (Or.inl ⟨by rfl, ?_⟩) hHeld ?_ ?_
              rotate_left
              ·rintro w' ⟨s0, s1, s2, s3, s4, s5, s6, s7, s8, s9, s10, s11, s12, s13, s14, s15, s16, s17, s18, s19, s20, s21, s22⟩
               go_simp
               with_reducible rfl
              rotate_left
              ·simp only [Act.put, Zj, Zk, Zm, i64_w, i32_w]
               rfl
              refine pure_ (i := 36) (N := some 113) (v := ?_) (a' := ?_) #[T, T, T, T, T, T, T, T, T, T, T, T, T, T, T, T, T, T, T, T, T, T, T, T, T, T, T, T, T, T, T, T, T, T, T, T, T, F, F, F, F, F, F, F, F, F, F, F, F, F, F, F, F, F, F, F, F, F, F, F, F, F, F, F] rfl rfl (any_of HT_.out (by kernel_rfl)) (fun _ _ _ h => h) (Or.inl ⟨by rfl, ?_⟩) ?_ ?_
              rotate_left
              ·intro w'
               go_simp
               with_reducible rfl
              rotate_left
              ·simp only [Act.put, Zj, Zk, Zm, i64_w, i32_w]
               rfl
              refine pure_ (i := 37) (N := some 114) (v := ?_) (a' := ?_) #[T, T, T, T, T, T, T, T, T, T, T, T, T, T, T, T, T, T, T, T, T, T, T, T, T, T, T, T, T, T, T, T, T, T, T, T, T, T, F, F, F, F, F, F, F, F, F, F, F, F, F, F, F, F, F, F, F, F, F, F, F, F, F, F] rfl rfl (any_of HT_.out (by kernel_rfl)) (fun _ _ _ h => h) (Or.inl ⟨by rfl, ?_⟩) ?_ ?_
              rotate_left
              ·intro w'
               go_simp
               with_reducible rfl
              rotate_left
              ·simp only [Act.put, Zj, Zk, Zm, i64_w, i32_w]
               rfl
              refine pure_ (i := 38) (N := some 115) (v := ?_) (a' := ?_) #[T, T, T, T, T, T, T, T, T, T, T, T, T, T, T, T, T, T, T, T, T, T, T, T, T, T, T, T, T, T, T, T, T, T, T, T, T, T, T, F, F, F, F, F, F, F, F, F, F, F, F, F, F, F, F, F, F, F, F, F, F, F, F, F] rfl rfl (any_of HT_.out (by kernel_rfl)) (fun _ _ _ h => h) (Or.inl ⟨by rfl, ?_⟩) ?_ ?_
              rotate_left
              ·intro w'
               go_simp
               with_reducible rfl
              rotate_left
              ·simp only [Act.put, Zj, Zk, Zm, i64_w, i32_w]
               rfl
              refine pure_ (i := 39) (N := some 116) (v := ?_) (a' := ?_) #[T, T, T, T, T, T, T, T, T, T, T, T, T, T, T, T, T, T, T, T, T, T, T, T, T, T, T, T, T, T, T, T, T, T, T, T, T, T, T, T, F, F, F, F, F, F, F, F, F, F, F, F, F, F, F, F, F, F, F, F, F, F, F, F] rfl rfl (any_of HT_.out (by kernel_rfl)) (fun _ _ _ h => h) (Or.inl ⟨by rfl, ?_⟩) ?_ ?_
              rotate_left
              ·intro w'
               go_simp
               with_reducible rfl
              rotate_left
              ·simp only [Act.put, Zj, Zk, Zm, i64_w, i32_w]
               rfl
              refine take_ (i := 40) (N := some 117) (v := ?_) (a' := ?_) #[T, T, T, T, T, T, T, T, T, T, T, T, T, T, T, T, T, T, T, T, T, T, T, T, T, T, T, T, T, T, T, T, T, T, T, T, T, T, T, T, T, F, F, F, F, F, F, F, F, F, F, F, F, F, F, F, F, F, F, F, F, F, F, F] rfl rfl (QaF HT_.out HW_.out (by kernel_rfl)) (fun _ _ _ h => h) (Or.inl ⟨by rfl, ?_⟩) hHeld ?_ ?_
              rotate_left
              ·rintro w' ⟨s0, s1, s2, s3, s4, s5, s6, s7, s8, s9, s10, s11, s12, s13, s14, s15, s16, s17, s18, s19, s20, s21, s22⟩
               go_simp
               with_reducible rfl
              rotate_left
              ·simp only [Act.put, Zj, Zk, Zm, i64_w, i32_w]
               rfl
              refine pure_ (i := 41) (N := some 118) (v := ?_) (a' := ?_) #[T, T, T, T, T, T, T, T, T, T, T, T, T, T, T, T, T, T, T, T, T, T, T, T, T, T, T, T, T, T, T, T, T, T, T, T, T, T, T, T, T, T, F, F, F, F, F, F, F, F, F, F, F, F, F, F, F, F, F, F, F, F, F, F] rfl rfl (any_of HT_.out (by kernel_rfl)) (fun _ _ _ h => h) (Or.inl ⟨by rfl, ?_⟩) ?_ ?_
              rotate_left
              ·intro w'
               go_simp
               with_reducible rfl
              rotate_left
              ·simp only [Act.put, Zj, Zk, Zm, i64_w, i32_w]
               rfl
              refine pure_ (i := 42) (N := some 119) (v := ?_) (a' := ?_) #[T, T, T, T, T, T, T, T, T, T, T, T, T, T, T, T, T, T, T, T, T, T, T, T, T, T, T, T, T, T, T, T, T, T, T, T, T, T, T, T, T, T, T, F, F, F, F, F, F, F, F, F, F, F, F, F, F, F, F, F, F, F, F, F] rfl rfl (any_of HT_.out (by kernel_rfl)) (fun _ _ _ h => h) (Or.inl ⟨by rfl, ?_⟩) ?_ ?_
              rotate_left
              ·intro w'
               go_simp
               with_reducible rfl
              rotate_left
              ·simp only [Act.put, Zj, Zk, Zm, i64_w, i32_w]
               rfl
              refine pure_ (i := 43) (N := some 120) (v := undef) (a' := ?_) #[T, T, T, T, T, T, T, T, T, T, T, T, T, T, T, T, T, T, T, T, T, T, T, T, T, T, T, T, T, T, T, T, T, T, T, T, T, T, T, T, T, T, T, T, F, F, F, F, F, F, F, F, F, F, F, F, F, F, F, F, F, F, F, F] rfl rfl (any_of HT_.out (by kernel_rfl)) (fun _ _ _ h => h) (Or.inr ⟨by rfl, rfl⟩) ?_ ?_
              rotate_left
              ·simp only [Act.put, Zj, Zk, Zm, i64_w, i32_w]
               rfl
              refine pure_ (i := 44) (N := some 121) (v := undef) (a' := ?_) #[T, T, T, T, T, T, T, T, T, T, T, T, T, T, T, T, T, T, T, T, T, T, T, T, T, T, T, T, T, T, T, T, T, T, T, T, T, T, T, T, T, T, T, T, T, F, F, F, F, F, F, F, F, F, F, F, F, F, F, F, F, F, F, F] rfl rfl (any_of HT_.out (by kernel_rfl)) (fun _ _ _ h => h) (Or.inr ⟨by rfl, rfl⟩) ?_ ?_
              rotate_left
              ·simp only [Act.put, Zj, Zk, Zm, i64_w, i32_w]
               rfl
              refine pure_ (i := 45) (N := some 122) (v := undef) (a' := ?_) #[T, T, T, T, T, T, T, T, T, T, T, T, T, T, T, T, T, T, T, T, T, T, T, T, T, T, T, T, T, T, T, T, T, T, T, T, T, T, T, T, T, T, T, T, T, T, F, F, F, F, F, F, F, F, F, F, F, F, F, F, F, F, F, F] rfl rfl (any_of HT_.out (by kernel_rfl)) (fun _ _ _ h => h) (Or.inr ⟨by rfl, rfl⟩) ?_ ?_
              rotate_left
              ·simp only [Act.put, Zj, Zk, Zm, i64_w, i32_w]
               rfl
              refine pure_ (i := 46) (N := some 123) (v := undef) (a' := ?_) #[T, T, T, T, T, T, T, T, T, T, T, T, T, T, T, T, T, T, T, T, T, T, T, T, T, T, T, T, T, T, T, T, T, T, T, T, T, T, T, T, T, T, T, T, T, T, T, F, F, F, F, F, F, F, F, F, F, F, F, F, F, F, F, F] rfl rfl (any_of HT_.out (by kernel_rfl)) (fun _ _ _ h => h) (Or.inr ⟨by rfl, rfl⟩) ?_ ?_
              rotate_left
              ·simp only [Act.put, Zj, Zk, Zm, i64_w, i32_w]
               rfl
              refine pure_ (i := 47) (N := some 124) (v := undef) (a' := ?_) #[T, T, T, T, T, T, T, T, T, T, T, T, T, T, T, T, T, T, T, T, T, T, T, T, T, T, T, T, T, T, T, T, T, T, T, T, T, T, T, T, T, T, T, T, T, T, T, T, F, F, F, F, F, F, F, F, F, F, F, F, F, F, F, F] rfl rfl (any_of HT_.out (by kernel_rfl)) (fun _ _ _ h => h) (Or.inr ⟨by rfl, rfl⟩) ?_ ?_
              rotate_left
              ·simp only [Act.put, Zj, Zk, Zm, i64_w, i32_w]
               rfl
              refine pure_ (i := 48) (N := some 125) (v := undef) (a' := ?_) #[T, T, T, T, T, T, T, T, T, T, T, T, T, T, T, T, T, T, T, T, T, T, T, T, T, T, T, T, T, T, T, T, T, T, T, T, T, T, T, T, T, T, T, T, T, T, T, T, T, F, F, F, F, F, F, F, F, F, F, F, F, F, F, F] rfl rfl (any_of HT_.out (by kernel_rfl)) (fun _ _ _ h => h) (Or.inr ⟨by rfl, rfl⟩) ?_ ?_
              rotate_left
              ·simp only [Act.put, Zj, Zk, Zm, i64_w, i32_w]
               rfl
              refine pure_ (i := 49) (N := some 126) (v := undef) (a' := ?_) #[T, T, T, T, T, T, T, T, T, T, T, T, T, T, T, T, T, T, T, T, T, T, T, T, T, T, T, T, T, T, T, T, T, T, T, T, T, T, T, T, T, T, T, T, T, T, T, T, T, T, F, F, F, F, F, F, F, F, F, F, F, F, F, F] rfl rfl (any_of HT_.out (by kernel_rfl)) (fun _ _ _ h => h) (Or.inr ⟨by rfl, rfl⟩) ?_ ?_
              rotate_left
              ·simp only [Act.put, Zj, Zk, Zm, i64_w, i32_w]
               rfl
              refine pure_ (i := 50) (N := some 127) (v := undef) (a' := ?_) #[T, T, T, T, T, T, T, T, T, T, T, T, T, T, T, T, T, T, T, T, T, T, T, T, T, T, T, T, T, T, T, T, T, T, T, T, T, T, T, T, T, T, T, T, T, T, T, T, T, T, T, F, F, F, F, F, F, F, F, F, F, F, F, F] rfl rfl (any_of HT_.out (by kernel_rfl)) (fun _ _ _ h => h) (Or.inr ⟨by rfl, rfl⟩) ?_ ?_
              rotate_left
              ·simp only [Act.put, Zj, Zk, Zm, i64_w, i32_w]
               rfl
              refine pure_ (i := 51) (N := some 128) (v := ?_) (a' := ?_) #[T, T, T, T, T, T, T, T, T, T, T, T, T, T, T, T, T, T, T, T, T, T, T, T, T, T, T, T, T, T, T, T, T, T, T, T, T, T, T, T, T, T, T, T, T, T, T, T, T, T, T, T, F, F, F, F, F, F, F, F, F, F, F, F] rfl rfl (any_of HT_.out (by kernel_rfl)) (fun _ _ _ h => h) (Or.inl ⟨by rfl, ?_⟩) ?_ ?_
              rotate_left
              ·intro w'
               go_simp
               with_reducible rfl
              rotate_left
              ·simp only [Act.put, Zj, Zk, Zm, i64_w, i32_w]
               rfl
              refine pure_ (i := 52) (N := some 129) (v := ?_) (a' := ?_) #[T, T, T, T, T, T, T, T, T, T, T, T, T, T, T, T, T, T, T, T, T, T, T, T, T, T, T, T, T, T, T, T, T, T, T, T, T, T, T, T, T, T, T, T, T, T, T, T, T, T, T, T, T, F, F, F, F, F, F, F, F, F, F, F] rfl rfl (any_of HT_.out (by kernel_rfl)) (fun _ _ _ h => h) (Or.inl ⟨by rfl, ?_⟩) ?_ ?_
              rotate_left
              ·intro w'
               go_simp
               with_reducible rfl
              rotate_left
              ·simp only [Act.put, Zj, Zk, Zm, i64_w, i32_w]
               rfl
              refine pure_ (i := 53) (N := some 130) (v := ?_) (a' := ?_) #[T, T, T, T, T, T, T, T, T, T, T, T, T, T, T, T, T, T, T, T, T, T, T, T, T, T, T, T, T, T, T, T, T, T, T, T, T, T, T, T, T, T, T, T, T, T, T, T, T, T, T, T, T, T, F, F, F, F, F, F, F, F, F, F] rfl rfl (any_of HT_.out (by kernel_rfl)) (fun _ _ _ h => h) (Or.inl ⟨by rfl, ?_⟩) ?_ ?_
              rotate_left
              ·intro w'
               go_simp
               with_reducible rfl
              rotate_left
              ·simp only [Act.put, Zj, Zk, Zm, i64_w, i32_w]
               rfl
              refine pure_ (i := 54) (N := some 131) (v := ?_) (a' := ?_) #[T, T, T, T, T, T, T, T, T, T, T, T, T, T, T, T, T, T, T, T, T, T, T, T, T, T, T, T, T, T, T, T, T, T, T, T, T, T, T, T, T, T, T, T, T, T, T, T, T, T, T, T, T, T, T, F, F, F, F, F, F, F, F, F] rfl rfl (any_of HT_.out (by kernel_rfl)) (fun _ _ _ h => h) (Or.inl ⟨by rfl, ?_⟩) ?_ ?_
              rotate_left
              ·intro w'
               go_simp
               with_reducible rfl
              rotate_left
              ·simp only [Act.put, Zj, Zk, Zm, i64_w, i32_w]
               rfl
              refine pure_ (i := 55) (N := some 132) (v := ?_) (a' := ?_) #[T, T, T, T, T, T, T, T, T, T, T, T, T, T, T, T, T, T, T, T, T, T, T, T, T, T, T, T, T, T, T, T, T, T, T, T, T, T, T, T, T, T, T, T, T, T, T, T, T, T, T, T, T, T, T, T, F, F, F, F, F, F, F, F] rfl rfl (any_of HT_.out (by kernel_rfl)) (fun _ _ _ h => h) (Or.inl ⟨by rfl, ?_⟩) ?_ ?_
              rotate_left
              ·intro w'
               go_simp
               with_reducible rfl
              rotate_left
              ·simp only [Act.put, Zj, Zk, Zm, i64_w, i32_w]
               rfl
              refine pure_ (i := 56) (N := some 133) (v := ?_) (a' := ?_) #[T, T, T, T, T, T, T, T, T, T, T, T, T, T, T, T, T, T, T, T, T, T, T, T, T, T, T, T, T, T, T, T, T, T, T, T, T, T, T, T, T, T, T, T, T, T, T, T, T, T, T, T, T, T, T, T, T, F, F, F, F, F, F, F] rfl rfl (any_of HT_.out (by kernel_rfl)) (fun _ _ _ h => h) (Or.inl ⟨by rfl, ?_⟩) ?_ ?_
              rotate_left
              ·intro w'
               go_simp
               with_reducible rfl
              rotate_left
              ·simp only [Act.put, Zj, Zk, Zm, i64_w, i32_w]
               rfl
              refine pure_ (i := 57) (N := some 134) (v := ?_) (a' := ?_) #[T, T, T, T, T, T, T, T, T, T, T, T, T, T, T, T, T, T, T, T, T, T, T, T, T, T, T, T, T, T, T, T, T, T, T, T, T, T, T, T, T, T, T, T, T, T, T, T, T, T, T, T, T, T, T, T, T, T, F, F, F, F, F, F] rfl rfl (any_of HT_.out (by kernel_rfl)) (fun _ _ _ h => h) (Or.inl ⟨by rfl, ?_⟩) ?_ ?_
              rotate_left
              ·intro w'
               go_simp
               with_reducible rfl
              rotate_left
              ·simp only [Act.put, Zj, Zk, Zm, i64_w, i32_w]
               rfl
              refine pure_ (i := 59) (N := some 136) (v := ?_) (a' := ?_) #[T, T, T, T, T, T, T, T, T, T, T, T, T, T, T, T, T, T, T, T, T, T, T, T, T, T, T, T, T, T, T, T, T, T, T, T, T, T, T, T, T, T, T, T, T, T, T, T, T, T, T, T, T, T, T, T, T, T, F, T, F, F, F, F] rfl rfl (any_of HT_.out (by kernel_rfl)) (fun _ _ _ h => h) (Or.inl ⟨by rfl, ?_⟩) ?_ ?_
              rotate_left
              ·intro w'
               go_simp
               with_reducible rfl
              rotate_left
              ·simp only [Act.put, Zj, Zk, Zm, i64_w, i32_w]
               rfl
              refine take_ (i := 58) (N := some 135) (v := ?_) (a' := ?_) #[T, T, T, T, T, T, T, T, T, T, T, T, T, T, T, T, T, T, T, T, T, T, T, T, T, T, T, T, T, T, T, T, T, T, T, T, T, T, T, T, T, T, T, T, T, T, T, T, T, T, T, T, T, T, T, T, T, T, T, T, F, F, F, F] rfl rfl (QaF HT_.out HW_.out (by kernel_rfl)) (fun _ _ _ h => h) (Or.inl ⟨by rfl, ?_⟩) hHeld ?_ ?_
              rotate_left
              ·rintro w' ⟨s0, s1, s2, s3, s4, s5, s6, s7, s8, s9, s10, s11, s12, s13, s14, s15, s16, s17, s18, s19, s20, s21, s22⟩
               go_simp
               with_reducible rfl
              rotate_left
              ·simp only [Act.put, Zj, Zk, Zm, i64_w, i32_w]
               rfl
              refine take_ (i := 60) (N := some 137) (v := ?_) (a' := ?_) #[T, T, T, T, T, T, T, T, T, T, T, T, T, T, T, T, T, T, T, T, T, T, T, T, T, T, T, T, T, T, T, T, T, T, T, T, T, T, T, T, T, T, T, T, T, T, T, T, T, T, T, T, T, T, T, T, T, T, T, T, T, F, F, F] rfl rfl (QaF HT_.out HW_.out (by kernel_rfl)) (fun _ _ _ h => h) (Or.inl ⟨by rfl, ?_⟩) hHeld ?_ ?_
              rotate_left
              ·rintro w' ⟨s0, s1, s2, s3, s4, s5, s6, s7, s8, s9, s10, s11, s12, s13, s14, s15, s16, s17, s18, s19, s20, s21, s22⟩
               go_simp
               with_reducible rfl
              rotate_left
              ·simp only [Act.put, Zj, Zk, Zm, i64_w, i32_w]
               rfl
              refine pure_ (i := 61) (N := some 138) (v := ?_) (a' := ?_) #[T, T, T, T, T, T, T, T, T, T, T, T, T, T, T, T, T, T, T, T, T, T, T, T, T, T, T, T, T, T, T, T, T, T, T, T, T, T, T, T, T, T, T, T, T, T, T, T, T, T, T, T, T, T, T, T, T, T, T, T, T, T, F, F] rfl rfl (any_of HT_.out (by kernel_rfl)) (fun _ _ _ h => h) (Or.inl ⟨by rfl, ?_⟩) ?_ ?_
              rotate_left
              ·intro w'
               go_simp
               with_reducible rfl
              rotate_left
              ·simp only [Act.put, Zj, Zk, Zm, i64_w, i32_w]
               rfl
              refine pure_ (i := 62) (N := some 139) (v := ?_) (a' := ?_) #[T, T, T, T, T, T, T, T, T, T, T, T, T, T, T, T, T, T, T, T, T, T, T, T, T, T, T, T, T, T, T, T, T, T, T, T, T, T, T, T, T, T, T, T, T, T, T, T, T, T, T, T, T, T, T, T, T, T, T, T, T, T, T, F] rfl rfl (any_of HT_.out (by kernel_rfl)) (fun _ _ _ h => h) (Or.inl ⟨by rfl, ?_⟩) ?_ ?_
              rotate_left
              ·intro w'
               go_simp
               with_reducible rfl
              rotate_left
              ·simp only [Act.put, Zj, Zk, Zm, i64_w, i32_w]
               rfl
              refine pure_ (i := 63) (N := some 140) (v := ?_) (a' := ?_) #[T, T, T, T, T, T, T, T, T, T, T, T, T, T, T, T, T, T, T, T, T, T, T, T, T, T, T, T, T, T, T, T, T, T, T, T, T, T, T, T, T, T, T, T, T, T, T, T, T, T, T, T, T, T, T, T, T, T, T, T, T, T, T, T] rfl rfl (any_of HT_.out (by kernel_rfl)) (fun _ _ _ h => h) (Or.inl ⟨by rfl, ?_⟩) ?_ ?_
              rotate_left
              ·intro w'
               go_simp
               with_reducible rfl
              rotate_left
              ·simp only [Act.put, Zj, Zk, Zm, i64_w, i32_w]
               rfl
              refine done_ (QbC HT_.out (by kernel_rfl)) ?_
              go_upto_if 140 with (fail)
              by_cases c58 : ((rd_T50 t496 x7_2).f3) = ((rd_T50 t496 x7_2).f1)
              ·rw [if_pos c58] at H
               have c58b0 : (((rd_T50 t496 x7_2).f3) == ((rd_T50 t496 x7_2).f1)) = T := beq_iff_eq.mpr c58
               have c58b1 : (((rd_T50 t496 x7_2).f3) != ((rd_T50 t496 x7_2).f1)) = F := bne_eq_false_iff_eq.mpr c58
               clear c58
               (try simp only [c58b0, c58b1])
               have H' := Aside0.mk H
               clear H
               go_wp2
               go_roundg k3
               case measure => have := HJ2.out; have := HK2.out; have := HK3.out; omega
               case rel => exact ⟨(wrap64 (x7_2 + 1)), (Zs), H', ⟨by have := HJ2.out; have := HK2.out; have := HK3.out; omega⟩, ⟨by (with_reducible repeat (first | apply Kd.R_alloc | apply Kd.R_drewN | apply Kd.R_drew)); exact Kd.R_mono HO_5.out (fun _ hk => trivial)⟩, ⟨Zu BK494.out⟩, ⟨Zc2 GE494.out GE505.out⟩⟩
              rw [if_neg c58] at H
              exact absurd H (by simp)
             rw [if_neg c29] at H
             have c29b0 : (((rd_T50 t496 x7_2).f1) == ((rd_T48 l0 x7_2).f7)) = F := beq_eq_false_iff_ne.mpr c29
             have c29b1 : (((rd_T50 t496 x7_2).f1) != ((rd_T48 l0 x7_2).f7)) = T := bne_iff_ne.mpr c29
             exact absurd H (by simp)
            rw [if_neg c27] at H
            exact absurd H (by simp)
           rw [if_neg c26] at H
           exact absurd H (by simp)
          rw [if_neg c25] at H
          exact absurd H (by simp)
       rw [if_neg c16] at H
       have c16b0 : decide (x7_2 < (t496.length : Int)) = F := decide_eq_false c16
       clear c16
       (try simp only [c16b0])
       replace H := Option.bind_eq_some_iff.mp H
       obtain ⟨t501, A590, H⟩ := H
       replace H : (some t501) = some r := H
       have A59 := Aside0.mk A590
       clear A590
       obtain rfl := Option.some.inj H
       go_wp2_with (first | ((with_reducible refine QaA (f := 17) rfl ?_); refine goesL_ (some 141) rfl rfl Try.func17 (by kernel_rfl) rfl #[] rfl (Zl) ?_; (with_reducible refine (QaK.calls k2  t501 _ A59.out).mono ?_); rintro e w60 ⟨rfl, hb⟩; refine ⟨_, rfl, ?_⟩; replace HO_5 := Aside0.mk (Kd.R_below (Zr HO_5.out) hb); replace BK494 := Aside0.mk (Zi BK494.out hb); replace HB := Aside0.mk (Qaq (Zc1 GE494.out) hb); (try clear hb); (try clear hb2); (try clear hk); (try clear hi)))
       go_ret
       exact ⟨Zq, Zc1 GE494.out⟩
    rw [if_neg c15] at H
    exact absurd H (by simp)
   rw [if_neg c13] at H
   have c13b0 : (t497 == 0) = F := beq_eq_false_iff_ne.mpr c13
   have c13b1 : (t497 != 0) = T := bne_iff_ne.mpr c13
   (try simp only [c13b0, c13b1])
   by_cases c61 : (t496.length : Int) = 0
   ·rw [if_pos c61] at H
    have c61b0 : ((t496.length : Int) == 0) = T := beq_iff_eq.mpr c61
    have c61b1 : ((t496.length : Int) != 0) = F := bne_eq_false_iff_eq.mpr c61
    clear c61
    replace H := Option.bind_eq_some_iff.mp H
    obtain ⟨t500, A620, H⟩ := H
    replace H : (some t500) = some r := H
    have A62 := Aside0.mk A620
    clear A620
    obtain rfl := Option.some.inj H
    obtain ⟨Ao63, co63, eo63⟩ := Kd.R_slice HO499.out
    subst eo63
    go_wp2_with (first | (go_at_call 17; (with_reducible refine (QaK.calls kj2  t500 _ A62.out).mono ?_); rintro e w64 ⟨rfl, hb⟩; replace HO499 := Aside0.mk (Kd.R_below (Zr HO499.out) hb); replace BK494 := Aside0.mk (Zi BK494.out hb); replace HB := Aside0.mk (Qaq (Zc1 GE494.out) hb); (try clear hb); (try clear hb2); (try clear hk); (try clear hi)))
    go_ret
    exact ⟨Zq, Zc1 GE494.out⟩
   rw [if_neg c61] at H
   exact absurd H (by simp)
end Go.Proofs.Ytfcaaefdmabkhaa.Pr
