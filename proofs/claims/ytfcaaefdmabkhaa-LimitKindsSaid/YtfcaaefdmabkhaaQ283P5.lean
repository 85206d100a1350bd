/- Functions' values and contracts, as the print wrote them. -/
import Derived.Test.YtfcaaefdmabkhaaQ283P0
import Derived.Test.YtfcaaefdmabkhaaQ283P3
import Derived.Test.YtfcaaefdmabkhaaQ283P4
import Derived.Test.YtfcaaefdmabkhaaQ283P1
namespace Go.Proofs.Ytfcaaefdmabkhaa.Pr
open Bool renaming true → T
open Bool renaming false → F
open Go.RowKit Go.Proofs.YtfcaaefdmabkhaaW.PrintWords Go.Proofs.YtfcaaefdmabkhaaW.PrintLast Go.Proofs.YtfcaaefdmabkhaaW.PrintMore
attribute [local go_sem] QaS QaU Qa2 Qa3 QaK QaL QaT QaV   -- for this text's walks alone
set_option linter.unusedVariables false
set_option linter.unusedSimpArgs false
set_option maxRecDepth 100000
set_option maxHeartbeats 8000000
def QaN.l0 : Nat → List (S84) → List (S98) → List (S46) → Int → Int → Int → Int → Int → Int → Option (Int × Int × Int × Int × Int)
 | 0, _, _, _, _, _, _, _, _, _ => none
 | k + 1, x302, x303, x332, x333, x334, x682000, x682001, x682002, x682003 => if x334 < x333 then (if 0 ≤ x334 then (if x334 < (x332.length : Int) then ((Qbe.f k x302 ((rd_T46 x332 x334).f1)).bind fun bt690 => ((Qbf.f k bt690.1 bt690.2.1 bt690.2.2.1 bt690.2.2.2.1 bt690.2.2.2.2.1 bt690.2.2.2.2.2.1 ((rd_T46 x332 x334).f2) x303).bind fun bt698 => (if bt698.2 = 0 then (if bt690.2.1 = 0 then (QaN.l0 k x302 x303 x332 x333 (wrap64 (x334 + 1)) (wrap64 (x682000 + bt698.1)) x682001 x682002 x682003) else (if bt690.2.1 = 1 then (QaN.l0 k x302 x303 x332 x333 (wrap64 (x334 + 1)) x682000 (wrap64 (x682001 + bt698.1)) x682002 x682003) else (if bt690.2.1 = 2 then (QaN.l0 k x302 x303 x332 x333 (wrap64 (x334 + 1)) x682000 x682001 (wrap64 (x682002 + bt698.1)) x682003) else (if bt690.2.1 = 3 then (QaN.l0 k x302 x303 x332 x333 (wrap64 (x334 + 1)) x682000 x682001 x682002 (wrap64 (x682003 + bt698.1))) else (none))))) else (some (0, 0, 0, 0, bt698.2))))) else (none)) else (none)) else (some (x682000, x682001, x682002, x682003, 0))
def QaN.f (k : Nat) (l0 : List (S46)) (a1_0 : ByteArray) (a1_1 : ByteArray) (l2 : List (S84)) (l3 : List (S98)) : Option (Int × Int × Int × Int × Int) := (QaW.f k l0 a1_0 a1_1 l2 l3).bind fun bt683 => (if bt683.2 = 0 then ((Qa6.f k l0 a1_0 a1_1).bind fun t685 => (QaN.l0 k l2 l3 t685 (t685.length : Int) 0 0 0 0 0)) else (some (0, 0, 0, 0, bt683.2)))
theorem QaN.mono_l : ∀ k, (∀ y0 y1 y2 y3 y4 y5 y6 y7 y8, LeO (QaN.l0 k y0 y1 y2 y3 y4 y5 y6 y7 y8) (QaN.l0 (k + 1) y0 y1 y2 y3 y4 y5 y6 y7 y8))
 | 0 => fun _ _ _ _ _ _ _ _ _ r h => by simp [QaN.l0] at h
 | k + 1 => by
  have ih0 := QaN.mono_l k
  intro y0 y1 y2 y3 y4 y5 y6 y7 y8
  unfold QaN.l0
  exact ZM5 ih0 Qbe.mono Qbf.mono Qa6.mono QaW.mono
theorem QaN.mono : ∀ a0 a1 a2 a3 a4 k, LeO (QaN.f k a0 a1 a2 a3 a4) (QaN.f (k + 1) a0 a1 a2 a3 a4) := by
 intro a0 a1 a2 a3 a4 k
 have ih0 := QaN.mono_l k
 unfold QaN.f
 exact ZM5 ih0 Qbe.mono Qbf.mono Qa6.mono QaW.mono
theorem QaN.calls (k : Nat) (A0 : Option Addr) (c0 : Nat) (l0 : List (S46)) (a1_0 : ByteArray) (a1_1 : ByteArray) (A2 : Option Addr) (c2 : Nat) (l2 : List (S84)) (A3 : Option Addr) (c3 : Nat) (l3 : List (S98)) (r1 : Int) (r2 : Int) (r3 : Int) (r4 : Int) (r5 : Int) (w : World) (hr0 : Kd.C k46 w A0 l0.length l0) (hc0 : l0.length ≤ c0) (hr2 : Kd.C k84 w A2 l2.length l2) (hc2 : l2.length ≤ c2) (hr3 : Kd.C k98 w A3 l3.length l3) (hc3 : l3.length ≤ c3) (h : QaN.f k l0 a1_0 a1_1 l2 l3 = some (r1, r2, r3, r4, r5)) :
  Calls Try.prog 35 #[.slice A0 l0.length c0, .agg #[.string a1_0, .string a1_1], .slice A2 l2.length c2, .slice A3 l3.length c3] w fun e w' => e = .returned (.tuple #[.agg #[.int .i64 r1, .int .i64 r2, .int .i64 r3, .int .i64 r4], .int .i64 r5]) ∧ Below w.heap.size w w' := by
 have hu44 := Try.underlying44
 have hu74 := Try.underlying74
 have HR0 := Aside0.mk hr0
 have HC0 := Aside0.mk hc0
 clear hr0 hc0
 have HR2 := Aside0.mk hr2
 have HC2 := Aside0.mk hc2
 clear hr2 hc2
 have HR3 := Aside0.mk hr3
 have HC3 := Aside0.mk hc3
 clear hr3 hc3
 have HB := Aside0.mk (Below.refl w.heap.size w)
 have H : ((QaW.f k l0 a1_0 a1_1 l2 l3).bind fun bt683 => (if bt683.2 = 0 then ((Qa6.f k l0 a1_0 a1_1).bind fun t685 => (QaN.l0 k l2 l3 t685 (t685.length : Int) 0 0 0 0 0)) else (some (0, 0, 0, 0, bt683.2)))) = some (r1, r2, r3, r4, r5) := h
 clear h
 replace H := Option.bind_eq_some_iff.mp H
 obtain ⟨⟨t683, t684⟩, A50, H⟩ := H
 replace H : (if t684 = 0 then ((Qa6.f k l0 a1_0 a1_1).bind fun t685 => (QaN.l0 k l2 l3 t685 (t685.length : Int) 0 0 0 0 0)) else (some (0, 0, 0, 0, t684))) = some (r1, r2, r3, r4, r5) := H
 have A5 := Aside0.mk A50
 clear A50
 go_enter Try.func35, Try.ntmps35
 go_upto_if 28 with (first | ((with_reducible refine QaJ (N := 5) rfl ?_); (refine gate_n (n := 21) rfl ?_); refine Zbx (N := 5) (cs := #[.string a1_0, .string a1_1]) (t := 44) ?_; intro gb680 hg w6 hbox hb; have BK680 := Aside0.mk (hbox); have GW680 := Aside0.mk (Zt w hg (Zb)); have GE680 := GW680; replace HB := Aside0.mk (Qao (Zb) hb); clear hb hbox hg) | ((with_reducible refine QaJ (N := 8) rfl ?_); (refine gate_n (n := 21) rfl ?_); refine Zbx (N := 8) (cs := #[.int .i64 0, .int .i64 0, .int .i64 0, .int .i64 0]) (t := 74) ?_; intro gb681 hg w7 hbox hb; have BK681 := Aside0.mk (hbox); have GW681 := Aside0.mk (Zt w hg (Zc1 GE680.out)); have GE681 := GW681; have NB680_681 := Aside0.mk (Zn hg BK680.out); have NB681_680 := Aside0.mk NB680_681.out.symm; replace BK680 := Aside0.mk (Zi BK680.out hb); replace HB := Aside0.mk (Qao (Zc1 GE680.out) hb); clear hb hbox hg; have hnb8 := NB680_681.out; have hnc8 := NB681_680.out; obtain ⟨hcz9_0, hfz9_0⟩ := Zy (v := (.string a1_0)) BK680.out 0; obtain ⟨hcz9_1, hfz9_1⟩ := Zy (v := (.string a1_1)) BK680.out 1) | (go_at_call 55; go_in) | ((with_reducible refine QaJ (N := 6) rfl ?_); (refine gate_n (n := 61) rfl ?_); refine Zbx (N := 6) (cs := #[.string a1_0, .string a1_1]) (t := 44) ?_; intro gb682 hg w10 hbox hb; have BK682 := Aside0.mk (hbox); have GW682 := Aside0.mk (Zt w hg (Zc2 GE680.out GE681.out)); have GE682 := GW682; have NB680_682 := Aside0.mk (Zn hg BK680.out); have NB682_680 := Aside0.mk NB680_682.out.symm; have NB681_682 := Aside0.mk (Zn hg BK681.out); have NB682_681 := Aside0.mk NB681_682.out.symm; replace BK680 := Aside0.mk (Zi BK680.out hb); replace BK681 := Aside0.mk (Zi BK681.out hb); replace HB := Aside0.mk (Qao (Zc2 GE680.out GE681.out) hb); clear hb hbox hg; have hnb11 := NB682_680.out; have hnc11 := NB680_682.out; have hnb12 := NB682_681.out; have hnc12 := NB681_682.out; obtain ⟨hcz13_0, hfz13_0⟩ := Zy (v := (.string a1_0)) BK682.out 0; obtain ⟨hcz13_1, hfz13_1⟩ := Zy (v := (.string a1_1)) BK682.out 1) | ((with_reducible refine Qax (f := 85) rfl ?_); refine goesL_ (some 24) rfl rfl Try.func85 (by kernel_rfl) rfl #[.slice A0 l0.length c0, .agg #[.string a1_0, .string a1_1], .slice A2 l2.length c2, .slice A3 l3.length c3] rfl (Zl) ?_; (with_reducible refine (QaW.calls k _ _ l0 a1_0 a1_1 _ _ l2 _ _ l3 t683 t684 _ ?side1 ?side2 ?side3 ?side4 ?side5 ?side6 A5.out).mono ?_); (case side1 => exact Zv (Kd.C_below HR0.out HB.out)); (case side2 => exact HC0.out); (case side3 => exact Zv (Kd.C_below HR2.out HB.out)); (case side4 => exact HC2.out); (case side5 => exact Zv (Kd.C_below HR3.out HB.out)); (case side6 => exact HC3.out); rintro e w14 ⟨rfl, hb⟩; refine ⟨_, rfl, ?_⟩; replace BK680 := Aside0.mk (Zi BK680.out hb); replace BK681 := Aside0.mk (Zi BK681.out hb); replace BK682 := Aside0.mk (Zi BK682.out hb); replace HB := Aside0.mk (Qao (Zc3 GE680.out GE681.out GE682.out) hb); (try clear hb); (try clear hb2); (try clear hk); (try clear hi)))
 (try simp only [Act.put, Zj, Zk, Zm])
 by_cases c15 : t684 = 0
 ·rw [if_pos c15] at H
  have c15b0 : (t684 == 0) = T := beq_iff_eq.mpr c15
  have c15b1 : (t684 != 0) = F := bne_eq_false_iff_eq.mpr c15
  clear c15
  (try simp only [c15b0, c15b1])
  replace H := Option.bind_eq_some_iff.mp H
  obtain ⟨t685, A160, H⟩ := H
  replace H : (QaN.l0 k l2 l3 t685 (t685.length : Int) 0 0 0 0 0) = some (r1, r2, r3, r4, r5) := H
  have A16 := Aside0.mk A160
  clear A160
  have H' := Aside0.mk H
  clear H
  have hnb17 := NB682_680.out
  have hnc17 := NB680_682.out
  have hnb18 := NB682_681.out
  have hnc18 := NB681_682.out
  obtain ⟨hcz19_0, hfz19_0⟩ := Zy (v := (.string a1_0)) BK682.out 0
  obtain ⟨hcz19_1, hfz19_1⟩ := Zy (v := (.string a1_1)) BK682.out 1
  go_wp2_with (first | ((with_reducible refine Qax (f := 86) rfl ?_); refine goesL_ (some 32) rfl rfl Try.func86 (by kernel_rfl) rfl #[.slice A0 l0.length c0, .agg #[.string a1_0, .string a1_1]] rfl (Zl) ?_; (with_reducible refine (Qa6.calls k _ _ l0 a1_0 a1_1 t685 _ ?side1 ?side2 A16.out).mono ?_); (case side1 => exact Zv (Kd.C_below HR0.out HB.out)); (case side2 => exact HC0.out); rintro e w20 ⟨v686, rfl, ho0, hb⟩; refine ⟨_, rfl, ?_⟩; have HO687 := Aside0.mk (Kd.R_lower ho0 (Qam (Zc3 GE680.out GE681.out GE682.out))); replace BK680 := Aside0.mk (Zi BK680.out hb); replace BK681 := Aside0.mk (Zi BK681.out hb); replace BK682 := Aside0.mk (Zi BK682.out hb); replace HB := Aside0.mk (Qao (Zc3 GE680.out GE681.out GE682.out) hb); (try clear hb); (try clear hb2); (try clear hk); (try clear hi); (try clear ho0); obtain ⟨Ao21, co21, eo21⟩ := Kd.R_slice HO687.out; subst eo21))
  go_loopg [34] k (fun kq v334 w' => ∃ (x334_1 : Int) (x682000_1 : Int) (x682001_1 : Int) (x682002_1 : Int) (x682003_1 : Int), v334 = .int .i64 x334_1 ∧ Aside0 (QaN.l0 kq l2 l3 t685 (t685.length : Int) x334_1 x682000_1 x682001_1 x682002_1 x682003_1 = some (r1, r2, r3, r4, r5)) ∧ Aside0 (kq ≤ k) ∧ Aside0 (Kd.R k46 46 w' w.heap.size (fun _ => True) (.slice Ao21 t685.length co21) t685) ∧ Aside0 (w'.heap[gb680]? = some (.cells #[.string a1_0, .string a1_1] 44 (0, 0))) ∧ Aside0 (w'.heap[gb681]? = some (.cells #[.int .i64 x682000_1, .int .i64 x682001_1, .int .i64 x682002_1, .int .i64 x682003_1] 74 (0, 0))) ∧ Aside0 (w'.heap[gb682]? = some (.cells #[.string a1_0, .string a1_1] 44 (0, 0))) ∧ Aside0 (Below w.heap.size w w'))
  case atStart => exact ⟨(0), (0), (0), (0), (0), (Zs), H', ⟨Nat.le_refl _⟩, ⟨Zr HO687.out⟩, ⟨Zu BK680.out⟩, ⟨Zu BK681.out⟩, ⟨Zu BK682.out⟩, ⟨Zc3 GE680.out GE681.out GE682.out⟩⟩
  case round =>
   clear H'
   try clear c1
   try clear c2
   try clear p2
   try clear c3
   try clear c8
   try clear c11
   try clear c12
   try clear c15
   try clear c15b0
   try clear c15b1
   try clear c17
   try clear c18
   try clear hcz13_0
   try clear hcz13_1
   try clear hcz19_0
   try clear hcz19_1
   try clear hcz9_0
   try clear hcz9_1
   try clear hfz13_0
   try clear hfz13_1
   try clear hfz19_0
   try clear hfz19_1
   try clear hfz9_0
   try clear hfz9_1
   obtain ⟨x334_1, x682000_1, x682001_1, x682002_1, x682003_1, rfl, HA, HK1, HO_332, BK680, BK681, BK682, HB⟩ := hrel
   cases gk with
   | zero => exact absurd HA.out (by simp [QaN.l0])
   | succ k1 =>
    have H := HA.out
    clear HA
    simp only [QaN.l0] at H
    by_cases c22 : x334_1 < (t685.length : Int)
    ·rw [if_pos c22] at H
     have c22b0 : decide (x334_1 < (t685.length : Int)) = T := decide_eq_true c22
     clear c22
     (try simp only [c22b0])
     by_cases c23 : 0 ≤ x334_1
     ·rw [if_pos c23] at H
      have c23b0 : decide (0 ≤ x334_1) = T := decide_eq_true c23
      clear c23
      by_cases c24 : x334_1 < (t685.length : Int)
      ·rw [if_pos c24] at H
       have c24b0 : decide (x334_1 < (t685.length : Int)) = T := decide_eq_true c24
       clear c24
       replace H := Option.bind_eq_some_iff.mp H
       obtain ⟨⟨t690, t691, t692, t693, t694, t695, t696⟩, A250, H⟩ := H
       replace H : ((Qbf.f k1 t690 t691 t692 t693 t694 t695 ((rd_T46 t685 x334_1).f2) l3).bind fun bt698 => (if bt698.2 = 0 then (if t691 = 0 then (QaN.l0 k1 l2 l3 t685 (t685.length : Int) (wrap64 (x334_1 + 1)) (wrap64 (x682000_1 + bt698.1)) x682001_1 x682002_1 x682003_1) else (if t691 = 1 then (QaN.l0 k1 l2 l3 t685 (t685.length : Int) (wrap64 (x334_1 + 1)) x682000_1 (wrap64 (x682001_1 + bt698.1)) x682002_1 x682003_1) else (if t691 = 2 then (QaN.l0 k1 l2 l3 t685 (t685.length : Int) (wrap64 (x334_1 + 1)) x682000_1 x682001_1 (wrap64 (x682002_1 + bt698.1)) x682003_1) else (if t691 = 3 then (QaN.l0 k1 l2 l3 t685 (t685.length : Int) (wrap64 (x334_1 + 1)) x682000_1 x682001_1 x682002_1 (wrap64 (x682003_1 + bt698.1))) else (none))))) else (some (0, 0, 0, 0, bt698.2)))) = some (r1, r2, r3, r4, r5) := H
       have A25 := Aside0.mk A250
       clear A250
       replace H := Option.bind_eq_some_iff.mp H
       obtain ⟨⟨t698, t699⟩, A260, H⟩ := H
       replace H : (if t699 = 0 then (if t691 = 0 then (QaN.l0 k1 l2 l3 t685 (t685.length : Int) (wrap64 (x334_1 + 1)) (wrap64 (x682000_1 + t698)) x682001_1 x682002_1 x682003_1) else (if t691 = 1 then (QaN.l0 k1 l2 l3 t685 (t685.length : Int) (wrap64 (x334_1 + 1)) x682000_1 (wrap64 (x682001_1 + t698)) x682002_1 x682003_1) else (if t691 = 2 then (QaN.l0 k1 l2 l3 t685 (t685.length : Int) (wrap64 (x334_1 + 1)) x682000_1 x682001_1 (wrap64 (x682002_1 + t698)) x682003_1) else (if t691 = 3 then (QaN.l0 k1 l2 l3 t685 (t685.length : Int) (wrap64 (x334_1 + 1)) x682000_1 x682001_1 x682002_1 (wrap64 (x682003_1 + t698))) else (none))))) else (some (0, 0, 0, 0, t699))) = some (r1, r2, r3, r4, r5) := H
       have A26 := Aside0.mk A260
       clear A260
       have p688 : 0 ≤ (x334_1 : Int) := Ze
       have q688 : x334_1 < (t685.length : Int) := Ze
       obtain ⟨ad688, e688, hx688_0, hx688_1, hx688_2, hx688_3⟩ := at_T46 (Kd.R_reads' HO_332.out).2.2 x334_1 p688 q688
       cases e688
       replace p688 := eq_true p688
       replace q688 := eq_true q688
       go_upto_if 54 with (first | ((with_reducible refine QaJ (N := 14) rfl ?_); (refine gate_n (n := 61) rfl ?_); refine Zbx (N := 14) (cs := #[.string (⟨#[]⟩ : ByteArray), .string (⟨#[]⟩ : ByteArray), .string (⟨#[]⟩ : ByteArray), .int .i64 0]) (t := 46) ?_; intro gb689 hg w27 hbox hb; have BK689 := Aside0.mk (hbox); have GW689 := Aside0.mk (Zt w hg (Zc3 GE680.out GE681.out GE682.out)); have GE689 := GW689; have NB680_689 := Aside0.mk (Zn hg BK680.out); have NB689_680 := Aside0.mk NB680_689.out.symm; have NB681_689 := Aside0.mk (Zn hg BK681.out); have NB689_681 := Aside0.mk NB681_689.out.symm; have NB682_689 := Aside0.mk (Zn hg BK682.out); have NB689_682 := Aside0.mk NB682_689.out.symm; replace HO_332 := Aside0.mk (Kd.R_below (Kd.R_elderB (Zr HO_332.out) gb689 (Nat.le_of_eq hg.symm)) hb); replace BK680 := Aside0.mk (Zi BK680.out hb); replace BK681 := Aside0.mk (Zi BK681.out hb); replace BK682 := Aside0.mk (Zi BK682.out hb); replace HB := Aside0.mk (Qao (Zc3 GE680.out GE681.out GE682.out) hb); clear hb hbox hg; have hnb28 := NB689_680.out; have hnc28 := NB680_689.out; have hnb29 := NB689_681.out; have hnc29 := NB681_689.out; have hnb30 := NB689_682.out; have hnc30 := NB682_689.out; obtain ⟨hcz31_0, hfz31_0⟩ := Zy (v := (.string (⟨#[]⟩ : ByteArray))) BK689.out 0; obtain ⟨hcz31_1, hfz31_1⟩ := Zy (v := (.string (⟨#[]⟩ : ByteArray))) BK689.out 1; obtain ⟨hcz31_2, hfz31_2⟩ := Zy (v := (.string (⟨#[]⟩ : ByteArray))) BK689.out 2; obtain ⟨hcz31_3, hfz31_3⟩ := Zy (v := (.int .i64 0)) BK689.out 3) | ((with_reducible refine Qax (f := 48) rfl ?_); refine goesL_ (some 42) rfl rfl Try.func48 (by kernel_rfl) rfl #[.slice A2 l2.length c2, .string ((rd_T46 t685 x334_1).f1)] rfl (Zl) ?_; (with_reducible refine (Qbe.calls k1 _ _ l2 ((rd_T46 t685 x334_1).f1) t690 t691 t692 t693 t694 t695 t696 _ ?side1 ?side2 A25.out).mono ?_); (case side1 => exact Kd.C_below HR2.out (Zc4 GE680.out GE681.out GE682.out GE689.out)); (case side2 => exact HC2.out); rintro e w32 ⟨rfl, hb⟩; refine ⟨_, rfl, ?_⟩; replace HO_332 := Aside0.mk (Kd.R_below (by (with_reducible repeat (first | apply Kd.R_alloc | apply Kd.R_drewN | apply Kd.R_drew)); exact (Kd.R_mono (Zf gb689 3 (Zf gb689 2 (Zf gb689 1 (Zf gb689 0 (Kd.R_mono HO_332.out (fun k_ hk => (⟨hk, hk.2⟩ : _ ∧ k_ ≠ gb689))) (.string ((rd_T46 t685 x334_1).f0.f0))) (.string ((rd_T46 t685 x334_1).f0.f1))) (.string ((rd_T46 t685 x334_1).f1))) (.int .i64 ((rd_T46 t685 x334_1).f2))) (fun _ h_ => h_.1))) hb); replace BK680 := Aside0.mk (Qal (g := gb680) (o := .cells #[.string a1_0, .string a1_1] 44 (0, 0)) (Zg4 BK680.out NB680_689.out NB680_689.out NB680_689.out NB680_689.out) hb); replace BK681 := Aside0.mk (Qal (g := gb681) (o := .cells #[.int .i64 x682000_1, .int .i64 x682001_1, .int .i64 x682002_1, .int .i64 x682003_1] 74 (0, 0)) (Zg4 BK681.out NB681_689.out NB681_689.out NB681_689.out NB681_689.out) hb); replace BK682 := Aside0.mk (Qal (g := gb682) (o := .cells #[.string a1_0, .string a1_1] 44 (0, 0)) (Zg4 BK682.out NB682_689.out NB682_689.out NB682_689.out NB682_689.out) hb); replace BK689 := Aside0.mk (Zpi #[.string ((rd_T46 t685 x334_1).f0.f0), .string ((rd_T46 t685 x334_1).f0.f1), .string ((rd_T46 t685 x334_1).f1), .int .i64 ((rd_T46 t685 x334_1).f2)] BK689.out hb); replace HB := Aside0.mk (Qao (Zc4 GE680.out GE681.out GE682.out GE689.out) hb); (try clear hb); (try clear hb2); (try clear hk); (try clear hi)) | ((with_reducible refine QaJ (N := 15) rfl ?_); (refine gate_n (n := 61) rfl ?_); refine Zbx (N := 15) (cs := #[.string (⟨#[]⟩ : ByteArray), .int .i64 0, .int .i64 0, .int .i64 0, .int .i64 0, .int .i64 0]) (t := 84) ?_; intro gb697 hg w33 hbox hb; have BK697 := Aside0.mk (hbox); have GW697 := Aside0.mk (Zt w hg (Zc4 GE680.out GE681.out GE682.out GE689.out)); have GE697 := GW697; have NB680_697 := Aside0.mk (Zn hg BK680.out); have NB697_680 := Aside0.mk NB680_697.out.symm; have NB681_697 := Aside0.mk (Zn hg BK681.out); have NB697_681 := Aside0.mk NB681_697.out.symm; have NB682_697 := Aside0.mk (Zn hg BK682.out); have NB697_682 := Aside0.mk NB682_697.out.symm; have NB689_697 := Aside0.mk (Zn hg BK689.out); have NB697_689 := Aside0.mk NB689_697.out.symm; replace HO_332 := Aside0.mk (Kd.R_below (Zr HO_332.out) hb); replace BK680 := Aside0.mk (Zi BK680.out hb); replace BK681 := Aside0.mk (Zi BK681.out hb); replace BK682 := Aside0.mk (Zi BK682.out hb); replace BK689 := Aside0.mk (Zi BK689.out hb); replace HB := Aside0.mk (Qao (Zc4 GE680.out GE681.out GE682.out GE689.out) hb); clear hb hbox hg; have hnb34 := NB697_680.out; have hnc34 := NB680_697.out; have hnb35 := NB697_681.out; have hnc35 := NB681_697.out; have hnb36 := NB697_682.out; have hnc36 := NB682_697.out; have hnb37 := NB697_689.out; have hnc37 := NB689_697.out; obtain ⟨hcz38_0, hfz38_0⟩ := Zy (v := (.string (⟨#[]⟩ : ByteArray))) BK697.out 0; obtain ⟨hcz38_1, hfz38_1⟩ := Zy (v := (.int .i64 0)) BK697.out 1; obtain ⟨hcz38_2, hfz38_2⟩ := Zy (v := (.int .i64 0)) BK697.out 2; obtain ⟨hcz38_3, hfz38_3⟩ := Zy (v := (.int .i64 0)) BK697.out 3; obtain ⟨hcz38_4, hfz38_4⟩ := Zy (v := (.int .i64 0)) BK697.out 4; obtain ⟨hcz38_5, hfz38_5⟩ := Zy (v := (.int .i64 0)) BK697.out 5; obtain ⟨hcz39_0, hfz39_0⟩ := Zy (v := (.string ((rd_T46 t685 x334_1).f0.f0))) BK689.out 0; obtain ⟨hcz39_1, hfz39_1⟩ := Zy (v := (.string ((rd_T46 t685 x334_1).f0.f1))) BK689.out 1; obtain ⟨hcz39_2, hfz39_2⟩ := Zy (v := (.string ((rd_T46 t685 x334_1).f1))) BK689.out 2; obtain ⟨hcz39_3, hfz39_3⟩ := Zy (v := (.int .i64 ((rd_T46 t685 x334_1).f2))) BK689.out 3) | ((with_reducible refine Qax (f := 82) rfl ?_); refine goesL_ (some 50) rfl rfl Try.func82 (by kernel_rfl) rfl #[.agg #[.string t690, .int .i64 t691, .int .i64 t692, .int .i64 t693, .int .i64 t694, .int .i64 t695], .int .i64 ((rd_T46 t685 x334_1).f2), .slice A3 l3.length c3] rfl (Zl) ?_; (with_reducible refine (Qbf.calls k1 t690 t691 t692 t693 t694 t695 ((rd_T46 t685 x334_1).f2) _ _ l3 t698 t699 _ ?side1 ?side2 A26.out).mono ?_); (case side1 => exact Kd.C_below HR3.out (Zc5 GE680.out GE681.out GE682.out GE689.out GE697.out)); (case side2 => exact HC3.out); rintro e w40 ⟨rfl, hb⟩; refine ⟨_, rfl, ?_⟩; replace HO_332 := Aside0.mk (Kd.R_below (by (with_reducible repeat (first | apply Kd.R_alloc | apply Kd.R_drewN | apply Kd.R_drew)); exact (Kd.R_mono (Zf gb697 5 (Zf gb697 4 (Zf gb697 3 (Zf gb697 2 (Zf gb697 1 (Zf gb697 0 (Kd.R_types HO_332.out BK697.out (by decide)) (.string t690)) (.int .i64 t691)) (.int .i64 t692)) (.int .i64 t693)) (.int .i64 t694)) (.int .i64 t695)) (fun _ h_ => h_.1))) hb); replace BK680 := Aside0.mk (Qal (g := gb680) (o := .cells #[.string a1_0, .string a1_1] 44 (0, 0)) (Zg6 BK680.out NB680_697.out NB680_697.out NB680_697.out NB680_697.out NB680_697.out NB680_697.out) hb); replace BK681 := Aside0.mk (Qal (g := gb681) (o := .cells #[.int .i64 x682000_1, .int .i64 x682001_1, .int .i64 x682002_1, .int .i64 x682003_1] 74 (0, 0)) (Zg6 BK681.out NB681_697.out NB681_697.out NB681_697.out NB681_697.out NB681_697.out NB681_697.out) hb); replace BK682 := Aside0.mk (Qal (g := gb682) (o := .cells #[.string a1_0, .string a1_1] 44 (0, 0)) (Zg6 BK682.out NB682_697.out NB682_697.out NB682_697.out NB682_697.out NB682_697.out NB682_697.out) hb); replace BK689 := Aside0.mk (Qal (g := gb689) (o := .cells #[.string ((rd_T46 t685 x334_1).f0.f0), .string ((rd_T46 t685 x334_1).f0.f1), .string ((rd_T46 t685 x334_1).f1), .int .i64 ((rd_T46 t685 x334_1).f2)] 46 (0, 0)) (Zg6 BK689.out NB689_697.out NB689_697.out NB689_697.out NB689_697.out NB689_697.out NB689_697.out) hb); replace BK697 := Aside0.mk (Zpi #[.string t690, .int .i64 t691, .int .i64 t692, .int .i64 t693, .int .i64 t694, .int .i64 t695] BK697.out hb); replace HB := Aside0.mk (Qao (Zc5 GE680.out GE681.out GE682.out GE689.out GE697.out) hb); (try clear hb); (try clear hb2); (try clear hk); (try clear hi)))
       (try simp only [Act.put, Zj, Zk, Zm])
       by_cases c41 : t699 = 0
       ·rw [if_pos c41] at H
        have c41b0 : (t699 == 0) = T := beq_iff_eq.mpr c41
        have c41b1 : (t699 != 0) = F := bne_eq_false_iff_eq.mpr c41
        clear c41
        (try simp only [c41b0, c41b1])
        by_cases c42 : t691 = 0
        ·rw [if_pos c42] at H
         have c42x := c42
         have c42b0 : (t691 == 0) = T := beq_iff_eq.mpr c42
         have c42b1 : (t691 != 0) = F := bne_eq_false_iff_eq.mpr c42
         clear c42
         have hnb43 := NB697_680.out
         have hnc43 := NB680_697.out
         have hnb44 := NB697_681.out
         have hnc44 := NB681_697.out
         have hnb45 := NB697_682.out
         have hnc45 := NB682_697.out
         have hnb46 := NB697_689.out
         have hnc46 := NB689_697.out
         obtain ⟨hcz47_0, hfz47_0⟩ := Zy (v := (.string t690)) BK697.out 0
         obtain ⟨hcz47_1, hfz47_1⟩ := Zy (v := (.int .i64 t691)) BK697.out 1
         obtain ⟨hcz47_2, hfz47_2⟩ := Zy (v := (.int .i64 t692)) BK697.out 2
         obtain ⟨hcz47_3, hfz47_3⟩ := Zy (v := (.int .i64 t693)) BK697.out 3
         obtain ⟨hcz47_4, hfz47_4⟩ := Zy (v := (.int .i64 t694)) BK697.out 4
         obtain ⟨hcz47_5, hfz47_5⟩ := Zy (v := (.int .i64 t695)) BK697.out 5
         go_upto_region 12 with (first | (go_at_call 65; go_in) | ((with_reducible refine QaJ (N := 3) rfl ?_); (refine gate_n (n := 12) rfl ?_); refine Zbx (N := 3) (cs := #[.string t690, .int .i64 t691, .int .i64 t692, .int .i64 t693, .int .i64 t694, .int .i64 t695]) (t := 84) ?_; intro gb700 hg w48 hbox hb; have BK700 := Aside0.mk (hbox); have GW700 := Aside0.mk (Zt w hg (Zc5 GE680.out GE681.out GE682.out GE689.out GE697.out)); have GE700 := GW700; have NB680_700 := Aside0.mk (Zn hg BK680.out); have NB700_680 := Aside0.mk NB680_700.out.symm; have NB681_700 := Aside0.mk (Zn hg BK681.out); have NB700_681 := Aside0.mk NB681_700.out.symm; have NB682_700 := Aside0.mk (Zn hg BK682.out); have NB700_682 := Aside0.mk NB682_700.out.symm; have NB689_700 := Aside0.mk (Zn hg BK689.out); have NB700_689 := Aside0.mk NB689_700.out.symm; have NB697_700 := Aside0.mk (Zn hg BK697.out); have NB700_697 := Aside0.mk NB697_700.out.symm; replace HO_332 := Aside0.mk (Kd.R_below (Zr HO_332.out) hb); replace BK680 := Aside0.mk (Zi BK680.out hb); replace BK681 := Aside0.mk (Zi BK681.out hb); replace BK682 := Aside0.mk (Zi BK682.out hb); replace BK689 := Aside0.mk (Zi BK689.out hb); replace BK697 := Aside0.mk (Zi BK697.out hb); replace HB := Aside0.mk (Qao (Zc5 GE680.out GE681.out GE682.out GE689.out GE697.out) hb); clear hb hbox hg; have hnb49 := NB700_680.out; have hnc49 := NB680_700.out; have hnb50 := NB700_681.out; have hnc50 := NB681_700.out; have hnb51 := NB700_682.out; have hnc51 := NB682_700.out; have hnb52 := NB700_689.out; have hnc52 := NB689_700.out; have hnb53 := NB700_697.out; have hnc53 := NB697_700.out; obtain ⟨hcz54_0, hfz54_0⟩ := Zy (v := (.string t690)) BK700.out 0; obtain ⟨hcz54_1, hfz54_1⟩ := Zy (v := (.int .i64 t691)) BK700.out 1; obtain ⟨hcz54_2, hfz54_2⟩ := Zy (v := (.int .i64 t692)) BK700.out 2; obtain ⟨hcz54_3, hfz54_3⟩ := Zy (v := (.int .i64 t693)) BK700.out 3; obtain ⟨hcz54_4, hfz54_4⟩ := Zy (v := (.int .i64 t694)) BK700.out 4; obtain ⟨hcz54_5, hfz54_5⟩ := Zy (v := (.int .i64 t695)) BK700.out 5; have hnb55 := NB681_680.out; have hnc55 := NB680_681.out; have hnb56 := NB681_682.out; have hnc56 := NB682_681.out; have hnb57 := NB681_689.out; have hnc57 := NB689_681.out; obtain ⟨hcz58_0, hfz58_0⟩ := Zy (v := (.int .i64 x682000_1)) BK681.out 0; obtain ⟨hcz58_1, hfz58_1⟩ := Zy (v := (.int .i64 x682001_1)) BK681.out 1; obtain ⟨hcz58_2, hfz58_2⟩ := Zy (v := (.int .i64 x682002_1)) BK681.out 2; obtain ⟨hcz58_3, hfz58_3⟩ := Zy (v := (.int .i64 x682003_1)) BK681.out 3) | ((first | go_end0 | (refine bodyPost_ret (results_none rfl _ _ _) rfl ?_))))
         (try simp only [Act.put, Zj, Zk, Zm])
         have H' := Aside0.mk H
         clear H
         go_wp2
         go_roundg k1
         case measure => have := HK1.out; omega
         case rel => exact ⟨(wrap64 (x334_1 + 1)), (wrap64 (x682000_1 + t698)), (x682001_1), (x682002_1), (x682003_1), (Zs), H', ⟨by have := HK1.out; omega⟩, ⟨by (with_reducible repeat (first | apply Kd.R_alloc | apply Kd.R_drewN | apply Kd.R_drew)); exact Kd.R_mono (Zf gb681 0 (Kd.R_types HO_332.out BK681.out (by decide)) (.int .i64 (wrap64 (x682000_1 + t698)))) (fun _ hk => trivial)⟩, ⟨Zg1 BK680.out NB680_681.out⟩, ⟨Zp2 BK681.out⟩, ⟨Zg1 BK682.out NB682_681.out⟩, ⟨Zc6 GE680.out GE681.out GE682.out GE689.out GE697.out GE700.out⟩⟩
        rw [if_neg c42] at H
        have c42b0 : (t691 == 0) = F := beq_eq_false_iff_ne.mpr c42
        have c42b1 : (t691 != 0) = T := bne_iff_ne.mpr c42
        by_cases c59 : t691 = 1
        ·rw [if_pos c59] at H
         have c59x := c59
         have c59b0 : (t691 == 1) = T := beq_iff_eq.mpr c59
         have c59b1 : (t691 != 1) = F := bne_eq_false_iff_eq.mpr c59
         clear c59
         have hnb60 := NB697_680.out
         have hnc60 := NB680_697.out
         have hnb61 := NB697_681.out
         have hnc61 := NB681_697.out
         have hnb62 := NB697_682.out
         have hnc62 := NB682_697.out
         have hnb63 := NB697_689.out
         have hnc63 := NB689_697.out
         obtain ⟨hcz64_0, hfz64_0⟩ := Zy (v := (.string t690)) BK697.out 0
         obtain ⟨hcz64_1, hfz64_1⟩ := Zy (v := (.int .i64 t691)) BK697.out 1
         obtain ⟨hcz64_2, hfz64_2⟩ := Zy (v := (.int .i64 t692)) BK697.out 2
         obtain ⟨hcz64_3, hfz64_3⟩ := Zy (v := (.int .i64 t693)) BK697.out 3
         obtain ⟨hcz64_4, hfz64_4⟩ := Zy (v := (.int .i64 t694)) BK697.out 4
         obtain ⟨hcz64_5, hfz64_5⟩ := Zy (v := (.int .i64 t695)) BK697.out 5
         go_upto_region 12 with (first | (go_at_call 65; go_in) | ((with_reducible refine QaJ (N := 3) rfl ?_); (refine gate_n (n := 12) rfl ?_); refine Zbx (N := 3) (cs := #[.string t690, .int .i64 t691, .int .i64 t692, .int .i64 t693, .int .i64 t694, .int .i64 t695]) (t := 84) ?_; intro gb700 hg w65 hbox hb; have BK700 := Aside0.mk (hbox); have GW700 := Aside0.mk (Zt w hg (Zc5 GE680.out GE681.out GE682.out GE689.out GE697.out)); have GE700 := GW700; have NB680_700 := Aside0.mk (Zn hg BK680.out); have NB700_680 := Aside0.mk NB680_700.out.symm; have NB681_700 := Aside0.mk (Zn hg BK681.out); have NB700_681 := Aside0.mk NB681_700.out.symm; have NB682_700 := Aside0.mk (Zn hg BK682.out); have NB700_682 := Aside0.mk NB682_700.out.symm; have NB689_700 := Aside0.mk (Zn hg BK689.out); have NB700_689 := Aside0.mk NB689_700.out.symm; have NB697_700 := Aside0.mk (Zn hg BK697.out); have NB700_697 := Aside0.mk NB697_700.out.symm; replace HO_332 := Aside0.mk (Kd.R_below (Zr HO_332.out) hb); replace BK680 := Aside0.mk (Zi BK680.out hb); replace BK681 := Aside0.mk (Zi BK681.out hb); replace BK682 := Aside0.mk (Zi BK682.out hb); replace BK689 := Aside0.mk (Zi BK689.out hb); replace BK697 := Aside0.mk (Zi BK697.out hb); replace HB := Aside0.mk (Qao (Zc5 GE680.out GE681.out GE682.out GE689.out GE697.out) hb); clear hb hbox hg; have hnb66 := NB700_680.out; have hnc66 := NB680_700.out; have hnb67 := NB700_681.out; have hnc67 := NB681_700.out; have hnb68 := NB700_682.out; have hnc68 := NB682_700.out; have hnb69 := NB700_689.out; have hnc69 := NB689_700.out; have hnb70 := NB700_697.out; have hnc70 := NB697_700.out; obtain ⟨hcz71_0, hfz71_0⟩ := Zy (v := (.string t690)) BK700.out 0; obtain ⟨hcz71_1, hfz71_1⟩ := Zy (v := (.int .i64 t691)) BK700.out 1; obtain ⟨hcz71_2, hfz71_2⟩ := Zy (v := (.int .i64 t692)) BK700.out 2; obtain ⟨hcz71_3, hfz71_3⟩ := Zy (v := (.int .i64 t693)) BK700.out 3; obtain ⟨hcz71_4, hfz71_4⟩ := Zy (v := (.int .i64 t694)) BK700.out 4; obtain ⟨hcz71_5, hfz71_5⟩ := Zy (v := (.int .i64 t695)) BK700.out 5; have hnb72 := NB681_680.out; have hnc72 := NB680_681.out; have hnb73 := NB681_682.out; have hnc73 := NB682_681.out; have hnb74 := NB681_689.out; have hnc74 := NB689_681.out; obtain ⟨hcz75_0, hfz75_0⟩ := Zy (v := (.int .i64 x682000_1)) BK681.out 0; obtain ⟨hcz75_1, hfz75_1⟩ := Zy (v := (.int .i64 x682001_1)) BK681.out 1; obtain ⟨hcz75_2, hfz75_2⟩ := Zy (v := (.int .i64 x682002_1)) BK681.out 2; obtain ⟨hcz75_3, hfz75_3⟩ := Zy (v := (.int .i64 x682003_1)) BK681.out 3) | ((first | go_end0 | (refine bodyPost_ret (results_none rfl _ _ _) rfl ?_))))
         (try simp only [Act.put, Zj, Zk, Zm])
         have H' := Aside0.mk H
         clear H
         go_wp2
         go_roundg k1
         case measure => have := HK1.out; omega
         case rel => exact ⟨(wrap64 (x334_1 + 1)), (x682000_1), (wrap64 (x682001_1 + t698)), (x682002_1), (x682003_1), (Zs), H', ⟨by have := HK1.out; omega⟩, ⟨by (with_reducible repeat (first | apply Kd.R_alloc | apply Kd.R_drewN | apply Kd.R_drew)); exact Kd.R_mono (Zf gb681 1 (Kd.R_types HO_332.out BK681.out (by decide)) (.int .i64 (wrap64 (x682001_1 + t698)))) (fun _ hk => trivial)⟩, ⟨Zg1 BK680.out NB680_681.out⟩, ⟨Zp2 BK681.out⟩, ⟨Zg1 BK682.out NB682_681.out⟩, ⟨Zc6 GE680.out GE681.out GE682.out GE689.out GE697.out GE700.out⟩⟩
        rw [if_neg c59] at H
        have c59b0 : (t691 == 1) = F := beq_eq_false_iff_ne.mpr c59
        have c59b1 : (t691 != 1) = T := bne_iff_ne.mpr c59
        by_cases c76 : t691 = 2
        ·rw [if_pos c76] at H
         have c76x := c76
         have c76b0 : (t691 == 2) = T := beq_iff_eq.mpr c76
         have c76b1 : (t691 != 2) = F := bne_eq_false_iff_eq.mpr c76
         clear c76
         have hnb77 := NB697_680.out
         have hnc77 := NB680_697.out
         have hnb78 := NB697_681.out
         have hnc78 := NB681_697.out
         have hnb79 := NB697_682.out
         have hnc79 := NB682_697.out
         have hnb80 := NB697_689.out
         have hnc80 := NB689_697.out
         obtain ⟨hcz81_0, hfz81_0⟩ := Zy (v := (.string t690)) BK697.out 0
         obtain ⟨hcz81_1, hfz81_1⟩ := Zy (v := (.int .i64 t691)) BK697.out 1
         obtain ⟨hcz81_2, hfz81_2⟩ := Zy (v := (.int .i64 t692)) BK697.out 2
         obtain ⟨hcz81_3, hfz81_3⟩ := Zy (v := (.int .i64 t693)) BK697.out 3
         obtain ⟨hcz81_4, hfz81_4⟩ := Zy (v := (.int .i64 t694)) BK697.out 4
         obtain ⟨hcz81_5, hfz81_5⟩ := Zy (v := (.int .i64 t695)) BK697.out 5
         go_upto_region 12 with (first | (go_at_call 65; go_in) | ((with_reducible refine QaJ (N := 3) rfl ?_); (refine gate_n (n := 12) rfl ?_); refine Zbx (N := 3) (cs := #[.string t690, .int .i64 t691, .int .i64 t692, .int .i64 t693, .int .i64 t694, .int .i64 t695]) (t := 84) ?_; intro gb700 hg w82 hbox hb; have BK700 := Aside0.mk (hbox); have GW700 := Aside0.mk (Zt w hg (Zc5 GE680.out GE681.out GE682.out GE689.out GE697.out)); have GE700 := GW700; have NB680_700 := Aside0.mk (Zn hg BK680.out); have NB700_680 := Aside0.mk NB680_700.out.symm; have NB681_700 := Aside0.mk (Zn hg BK681.out); have NB700_681 := Aside0.mk NB681_700.out.symm; have NB682_700 := Aside0.mk (Zn hg BK682.out); have NB700_682 := Aside0.mk NB682_700.out.symm; have NB689_700 := Aside0.mk (Zn hg BK689.out); have NB700_689 := Aside0.mk NB689_700.out.symm; have NB697_700 := Aside0.mk (Zn hg BK697.out); have NB700_697 := Aside0.mk NB697_700.out.symm; replace HO_332 := Aside0.mk (Kd.R_below (Zr HO_332.out) hb); replace BK680 := Aside0.mk (Zi BK680.out hb); replace BK681 := Aside0.mk (Zi BK681.out hb); replace BK682 := Aside0.mk (Zi BK682.out hb); replace BK689 := Aside0.mk (Zi BK689.out hb); replace BK697 := Aside0.mk (Zi BK697.out hb); replace HB := Aside0.mk (Qao (Zc5 GE680.out GE681.out GE682.out GE689.out GE697.out) hb); clear hb hbox hg; have hnb83 := NB700_680.out; have hnc83 := NB680_700.out; have hnb84 := NB700_681.out; have hnc84 := NB681_700.out; have hnb85 := NB700_682.out; have hnc85 := NB682_700.out; have hnb86 := NB700_689.out; have hnc86 := NB689_700.out; have hnb87 := NB700_697.out; have hnc87 := NB697_700.out; obtain ⟨hcz88_0, hfz88_0⟩ := Zy (v := (.string t690)) BK700.out 0; obtain ⟨hcz88_1, hfz88_1⟩ := Zy (v := (.int .i64 t691)) BK700.out 1; obtain ⟨hcz88_2, hfz88_2⟩ := Zy (v := (.int .i64 t692)) BK700.out 2; obtain ⟨hcz88_3, hfz88_3⟩ := Zy (v := (.int .i64 t693)) BK700.out 3; obtain ⟨hcz88_4, hfz88_4⟩ := Zy (v := (.int .i64 t694)) BK700.out 4; obtain ⟨hcz88_5, hfz88_5⟩ := Zy (v := (.int .i64 t695)) BK700.out 5; have hnb89 := NB681_680.out; have hnc89 := NB680_681.out; have hnb90 := NB681_682.out; have hnc90 := NB682_681.out; have hnb91 := NB681_689.out; have hnc91 := NB689_681.out; obtain ⟨hcz92_0, hfz92_0⟩ := Zy (v := (.int .i64 x682000_1)) BK681.out 0; obtain ⟨hcz92_1, hfz92_1⟩ := Zy (v := (.int .i64 x682001_1)) BK681.out 1; obtain ⟨hcz92_2, hfz92_2⟩ := Zy (v := (.int .i64 x682002_1)) BK681.out 2; obtain ⟨hcz92_3, hfz92_3⟩ := Zy (v := (.int .i64 x682003_1)) BK681.out 3) | ((first | go_end0 | (refine bodyPost_ret (results_none rfl _ _ _) rfl ?_))))
         (try simp only [Act.put, Zj, Zk, Zm])
         have H' := Aside0.mk H
         clear H
         go_wp2
         go_roundg k1
         case measure => have := HK1.out; omega
         case rel => exact ⟨(wrap64 (x334_1 + 1)), (x682000_1), (x682001_1), (wrap64 (x682002_1 + t698)), (x682003_1), (Zs), H', ⟨by have := HK1.out; omega⟩, ⟨by (with_reducible repeat (first | apply Kd.R_alloc | apply Kd.R_drewN | apply Kd.R_drew)); exact Kd.R_mono (Zf gb681 2 (Kd.R_types HO_332.out BK681.out (by decide)) (.int .i64 (wrap64 (x682002_1 + t698)))) (fun _ hk => trivial)⟩, ⟨Zg1 BK680.out NB680_681.out⟩, ⟨Zp2 BK681.out⟩, ⟨Zg1 BK682.out NB682_681.out⟩, ⟨Zc6 GE680.out GE681.out GE682.out GE689.out GE697.out GE700.out⟩⟩
        rw [if_neg c76] at H
        have c76b0 : (t691 == 2) = F := beq_eq_false_iff_ne.mpr c76
        have c76b1 : (t691 != 2) = T := bne_iff_ne.mpr c76
        by_cases c93 : t691 = 3
        ·rw [if_pos c93] at H
         have c93x := c93
         have c93b0 : (t691 == 3) = T := beq_iff_eq.mpr c93
         have c93b1 : (t691 != 3) = F := bne_eq_false_iff_eq.mpr c93
         clear c93
         have hnb94 := NB697_680.out
         have hnc94 := NB680_697.out
         have hnb95 := NB697_681.out
         have hnc95 := NB681_697.out
         have hnb96 := NB697_682.out
         have hnc96 := NB682_697.out
         have hnb97 := NB697_689.out
         have hnc97 := NB689_697.out
         obtain ⟨hcz98_0, hfz98_0⟩ := Zy (v := (.string t690)) BK697.out 0
         obtain ⟨hcz98_1, hfz98_1⟩ := Zy (v := (.int .i64 t691)) BK697.out 1
         obtain ⟨hcz98_2, hfz98_2⟩ := Zy (v := (.int .i64 t692)) BK697.out 2
         obtain ⟨hcz98_3, hfz98_3⟩ := Zy (v := (.int .i64 t693)) BK697.out 3
         obtain ⟨hcz98_4, hfz98_4⟩ := Zy (v := (.int .i64 t694)) BK697.out 4
         obtain ⟨hcz98_5, hfz98_5⟩ := Zy (v := (.int .i64 t695)) BK697.out 5
         go_upto_region 12 with (first | (go_at_call 65; go_in) | ((with_reducible refine QaJ (N := 3) rfl ?_); (refine gate_n (n := 12) rfl ?_); refine Zbx (N := 3) (cs := #[.string t690, .int .i64 t691, .int .i64 t692, .int .i64 t693, .int .i64 t694, .int .i64 t695]) (t := 84) ?_; intro gb700 hg w99 hbox hb; have BK700 := Aside0.mk (hbox); have GW700 := Aside0.mk (Zt w hg (Zc5 GE680.out GE681.out GE682.out GE689.out GE697.out)); have GE700 := GW700; have NB680_700 := Aside0.mk (Zn hg BK680.out); have NB700_680 := Aside0.mk NB680_700.out.symm; have NB681_700 := Aside0.mk (Zn hg BK681.out); have NB700_681 := Aside0.mk NB681_700.out.symm; have NB682_700 := Aside0.mk (Zn hg BK682.out); have NB700_682 := Aside0.mk NB682_700.out.symm; have NB689_700 := Aside0.mk (Zn hg BK689.out); have NB700_689 := Aside0.mk NB689_700.out.symm; have NB697_700 := Aside0.mk (Zn hg BK697.out); have NB700_697 := Aside0.mk NB697_700.out.symm; replace HO_332 := Aside0.mk (Kd.R_below (Zr HO_332.out) hb); replace BK680 := Aside0.mk (Zi BK680.out hb); replace BK681 := Aside0.mk (Zi BK681.out hb); replace BK682 := Aside0.mk (Zi BK682.out hb); replace BK689 := Aside0.mk (Zi BK689.out hb); replace BK697 := Aside0.mk (Zi BK697.out hb); replace HB := Aside0.mk (Qao (Zc5 GE680.out GE681.out GE682.out GE689.out GE697.out) hb); clear hb hbox hg; have hnb100 := NB700_680.out; have hnc100 := NB680_700.out; have hnb101 := NB700_681.out; have hnc101 := NB681_700.out; have hnb102 := NB700_682.out; have hnc102 := NB682_700.out; have hnb103 := NB700_689.out; have hnc103 := NB689_700.out; have hnb104 := NB700_697.out; have hnc104 := NB697_700.out; obtain ⟨hcz105_0, hfz105_0⟩ := Zy (v := (.string t690)) BK700.out 0; obtain ⟨hcz105_1, hfz105_1⟩ := Zy (v := (.int .i64 t691)) BK700.out 1; obtain ⟨hcz105_2, hfz105_2⟩ := Zy (v := (.int .i64 t692)) BK700.out 2; obtain ⟨hcz105_3, hfz105_3⟩ := Zy (v := (.int .i64 t693)) BK700.out 3; obtain ⟨hcz105_4, hfz105_4⟩ := Zy (v := (.int .i64 t694)) BK700.out 4; obtain ⟨hcz105_5, hfz105_5⟩ := Zy (v := (.int .i64 t695)) BK700.out 5; have hnb106 := NB681_680.out; have hnc106 := NB680_681.out; have hnb107 := NB681_682.out; have hnc107 := NB682_681.out; have hnb108 := NB681_689.out; have hnc108 := NB689_681.out; obtain ⟨hcz109_0, hfz109_0⟩ := Zy (v := (.int .i64 x682000_1)) BK681.out 0; obtain ⟨hcz109_1, hfz109_1⟩ := Zy (v := (.int .i64 x682001_1)) BK681.out 1; obtain ⟨hcz109_2, hfz109_2⟩ := Zy (v := (.int .i64 x682002_1)) BK681.out 2; obtain ⟨hcz109_3, hfz109_3⟩ := Zy (v := (.int .i64 x682003_1)) BK681.out 3) | ((first | go_end0 | (refine bodyPost_ret (results_none rfl _ _ _) rfl ?_))))
         (try simp only [Act.put, Zj, Zk, Zm])
         have H' := Aside0.mk H
         clear H
         go_wp2
         go_roundg k1
         case measure => have := HK1.out; omega
         case rel => exact ⟨(wrap64 (x334_1 + 1)), (x682000_1), (x682001_1), (x682002_1), (wrap64 (x682003_1 + t698)), (Zs), H', ⟨by have := HK1.out; omega⟩, ⟨by (with_reducible repeat (first | apply Kd.R_alloc | apply Kd.R_drewN | apply Kd.R_drew)); exact Kd.R_mono (Zf gb681 3 (Kd.R_types HO_332.out BK681.out (by decide)) (.int .i64 (wrap64 (x682003_1 + t698)))) (fun _ hk => trivial)⟩, ⟨Zg1 BK680.out NB680_681.out⟩, ⟨Zp2 BK681.out⟩, ⟨Zg1 BK682.out NB682_681.out⟩, ⟨Zc6 GE680.out GE681.out GE682.out GE689.out GE697.out GE700.out⟩⟩
        rw [if_neg c93] at H
        exact absurd H (by simp)
       rw [if_neg c41] at H
       have c41b0 : (t699 == 0) = F := beq_eq_false_iff_ne.mpr c41
       have c41b1 : (t699 != 0) = T := bne_iff_ne.mpr c41
       (try simp only [c41b0, c41b1])
       go_upto_region 2 with (fail)
       simp only [Option.some.injEq, Prod.mk.injEq] at H
       obtain ⟨rfl, rfl, rfl, rfl, rfl⟩ := H
       have hnb110 := NB681_680.out
       have hnc110 := NB680_681.out
       have hnb111 := NB681_682.out
       have hnc111 := NB682_681.out
       have hnb112 := NB681_689.out
       have hnc112 := NB689_681.out
       have hnb113 := NB681_697.out
       have hnc113 := NB697_681.out
       obtain ⟨hcz114_0, hfz114_0⟩ := Zy (v := (.int .i64 x682000_1)) BK681.out 0
       obtain ⟨hcz114_1, hfz114_1⟩ := Zy (v := (.int .i64 x682001_1)) BK681.out 1
       obtain ⟨hcz114_2, hfz114_2⟩ := Zy (v := (.int .i64 x682002_1)) BK681.out 2
       obtain ⟨hcz114_3, hfz114_3⟩ := Zy (v := (.int .i64 x682003_1)) BK681.out 3
       go_wp2
       refine bodyPost_ret (QbX rfl _ _ gb681 74 #[.int .i64 0, .int .i64 0, .int .i64 0, .int .i64 0] (0, 0) _ rfl (Zp2 BK681.out) Try.underlying74 rfl (by kernel_rfl)) rfl ?_
       exact ⟨Zq, Zc5 GE680.out GE681.out GE682.out GE689.out GE697.out⟩
      rw [if_neg c24] at H
      exact absurd H (by simp)
     rw [if_neg c23] at H
     exact absurd H (by simp)
    rw [if_neg c22] at H
    have c22b0 : decide (x334_1 < (t685.length : Int)) = F := decide_eq_false c22
    clear c22
    (try simp only [c22b0])
    go_upto_region 2 with (fail)
    simp only [Option.some.injEq, Prod.mk.injEq] at H
    obtain ⟨rfl, rfl, rfl, rfl, rfl⟩ := H
    have hnb115 := NB681_680.out
    have hnc115 := NB680_681.out
    have hnb116 := NB681_682.out
    have hnc116 := NB682_681.out
    obtain ⟨hcz117_0, hfz117_0⟩ := Zy (v := (.int .i64 x682000_1)) BK681.out 0
    obtain ⟨hcz117_1, hfz117_1⟩ := Zy (v := (.int .i64 x682001_1)) BK681.out 1
    obtain ⟨hcz117_2, hfz117_2⟩ := Zy (v := (.int .i64 x682002_1)) BK681.out 2
    obtain ⟨hcz117_3, hfz117_3⟩ := Zy (v := (.int .i64 x682003_1)) BK681.out 3
    go_wp2
    refine bodyPost_ret (QbX rfl _ _ gb681 74 #[.int .i64 x682000_1, .int .i64 x682001_1, .int .i64 x682002_1, .int .i64 x682003_1] (0, 0) _ rfl (Zp2 BK681.out) Try.underlying74 rfl (by kernel_rfl)) rfl ?_
    exact ⟨Zq, Zc3 GE680.out GE681.out GE682.out⟩
 rw [if_neg c15] at H
 have c15b0 : (t684 == 0) = F := beq_eq_false_iff_ne.mpr c15
 have c15b1 : (t684 != 0) = T := bne_iff_ne.mpr c15
 (try simp only [c15b0, c15b1])
 simp only [Option.some.injEq, Prod.mk.injEq] at H
 obtain ⟨rfl, rfl, rfl, rfl, rfl⟩ := H
 have hnb118 := NB681_680.out
 have hnc118 := NB680_681.out
 have hnb119 := NB681_682.out
 have hnc119 := NB682_681.out
 obtain ⟨hcz120_0, hfz120_0⟩ := Zy (v := (.int .i64 0)) BK681.out 0
 obtain ⟨hcz120_1, hfz120_1⟩ := Zy (v := (.int .i64 0)) BK681.out 1
 obtain ⟨hcz120_2, hfz120_2⟩ := Zy (v := (.int .i64 0)) BK681.out 2
 obtain ⟨hcz120_3, hfz120_3⟩ := Zy (v := (.int .i64 0)) BK681.out 3
 go_wp2
 refine bodyPost_ret (QbX rfl _ _ gb681 74 #[.int .i64 0, .int .i64 0, .int .i64 0, .int .i64 0] (0, 0) _ rfl (Zp2 BK681.out) Try.underlying74 rfl (by kernel_rfl)) rfl ?_
 exact ⟨Zq, Zc3 GE680.out GE681.out GE682.out⟩
def Qav.l0 : Nat → List (S46) → Int → Int → ByteArray → ByteArray → ByteArray → Int → Option (Int × Bool)
 | 0, _, _, _, _, _, _, _ => none
 | k + 1, x0, x8, x9, x612000, x612001, x612002, x612003 => if x8 < x9 then (if 0 ≤ (wrap64 (Int.tdiv (wrap64 (x8 + x9)) 2)) then (if (wrap64 (Int.tdiv (wrap64 (x8 + x9)) 2)) < (x0.length : Int) then ((Qbz.f ((rd_T46 x0 (wrap64 (Int.tdiv (wrap64 (x8 + x9)) 2))).f0.f0) ((rd_T46 x0 (wrap64 (Int.tdiv (wrap64 (x8 + x9)) 2))).f0.f1) ((rd_T46 x0 (wrap64 (Int.tdiv (wrap64 (x8 + x9)) 2))).f1) ((rd_T46 x0 (wrap64 (Int.tdiv (wrap64 (x8 + x9)) 2))).f2) x612000 x612001 x612002 x612003).bind fun t613 => (if t613 < 0 then (Qav.l0 k x0 (wrap64 ((wrap64 (Int.tdiv (wrap64 (x8 + x9)) 2)) + 1)) x9 x612000 x612001 x612002 x612003) else (Qav.l0 k x0 x8 (wrap64 (Int.tdiv (wrap64 (x8 + x9)) 2)) x612000 x612001 x612002 x612003))) else (none)) else (none)) else (if x8 < (x0.length : Int) then (if 0 ≤ x8 then ((Qbz.f ((rd_T46 x0 x8).f0.f0) ((rd_T46 x0 x8).f0.f1) ((rd_T46 x0 x8).f1) ((rd_T46 x0 x8).f2) x612000 x612001 x612002 x612003).bind fun t615 => (some (x8, (t615 == 0)))) else (none)) else (some (x8, F)))
def Qav.f (k : Nat) (l0 : List (S46)) (a1_0 : ByteArray) (a1_1 : ByteArray) (a1_2 : ByteArray) (a1_3 : Int)  : Option (Int × Bool) := Qav.l0 k l0 0 (l0.length : Int) a1_0 a1_1 a1_2 a1_3
theorem Qav.mono_l : ∀ k, (∀ y0 y1 y2 y3 y4 y5 y6, LeO (Qav.l0 k y0 y1 y2 y3 y4 y5 y6) (Qav.l0 (k + 1) y0 y1 y2 y3 y4 y5 y6))
 | 0 => fun _ _ _ _ _ _ _ r h => by simp [Qav.l0] at h
 | k + 1 => by
  have ih0 := Qav.mono_l k
  intro y0 y1 y2 y3 y4 y5 y6
  unfold Qav.l0
  exact ZM1 ih0
theorem Qav.mono : ∀ a0 a1 a2 a3 a4 k, LeO (Qav.f k a0 a1 a2 a3 a4) (Qav.f (k + 1) a0 a1 a2 a3 a4) := by
 intro a0 a1 a2 a3 a4 k
 have ih0 := Qav.mono_l k
 unfold Qav.f
 exact ZM1 ih0
def Qav.T4 : Bool × List (List Nat × List Nat) := (T, [([], []), ([], []), ([], []), ([1, 2], [1, 2]), ([3], [3]), ([], []), ([0, 4, 5], [0, 4, 5]), ([6], [6])])
def Qav.B4 : List Nat := [0, 0, 0, 6, 14, 0, 63, 127]
theorem Qav.tab4 : rtab .any (opsOf Try.f73 4) = Qav.T4 := by kernel_rfl
theorem Qav.bits4 : Qb0 Qav.T4.2 Qav.B4 = T := by kernel_rfl
def Qav.T7 : Bool × List (List Nat × List Nat) := (T, [([], []), ([], []), ([], []), ([2], [2]), ([1, 3], [1, 3]), ([4], [4]), ([5], [5]), ([5], [5]), ([5], [5]), ([7, 8, 5], [5, 7, 8]), ([9, 5], [5, 9]), ([5], [5]), ([6, 10, 11, 5, 5], [5, 6, 10, 11]), ([12, 5], [5, 12]), ([5, 13], [5, 13]), ([0, 12, 0], [0]), ([14, 15, 0, 1, 2, 3, 4, 5, 6, 7, 8, 9, 10, 11, 12, 13, 14, 15], [14])])
def Qav.B7 : List Nat := [0, 0, 0, 4, 14, 30, 62, 62, 62, 446, 958, 62, 4094, 8190, 16382, 8191, 65535]
theorem Qav.tab7 : rtab .any (opsOf Try.f73 7) = Qav.T7 := by kernel_rfl
theorem Qav.bits7 : Qb0 Qav.T7.2 Qav.B7 = T := by kernel_rfl
theorem Qav.calls (k : Nat) (A0 : Option Addr) (c0 : Nat) (l0 : List (S46)) (a1_0 : ByteArray) (a1_1 : ByteArray) (a1_2 : ByteArray) (a1_3 : Int)  (r1 : Int) (r2 : Bool) (w : World) (hr0 : Kd.C k46 w A0 l0.length l0) (hc0 : l0.length ≤ c0) (h : Qav.f k l0 a1_0 a1_1 a1_2 a1_3 = some (r1, r2)) :
  Calls Try.prog 73 #[.slice A0 l0.length c0, .agg #[.string a1_0, .string a1_1, .string a1_2, .int .i64 a1_3], .func (.func 74) #[] #[]] w fun e w' => e = .returned (.tuple #[.int .i64 r1, .bool r2]) ∧ Below w.heap.size w w' := by
 have hu46 := Try.underlying46
 have HR0 := Aside0.mk hr0
 have HC0 := Aside0.mk hc0
 clear hr0 hc0
 have HB := Aside0.mk (Below.refl w.heap.size w)
 have H : (Qav.l0 k l0 0 (l0.length : Int) a1_0 a1_1 a1_2 a1_3) = some (r1, r2) := h
 clear h
 have H' := Aside0.mk H
 clear H
 go_enter Try.func73, Try.ntmps73
 go_wp2_with (first | ((with_reducible refine QaJ (N := 4) rfl ?_); refine Zbx (N := 4) (cs := #[.string a1_0, .string a1_1, .string a1_2, .int .i64 a1_3]) (t := 46) ?_; intro gb611 hg w4 hbox hb; have BK611 := Aside0.mk (hbox); have GW611 := Aside0.mk (Zt w hg (Zb)); have GE611 := GW611; replace HB := Aside0.mk (Qao (Zb) hb); clear hb hbox hg))
 go_loopg [8, 9] k (fun kq v8 v9 w' => ∃ (x8_1 : Int) (x9_1 : Int), v8 = .int .i64 x8_1 ∧ v9 = .int .i64 x9_1 ∧ Aside0 (Qav.l0 kq l0 x8_1 x9_1 a1_0 a1_1 a1_2 a1_3 = some (r1, r2)) ∧ Aside0 (kq ≤ k) ∧ Aside0 (w'.heap[gb611]? = some (.cells #[.string a1_0, .string a1_1, .string a1_2, .int .i64 a1_3] 46 (0, 0))) ∧ Aside0 (Below w.heap.size w w'))
 case atStart => exact ⟨(0), ((l0.length : Int)), (Zs), (Zs), H', ⟨Nat.le_refl _⟩, ⟨Zu BK611.out⟩, ⟨Zc1 GE611.out⟩⟩
 case round =>
  clear H'
  try clear p2
  obtain ⟨x8_1, x9_1, rfl, rfl, HA, HK1, BK611, HB⟩ := hrel
  cases gk with
  | zero => exact absurd HA.out (by simp [Qav.l0])
  | succ k1 =>
   have H := HA.out
   clear HA
   simp only [Qav.l0] at H
   by_cases c5 : x8_1 < x9_1
   ·rw [if_pos c5] at H
    have c5b0 : decide (x8_1 < x9_1) = T := decide_eq_true c5
    clear c5
    (try simp only [c5b0])
    obtain ⟨ji6, hji6⟩ : ∃ j_ : Int, (wrap64 (Int.tdiv (wrap64 (x8_1 + x9_1)) 2)) = j_ := ⟨_, rfl⟩
    replace H : (if 0 ≤ (ji6) then (if (ji6) < (l0.length : Int) then ((Qbz.f ((rd_T46 l0 (ji6)).f0.f0) ((rd_T46 l0 (ji6)).f0.f1) ((rd_T46 l0 (ji6)).f1) ((rd_T46 l0 (ji6)).f2) a1_0 a1_1 a1_2 a1_3).bind fun t613 => (if t613 < 0 then (Qav.l0 k1 l0 (wrap64 ((ji6) + 1)) x9_1 a1_0 a1_1 a1_2 a1_3) else (Qav.l0 k1 l0 x8_1 ji6 a1_0 a1_1 a1_2 a1_3))) else (none)) else (none)) = some (r1, r2) := by first | (rw [hji6] at H; exact H) | (simp only [hji6] at H ⊢; exact H)
    have hji6w : (IntKind.i64.wrap (Int.tdiv (wrap64 (x8_1 + x9_1)) 2)) = ji6 := (i64_w _).trans hji6
    by_cases c7 : 0 ≤ (ji6)
    ·rw [if_pos c7] at H
     have c7b0 : decide (0 ≤ (ji6)) = T := decide_eq_true c7
     clear c7
     by_cases c8 : (ji6) < (l0.length : Int)
     ·rw [if_pos c8] at H
      have c8b0 : decide ((ji6) < (l0.length : Int)) = T := decide_eq_true c8
      clear c8
      replace H := Option.bind_eq_some_iff.mp H
      obtain ⟨t613, A90, H⟩ := H
      replace H : (if t613 < 0 then (Qav.l0 k1 l0 (wrap64 ((ji6) + 1)) x9_1 a1_0 a1_1 a1_2 a1_3) else (Qav.l0 k1 l0 x8_1 ji6 a1_0 a1_1 a1_2 a1_3)) = some (r1, r2) := H
      have A9 := Aside0.mk A90
      clear A90
      try go_wp2
      replace BK611 := Aside0.mk (Qad BK611.out)
      replace HB := Aside0.mk (Qah HB.out)
      have p612 : 0 ≤ ((ji6) : Int) := Ze
      have q612 : (ji6) < (l0.length : Int) := Ze
      obtain ⟨ad612, e612, hx612_0, hx612_1, hx612_2, hx612_3⟩ := at_T46 HR0.out (ji6) p612 q612
      have hw612_3 := hx612_3
      have hw612_2 := hx612_2
      have hw612_1 := hx612_1
      have hw612_0 := hx612_0
      cases e612
      replace hx612_0 := Zx HB.out hx612_0
      replace hx612_1 := Zx HB.out hx612_1
      replace hx612_2 := Zx HB.out hx612_2
      replace hx612_3 := Zx HB.out hx612_3
      replace p612 := eq_true p612
      replace q612 := eq_true q612
      refine start_ (n := 8) (S := fun w' => w'.cell? ⟨gb611, 0, none⟩ = some (.string a1_0) ∧ w'.cell? ⟨gb611, 1, none⟩ = some (.string a1_1) ∧ w'.cell? ⟨gb611, 2, none⟩ = some (.string a1_2) ∧ w'.cell? ⟨gb611, 3, none⟩ = some (.int .i64 a1_3) ∧ w'.cell? (ad612.add (((ji6)).toNat * 4)) = some (.string ((rd_T46 l0 (ji6)).f0.f0)) ∧ w'.cell? ⟨(ad612.add (((ji6)).toNat * 4)).block, (ad612.add (((ji6)).toNat * 4)).off + 1, none⟩ = some (.string ((rd_T46 l0 (ji6)).f0.f1)) ∧ w'.cell? ⟨(ad612.add (((ji6)).toNat * 4)).block, (ad612.add (((ji6)).toNat * 4)).off + 2, none⟩ = some (.string ((rd_T46 l0 (ji6)).f1)) ∧ w'.cell? ⟨(ad612.add (((ji6)).toNat * 4)).block, (ad612.add (((ji6)).toNat * 4)).off + 3, none⟩ = some (.int .i64 ((rd_T46 l0 (ji6)).f2))) (ds := []) #[F, F, F, F, F, F, F, F] (by kernel_rfl) rfl rfl ⟨(Qai BK611.out 0).trans rfl, (Qai BK611.out 1).trans rfl, (Qai BK611.out 2).trans rfl, (Qai BK611.out 3).trans rfl, ((HB.out.cell (World.block_lt_of_cell? w _ hw612_0)).trans hw612_0), ((HB.out.cell (World.block_lt_of_cell? w _ hw612_1)).trans hw612_1), ((HB.out.cell (World.block_lt_of_cell? w _ hw612_2)).trans hw612_2), ((HB.out.cell (World.block_lt_of_cell? w _ hw612_3)).trans hw612_3)⟩ (fun hHeld => ?_); refine QbV Qav.tab4 Qav.bits4 (fun HT_ HW_ => ?_)
      generalize wr.drew = w10 at BK611 HB hx612_0 hx612_1 hx612_2 hx612_3 hHeld ⊢
      refine pure_ (i := 0) (N := some 20) (v := ?_) (a' := ?_) #[T, F, F, F, F, F, F, F] rfl rfl (any_of HT_.out (by kernel_rfl)) (fun _ _ _ h => h) (Or.inl ⟨by rfl, ?_⟩) ?_ ?_
      rotate_left
      ·intro w'
       go_simp
       with_reducible rfl
      rotate_left
      ·simp only [Act.put, Zj, Zk, Zm, i64_w, i32_w]
       rfl
      refine pure_ (i := 1) (N := some 21) (v := ?_) (a' := ?_) #[T, T, F, F, F, F, F, F] rfl rfl (any_of HT_.out (by kernel_rfl)) (fun _ _ _ h => h) (Or.inl ⟨by rfl, ?_⟩) ?_ ?_
      rotate_left
      ·intro w'
       go_simp
       with_reducible rfl
      rotate_left
      ·simp only [Act.put, Zj, Zk, Zm, i64_w, i32_w]
       rfl
      refine pure_ (i := 2) (N := some 22) (v := ?_) (a' := ?_) #[T, T, T, F, F, F, F, F] rfl rfl (any_of HT_.out (by kernel_rfl)) (fun _ _ _ h => h) (Or.inl ⟨by rfl, ?_⟩) ?_ ?_
      rotate_left
      ·intro w'
       go_simp
       with_reducible rfl
      rotate_left
      ·simp only [Act.put, Zj, Zk, Zm, i64_w, i32_w]
       rfl
      refine pure_ (i := 3) (N := some 23) (v := ?_) (a' := ?_) #[T, T, T, T, F, F, F, F] rfl rfl (any_of HT_.out (by kernel_rfl)) (fun _ _ _ h => h) (Or.inl ⟨by rfl, ?_⟩) ?_ ?_
      rotate_left
      ·intro w'
       go_simp
       with_reducible rfl
      rotate_left
      ·simp only [Act.put, Zj, Zk, Zm, i64_w, i32_w]
       rfl
      refine take_ (i := 4) (N := some 24) (v := ?_) (a' := ?_) #[T, T, T, T, T, F, F, F] rfl rfl (QbI HT_.out HW_.out (by kernel_rfl)) (fun _ _ _ h => h) (Or.inl ⟨by rfl, ?_⟩) hHeld ?_ ?_
      rotate_left
      ·rintro w' ⟨s0, s1, s2, s3, s4, s5, s6, s7⟩
       go_simp
       with_reducible rfl
      rotate_left
      ·simp only [Act.put, Zj, Zk, Zm, i64_w, i32_w]
       rfl
      refine take_ (i := 5) (N := some 25) (v := ?_) (a' := ?_) #[T, T, T, T, T, T, F, F] rfl rfl (QbI HT_.out HW_.out (by kernel_rfl)) (fun _ _ _ h => h) (Or.inl ⟨by rfl, ?_⟩) hHeld ?_ ?_
      rotate_left
      ·rintro w' ⟨s0, s1, s2, s3, s4, s5, s6, s7⟩
       go_simp
       with_reducible rfl
      rotate_left
      ·simp only [Act.put, Zj, Zk, Zm, i64_w, i32_w]
       rfl
      refine one_ (i := 6) (N := some 26) #[T, T, T, T, T, T, T, F] rfl rfl (one_of HT_.out (by kernel_rfl)) (by decide) (fun K hK => ?_)
      refine goesV_ Try.func74 (by kernel_rfl) rfl #[.agg #[.string ((rd_T46 l0 (ji6)).f0.f0), .string ((rd_T46 l0 (ji6)).f0.f1), .string ((rd_T46 l0 (ji6)).f1), .int .i64 ((rd_T46 l0 (ji6)).f2)], .agg #[.string a1_0, .string a1_1, .string a1_2, .int .i64 a1_3]] (by rfl) rfl rfl rfl (by (try simp only [List.map_toArray, List.map_cons, List.map_nil]); first | done | (simp only [hji6]; rfl) | rfl | (simp only [List.length_drop, List.length_take]; rfl)) ?_
      with_reducible refine (Qbz.calls ((rd_T46 l0 (ji6)).f0.f0) ((rd_T46 l0 (ji6)).f0.f1) ((rd_T46 l0 (ji6)).f1) ((rd_T46 l0 (ji6)).f2) a1_0 a1_1 a1_2 a1_3 t613 _ A9.out).mono ?_
      rintro e w11 ⟨rfl, hb⟩
      refine ⟨_, rfl, ?_⟩
      replace BK611 := Aside0.mk (Zi BK611.out hb)
      replace HB := Aside0.mk (Qao (Zc1 GE611.out) hb)
      (try clear hb)
      (try clear hb2)
      (try clear hk)
      (try clear hi)
      refine hK.out _ _ ⟨(Qai BK611.out 0).trans rfl, (Qai BK611.out 1).trans rfl, (Qai BK611.out 2).trans rfl, (Qai BK611.out 3).trans rfl, ((HB.out.cell (World.block_lt_of_cell? w _ hw612_0)).trans hw612_0), ((HB.out.cell (World.block_lt_of_cell? w _ hw612_1)).trans hw612_1), ((HB.out.cell (World.block_lt_of_cell? w _ hw612_2)).trans hw612_2), ((HB.out.cell (World.block_lt_of_cell? w _ hw612_3)).trans hw612_3)⟩ (fun hHeld => ?_)
      clear hK K
      refine norm_ (a' := ?_) ?_ ?_
      rotate_left
      ·show Act.put _ (some 26) _ = _
       simp only [Act.put, Zj, Zk, Zm, i64_w, i32_w]
       rfl
      refine pure_ (i := 7) (N := some 27) (v := ?_) (a' := ?_) #[T, T, T, T, T, T, T, T] rfl rfl (any_of HT_.out (by kernel_rfl)) (fun _ _ _ h => h) (Or.inl ⟨by rfl, ?_⟩) ?_ ?_
      rotate_left
      ·intro w'
       go_simp
       with_reducible rfl
      rotate_left
      ·simp only [Act.put, Zj, Zk, Zm, i64_w, i32_w]
       rfl
      refine done_ (Qb4 HT_.out (by kernel_rfl)) ?_
      go_upto_if 27 with (fail)
      by_cases c12 : t613 < 0
      ·rw [if_pos c12] at H
       have c12b0 : decide (t613 < 0) = T := decide_eq_true c12
       clear c12
       (try simp only [c12b0])
       have H' := Aside0.mk H
       clear H
       go_wp2
       go_roundg k1
       case measure => have := HK1.out; omega
       case rel => exact ⟨(wrap64 ((ji6) + 1)), (x9_1), (by first | rfl | (simp; done) | (simp only [← hji6] <;> (first | rfl | simp)) | (simp [*]; done)), (Zs), H', ⟨by have := HK1.out; omega⟩, ⟨Zu BK611.out⟩, ⟨Zc1 GE611.out⟩⟩
      rw [if_neg c12] at H
      have c12b0 : decide (t613 < 0) = F := decide_eq_false c12
      clear c12
      (try simp only [c12b0])
      have H' := Aside0.mk H
      clear H
      go_wp2
      go_roundg k1
      case measure => have := HK1.out; omega
      case rel => exact ⟨(x8_1), (ji6), (Zs), (by first | rfl | (simp; done) | (simp only [← hji6] <;> (first | rfl | simp)) | (simp [*]; done)), H', ⟨by have := HK1.out; omega⟩, ⟨Zu BK611.out⟩, ⟨Zc1 GE611.out⟩⟩
     rw [if_neg c8] at H
     exact absurd H (by simp)
    rw [if_neg c7] at H
    exact absurd H (by simp)
   rw [if_neg c5] at H
   have c5b0 : decide (x8_1 < x9_1) = F := decide_eq_false c5
   clear c5
   (try simp only [c5b0])
   by_cases c13 : x8_1 < (l0.length : Int)
   ·rw [if_pos c13] at H
    have c13b0 : decide (x8_1 < (l0.length : Int)) = T := decide_eq_true c13
    clear c13
    by_cases c14 : 0 ≤ x8_1
    ·rw [if_pos c14] at H
     have c14b0 : decide (0 ≤ x8_1) = T := decide_eq_true c14
     clear c14
     replace H := Option.bind_eq_some_iff.mp H
     obtain ⟨t615, A150, H⟩ := H
     replace H : (some (x8_1, (t615 == 0))) = some (r1, r2) := H
     have A15 := Aside0.mk A150
     clear A150
     simp only [Option.some.injEq, Prod.mk.injEq] at H
     obtain ⟨rfl, rfl⟩ := H
     try go_wp2
     replace BK611 := Aside0.mk (Qad BK611.out)
     replace HB := Aside0.mk (Qah HB.out)
     have p614 : 0 ≤ (x8_1 : Int) := Ze
     have q614 : x8_1 < (l0.length : Int) := Ze
     obtain ⟨ad614, e614, hx614_0, hx614_1, hx614_2, hx614_3⟩ := at_T46 HR0.out x8_1 p614 q614
     have hw614_3 := hx614_3
     have hw614_2 := hx614_2
     have hw614_1 := hx614_1
     have hw614_0 := hx614_0
     cases e614
     replace hx614_0 := Zx HB.out hx614_0
     replace hx614_1 := Zx HB.out hx614_1
     replace hx614_2 := Zx HB.out hx614_2
     replace hx614_3 := Zx HB.out hx614_3
     replace p614 := eq_true p614
     replace q614 := eq_true q614
     refine start_ (n := 17) (S := fun w' => w'.cell? ⟨gb611, 0, none⟩ = some (.string a1_0) ∧ w'.cell? ⟨gb611, 1, none⟩ = some (.string a1_1) ∧ w'.cell? ⟨gb611, 2, none⟩ = some (.string a1_2) ∧ w'.cell? ⟨gb611, 3, none⟩ = some (.int .i64 a1_3) ∧ w'.cell? (ad614.add ((x8_1).toNat * 4)) = some (.string ((rd_T46 l0 x8_1).f0.f0)) ∧ w'.cell? ⟨(ad614.add ((x8_1).toNat * 4)).block, (ad614.add ((x8_1).toNat * 4)).off + 1, none⟩ = some (.string ((rd_T46 l0 x8_1).f0.f1)) ∧ w'.cell? ⟨(ad614.add ((x8_1).toNat * 4)).block, (ad614.add ((x8_1).toNat * 4)).off + 2, none⟩ = some (.string ((rd_T46 l0 x8_1).f1)) ∧ w'.cell? ⟨(ad614.add ((x8_1).toNat * 4)).block, (ad614.add ((x8_1).toNat * 4)).off + 3, none⟩ = some (.int .i64 ((rd_T46 l0 x8_1).f2))) (ds := []) #[F, F, F, F, F, F, F, F, F, F, F, F, F, F, F, F, F] (by kernel_rfl) rfl rfl ⟨(Qai BK611.out 0).trans rfl, (Qai BK611.out 1).trans rfl, (Qai BK611.out 2).trans rfl, (Qai BK611.out 3).trans rfl, ((HB.out.cell (World.block_lt_of_cell? w _ hw614_0)).trans hw614_0), ((HB.out.cell (World.block_lt_of_cell? w _ hw614_1)).trans hw614_1), ((HB.out.cell (World.block_lt_of_cell? w _ hw614_2)).trans hw614_2), ((HB.out.cell (World.block_lt_of_cell? w _ hw614_3)).trans hw614_3)⟩ (fun hHeld => ?_); refine QbV Qav.tab7 Qav.bits7 (fun HT_ HW_ => ?_)
     generalize wr.drew = w16 at BK611 HB hx614_0 hx614_1 hx614_2 hx614_3 hHeld ⊢
     refine pure_ (i := 0) (N := some 31) (v := ?_) (a' := ?_) #[T, F, F, F, F, F, F, F, F, F, F, F, F, F, F, F, F] rfl rfl (any_of HT_.out (by kernel_rfl)) (fun _ _ _ h => h) (Or.inl ⟨by rfl, ?_⟩) ?_ ?_
     rotate_left
     ·intro w'
      go_simp
      with_reducible rfl
     rotate_left
     ·simp only [Act.put, Zj, Zk, Zm, i64_w, i32_w]
      rfl
     refine pure_ (i := 1) (N := some 32) (v := ?_) (a' := ?_) #[T, T, F, F, F, F, F, F, F, F, F, F, F, F, F, F, F] rfl rfl (any_of HT_.out (by kernel_rfl)) (fun _ _ _ h => h) (Or.inl ⟨by rfl, ?_⟩) ?_ ?_
     rotate_left
     ·intro w'
      go_simp
      with_reducible rfl
     rotate_left
     ·simp only [Act.put, Zj, Zk, Zm, i64_w, i32_w]
      rfl
     refine pure_ (i := 2) (N := some 33) (v := ?_) (a' := ?_) #[T, T, T, F, F, F, F, F, F, F, F, F, F, F, F, F, F] rfl rfl (any_of HT_.out (by kernel_rfl)) (fun _ _ _ h => h) (Or.inl ⟨by rfl, ?_⟩) ?_ ?_
     rotate_left
     ·intro w'
      go_simp
      with_reducible rfl
     rotate_left
     ·simp only [Act.put, Zj, Zk, Zm, i64_w, i32_w]
      rfl
     refine pure_ (i := 3) (N := some 34) (v := ?_) (a' := ?_) #[T, T, T, T, F, F, F, F, F, F, F, F, F, F, F, F, F] rfl rfl (any_of HT_.out (by kernel_rfl)) (fun _ _ _ h => h) (Or.inl ⟨by rfl, ?_⟩) ?_ ?_
     rotate_left
     ·intro w'
      go_simp
      with_reducible rfl
     rotate_left
     ·simp only [Act.put, Zj, Zk, Zm, i64_w, i32_w]
      rfl
     refine pure_ (i := 4) (N := some 35) (v := ?_) (a' := ?_) #[T, T, T, T, T, F, F, F, F, F, F, F, F, F, F, F, F] rfl rfl (any_of HT_.out (by kernel_rfl)) (fun _ _ _ h => h) (Or.inl ⟨by rfl, ?_⟩) ?_ ?_
     rotate_left
     ·intro w'
      go_simp
      with_reducible rfl
     rotate_left
     ·simp only [Act.put, Zj, Zk, Zm, i64_w, i32_w]
      rfl
     refine pure_ (i := 5) (N := some 36) (v := ?_) (a' := ?_) #[T, T, T, T, T, T, F, F, F, F, F, F, F, F, F, F, F] rfl rfl (any_of HT_.out (by kernel_rfl)) (fun _ _ _ h => h) (Or.inl ⟨by rfl, ?_⟩) ?_ ?_
     rotate_left
     ·intro w'
      go_simp
      with_reducible rfl
     rotate_left
     ·simp only [Act.put, Zj, Zk, Zm, i64_w, i32_w]
      rfl
     refine pure_ (i := 6) (N := some 37) (v := ?_) (a' := ?_) #[T, T, T, T, T, T, T, F, F, F, F, F, F, F, F, F, F] rfl rfl (any_of HT_.out (by kernel_rfl)) (fun _ _ _ h => h) (Or.inl ⟨by rfl, ?_⟩) ?_ ?_
     rotate_left
     ·intro w'
      go_simp
      with_reducible rfl
     rotate_left
     ·simp only [Act.put, Zj, Zk, Zm, i64_w, i32_w]
      rfl
     refine pure_ (i := 7) (N := some 38) (v := ?_) (a' := ?_) #[T, T, T, T, T, T, T, T, F, F, F, F, F, F, F, F, F] rfl rfl (any_of HT_.out (by kernel_rfl)) (fun _ _ _ h => h) (Or.inl ⟨by rfl, ?_⟩) ?_ ?_
     rotate_left
     ·intro w'
      go_simp
      with_reducible rfl
     rotate_left
     ·simp only [Act.put, Zj, Zk, Zm, i64_w, i32_w]
      rfl
     refine pure_ (i := 8) (N := some 39) (v := ?_) (a' := ?_) #[T, T, T, T, T, T, T, T, T, F, F, F, F, F, F, F, F] rfl rfl (any_of HT_.out (by kernel_rfl)) (fun _ _ _ h => h) (Or.inl ⟨by rfl, ?_⟩) ?_ ?_
     rotate_left
     ·intro w'
      go_simp
      with_reducible rfl
     rotate_left
     ·simp only [Act.put, Zj, Zk, Zm, i64_w, i32_w]
      rfl
     refine pure_ (i := 9) (N := some 40) (v := ?_) (a' := ?_) #[T, T, T, T, T, T, T, T, T, T, F, F, F, F, F, F, F] rfl rfl (any_of HT_.out (by kernel_rfl)) (fun _ _ _ h => h) (Or.inl ⟨by rfl, ?_⟩) ?_ ?_
     rotate_left
     ·intro w'
      go_simp
      with_reducible rfl
     rotate_left
     ·simp only [Act.put, Zj, Zk, Zm, i64_w, i32_w]
      rfl
     refine take_ (i := 10) (N := some 41) (v := ?_) (a' := ?_) #[T, T, T, T, T, T, T, T, T, T, T, F, F, F, F, F, F] rfl rfl (QbI HT_.out HW_.out (by kernel_rfl)) (fun _ _ _ h => h) (Or.inl ⟨by rfl, ?_⟩) hHeld ?_ ?_
     rotate_left
     ·rintro w' ⟨s0, s1, s2, s3, s4, s5, s6, s7⟩
      go_simp
      with_reducible rfl
     rotate_left
     ·simp only [Act.put, Zj, Zk, Zm, i64_w, i32_w]
      rfl
     refine take_ (i := 11) (N := some 42) (v := ?_) (a' := ?_) #[T, T, T, T, T, T, T, T, T, T, T, T, F, F, F, F, F] rfl rfl (QbI HT_.out HW_.out (by kernel_rfl)) (fun _ _ _ h => h) (Or.inl ⟨by rfl, ?_⟩) hHeld ?_ ?_
     rotate_left
     ·rintro w' ⟨s0, s1, s2, s3, s4, s5, s6, s7⟩
      go_simp
      with_reducible rfl
     rotate_left
     ·simp only [Act.put, Zj, Zk, Zm, i64_w, i32_w]
      rfl
     refine one_ (i := 12) (N := some 43) #[T, T, T, T, T, T, T, T, T, T, T, T, T, F, F, F, F] rfl rfl (one_of HT_.out (by kernel_rfl)) (by decide) (fun K hK => ?_)
     refine goesV_ Try.func74 (by kernel_rfl) rfl #[.agg #[.string ((rd_T46 l0 x8_1).f0.f0), .string ((rd_T46 l0 x8_1).f0.f1), .string ((rd_T46 l0 x8_1).f1), .int .i64 ((rd_T46 l0 x8_1).f2)], .agg #[.string a1_0, .string a1_1, .string a1_2, .int .i64 a1_3]] (by rfl) rfl rfl rfl (Zl) ?_
     with_reducible refine (Qbz.calls ((rd_T46 l0 x8_1).f0.f0) ((rd_T46 l0 x8_1).f0.f1) ((rd_T46 l0 x8_1).f1) ((rd_T46 l0 x8_1).f2) a1_0 a1_1 a1_2 a1_3 t615 _ A15.out).mono ?_
     rintro e w17 ⟨rfl, hb⟩
     refine ⟨_, rfl, ?_⟩
     replace BK611 := Aside0.mk (Zi BK611.out hb)
     replace HB := Aside0.mk (Qao (Zc1 GE611.out) hb)
     (try clear hb)
     (try clear hb2)
     (try clear hk)
     (try clear hi)
     refine hK.out _ _ ⟨(Qai BK611.out 0).trans rfl, (Qai BK611.out 1).trans rfl, (Qai BK611.out 2).trans rfl, (Qai BK611.out 3).trans rfl, ((HB.out.cell (World.block_lt_of_cell? w _ hw614_0)).trans hw614_0), ((HB.out.cell (World.block_lt_of_cell? w _ hw614_1)).trans hw614_1), ((HB.out.cell (World.block_lt_of_cell? w _ hw614_2)).trans hw614_2), ((HB.out.cell (World.block_lt_of_cell? w _ hw614_3)).trans hw614_3)⟩ (fun hHeld => ?_)
     clear hK K
     refine norm_ (a' := ?_) ?_ ?_
     rotate_left
     ·show Act.put _ (some 43) _ = _
      simp only [Act.put, Zj, Zk, Zm, i64_w, i32_w]
      rfl
     refine pure_ (i := 13) (N := some 44) (v := ?_) (a' := ?_) #[T, T, T, T, T, T, T, T, T, T, T, T, T, T, F, F, F] rfl rfl (any_of HT_.out (by kernel_rfl)) (fun _ _ _ h => h) (Or.inl ⟨by rfl, ?_⟩) ?_ ?_
     rotate_left
     ·intro w'
      go_simp
      with_reducible rfl
     rotate_left
     ·simp only [Act.put, Zj, Zk, Zm, i64_w, i32_w]
      rfl
     refine pure_ (i := 14) (N := some 45) (v := ?_) (a' := ?_) #[T, T, T, T, T, T, T, T, T, T, T, T, T, T, T, F, F] rfl rfl (any_of HT_.out (by kernel_rfl)) (fun _ _ _ h => h) (Or.inl ⟨by rfl, ?_⟩) ?_ ?_
     rotate_left
     ·intro w'
      go_simp
      with_reducible rfl
     rotate_left
     ·simp only [Act.put, Zj, Zk, Zm, i64_w, i32_w]
      rfl
     refine pure_ (i := 15) (N := some 6) (v := ?_) (a' := ?_) #[T, T, T, T, T, T, T, T, T, T, T, T, T, T, T, T, F] rfl rfl (any_of HT_.out (by kernel_rfl)) (fun _ _ _ h => h) (Or.inl ⟨by rfl, ?_⟩) ?_ ?_
     rotate_left
     ·intro w'
      go_simp
      with_reducible rfl
     rotate_left
     ·simp only [Act.put, Zj, Zk, Zm, i64_w, i32_w]
      rfl
     refine pure_ (i := 16) (N := some 7) (v := ?_) (a' := ?_) #[T, T, T, T, T, T, T, T, T, T, T, T, T, T, T, T, T] rfl rfl (any_of HT_.out (by kernel_rfl)) (fun _ _ _ h => h) (Or.inl ⟨by rfl, ?_⟩) ?_ ?_
     rotate_left
     ·intro w'
      go_simp
      with_reducible rfl
     rotate_left
     ·simp only [Act.put, Zj, Zk, Zm, i64_w, i32_w]
      rfl
     refine done_ (Qb4 HT_.out (by kernel_rfl)) ?_
     try go_wp2
     go_ret2
     exact ⟨Zq, Zc1 GE611.out⟩
    rw [if_neg c14] at H
    exact absurd H (by simp)
   rw [if_neg c13] at H
   have c13b0 : decide (x8_1 < (l0.length : Int)) = F := decide_eq_false c13
   clear c13
   simp only [Option.some.injEq, Prod.mk.injEq] at H
   obtain ⟨rfl, rfl⟩ := H
   try go_wp2
   replace BK611 := Aside0.mk (Qad BK611.out)
   replace HB := Aside0.mk (Qah HB.out)
   refine start_ (n := 17) (S := fun w' => True) (ds := []) #[F, F, F, F, F, F, F, F, F, F, F, F, F, F, F, F, F] (by kernel_rfl) rfl rfl trivial (fun hHeld => ?_); refine QbV Qav.tab7 Qav.bits7 (fun HT_ HW_ => ?_)
   generalize wr.drew = w18 at BK611 HB hHeld ⊢
   refine pure_ (i := 0) (N := some 31) (v := ?_) (a' := ?_) #[T, F, F, F, F, F, F, F, F, F, F, F, F, F, F, F, F] rfl rfl (any_of HT_.out (by kernel_rfl)) (fun _ _ _ h => h) (Or.inl ⟨by rfl, ?_⟩) ?_ ?_
   rotate_left
   ·intro w'
    go_simp
    with_reducible rfl
   rotate_left
   ·simp only [Act.put, Zj, Zk, Zm, i64_w, i32_w]
    rfl
   refine pure_ (i := 1) (N := some 32) (v := ?_) (a' := ?_) #[T, T, F, F, F, F, F, F, F, F, F, F, F, F, F, F, F] rfl rfl (any_of HT_.out (by kernel_rfl)) (fun _ _ _ h => h) (Or.inl ⟨by rfl, ?_⟩) ?_ ?_
   rotate_left
   ·intro w'
    go_simp
    with_reducible rfl
   rotate_left
   ·simp only [Act.put, Zj, Zk, Zm, i64_w, i32_w]
    rfl
   refine pure_ (i := 2) (N := some 33) (v := ?_) (a' := ?_) #[T, T, T, F, F, F, F, F, F, F, F, F, F, F, F, F, F] rfl rfl (any_of HT_.out (by kernel_rfl)) (fun _ _ _ h => h) (Or.inl ⟨by rfl, ?_⟩) ?_ ?_
   rotate_left
   ·intro w'
    go_simp
    with_reducible rfl
   rotate_left
   ·simp only [Act.put, Zj, Zk, Zm, i64_w, i32_w]
    rfl
   refine pure_ (i := 3) (N := some 34) (v := ?_) (a' := ?_) #[T, T, T, T, F, F, F, F, F, F, F, F, F, F, F, F, F] rfl rfl (any_of HT_.out (by kernel_rfl)) (fun _ _ _ h => h) (Or.inl ⟨by rfl, ?_⟩) ?_ ?_
   rotate_left
   ·intro w'
    go_simp
    with_reducible rfl
   rotate_left
   ·simp only [Act.put, Zj, Zk, Zm, i64_w, i32_w]
    rfl
   refine pure_ (i := 4) (N := some 35) (v := ?_) (a' := ?_) #[T, T, T, T, T, F, F, F, F, F, F, F, F, F, F, F, F] rfl rfl (any_of HT_.out (by kernel_rfl)) (fun _ _ _ h => h) (Or.inl ⟨by rfl, ?_⟩) ?_ ?_
   rotate_left
   ·intro w'
    go_simp
    with_reducible rfl
   rotate_left
   ·simp only [Act.put, Zj, Zk, Zm, i64_w, i32_w]
    rfl
   refine pure_ (i := 5) (N := some 36) (v := ?_) (a' := ?_) #[T, T, T, T, T, T, F, F, F, F, F, F, F, F, F, F, F] rfl rfl (any_of HT_.out (by kernel_rfl)) (fun _ _ _ h => h) (Or.inl ⟨by rfl, ?_⟩) ?_ ?_
   rotate_left
   ·intro w'
    go_simp
    with_reducible rfl
   rotate_left
   ·simp only [Act.put, Zj, Zk, Zm, i64_w, i32_w]
    rfl
   refine pure_ (i := 6) (N := some 37) (v := undef) (a' := ?_) #[T, T, T, T, T, T, T, F, F, F, F, F, F, F, F, F, F] rfl rfl (any_of HT_.out (by kernel_rfl)) (fun _ _ _ h => h) (Or.inr ⟨by rfl, rfl⟩) ?_ ?_
   rotate_left
   ·simp only [Act.put, Zj, Zk, Zm, i64_w, i32_w]
    rfl
   refine pure_ (i := 7) (N := some 38) (v := undef) (a' := ?_) #[T, T, T, T, T, T, T, T, F, F, F, F, F, F, F, F, F] rfl rfl (any_of HT_.out (by kernel_rfl)) (fun _ _ _ h => h) (Or.inr ⟨by rfl, rfl⟩) ?_ ?_
   rotate_left
   ·simp only [Act.put, Zj, Zk, Zm, i64_w, i32_w]
    rfl
   refine pure_ (i := 8) (N := some 39) (v := undef) (a' := ?_) #[T, T, T, T, T, T, T, T, T, F, F, F, F, F, F, F, F] rfl rfl (any_of HT_.out (by kernel_rfl)) (fun _ _ _ h => h) (Or.inr ⟨by rfl, rfl⟩) ?_ ?_
   rotate_left
   ·simp only [Act.put, Zj, Zk, Zm, i64_w, i32_w]
    rfl
   refine pure_ (i := 9) (N := some 40) (v := undef) (a' := ?_) #[T, T, T, T, T, T, T, T, T, T, F, F, F, F, F, F, F] rfl rfl (any_of HT_.out (by kernel_rfl)) (fun _ _ _ h => h) (Or.inr ⟨by rfl, rfl⟩) ?_ ?_
   rotate_left
   ·simp only [Act.put, Zj, Zk, Zm, i64_w, i32_w]
    rfl
   refine pure_ (i := 10) (N := some 41) (v := undef) (a' := ?_) #[T, T, T, T, T, T, T, T, T, T, T, F, F, F, F, F, F] rfl rfl (any_of HT_.out (by kernel_rfl)) (fun _ _ _ h => h) (Or.inr ⟨by rfl, rfl⟩) ?_ ?_
   rotate_left
   ·simp only [Act.put, Zj, Zk, Zm, i64_w, i32_w]
    rfl
   refine pure_ (i := 11) (N := some 42) (v := undef) (a' := ?_) #[T, T, T, T, T, T, T, T, T, T, T, T, F, F, F, F, F] rfl rfl (any_of HT_.out (by kernel_rfl)) (fun _ _ _ h => h) (Or.inr ⟨by rfl, rfl⟩) ?_ ?_
   rotate_left
   ·simp only [Act.put, Zj, Zk, Zm, i64_w, i32_w]
    rfl
   refine pure_ (i := 12) (N := some 43) (v := undef) (a' := ?_) #[T, T, T, T, T, T, T, T, T, T, T, T, T, F, F, F, F] rfl rfl (any_of HT_.out (by kernel_rfl)) (fun _ _ _ h => h) (Or.inr ⟨by rfl, rfl⟩) ?_ ?_
   rotate_left
   ·simp only [Act.put, Zj, Zk, Zm, i64_w, i32_w]
    rfl
   refine pure_ (i := 13) (N := some 44) (v := undef) (a' := ?_) #[T, T, T, T, T, T, T, T, T, T, T, T, T, T, F, F, F] rfl rfl (any_of HT_.out (by kernel_rfl)) (fun _ _ _ h => h) (Or.inr ⟨by rfl, rfl⟩) ?_ ?_
   rotate_left
   ·simp only [Act.put, Zj, Zk, Zm, i64_w, i32_w]
    rfl
   refine pure_ (i := 14) (N := some 45) (v := ?_) (a' := ?_) #[T, T, T, T, T, T, T, T, T, T, T, T, T, T, T, F, F] rfl rfl (any_of HT_.out (by kernel_rfl)) (fun _ _ _ h => h) (Or.inl ⟨by rfl, ?_⟩) ?_ ?_
   rotate_left
   ·intro w'
    go_simp
    with_reducible rfl
   rotate_left
   ·simp only [Act.put, Zj, Zk, Zm, i64_w, i32_w]
    rfl
   refine pure_ (i := 15) (N := some 6) (v := ?_) (a' := ?_) #[T, T, T, T, T, T, T, T, T, T, T, T, T, T, T, T, F] rfl rfl (any_of HT_.out (by kernel_rfl)) (fun _ _ _ h => h) (Or.inl ⟨by rfl, ?_⟩) ?_ ?_
   rotate_left
   ·intro w'
    go_simp
    with_reducible rfl
   rotate_left
   ·simp only [Act.put, Zj, Zk, Zm, i64_w, i32_w]
    rfl
   refine pure_ (i := 16) (N := some 7) (v := ?_) (a' := ?_) #[T, T, T, T, T, T, T, T, T, T, T, T, T, T, T, T, T] rfl rfl (any_of HT_.out (by kernel_rfl)) (fun _ _ _ h => h) (Or.inl ⟨by rfl, ?_⟩) ?_ ?_
   rotate_left
   ·intro w'
    go_simp
    with_reducible rfl
   rotate_left
   ·simp only [Act.put, Zj, Zk, Zm, i64_w, i32_w]
    rfl
   refine done_ (Qb4 HT_.out (by kernel_rfl)) ?_
   try go_wp2
   go_ret2
   exact ⟨Zq, Zc1 GE611.out⟩
def Qbw.f (l0 : List (S46)) (a1 : Int) (a2 : Int) (l3 : List (S46)) : Option ((List (S46))) := if 0 ≤ (wrap64 ((wrap64 ((l0.length : Int) + (l3.length : Int))) - a2)) then (if (wrap64 ((wrap64 ((l0.length : Int) + (l3.length : Int))) - a2) : Int).toNat ≤ 5026338869833 then ((some (([] : List (S46)) : List (S46))).bind fun y616 => (if 0 ≤ a1 then (if a1 ≤ (l0.length : Int) then ((some (l0.take (a1 : Int).toNat : List (S46))).bind fun y619 => (if y616.length + y619.length < 2513169434916 then ((some (y616 ++ y619 : List (S46))).bind fun y623 => (if y623.length + l3.length < 2513169434916 then ((some (y623 ++ l3 : List (S46))).bind fun y626 => (if 0 ≤ (wrap64 (a1 + a2)) then (if (wrap64 (a1 + a2)) ≤ (l0.length : Int) then ((some (l0.drop ((wrap64 (a1 + a2)) : Int).toNat : List (S46))).bind fun y629 => (if y626.length + y629.length < 2513169434916 then (some (y626 ++ y629)) else (none))) else (none)) else (none))) else (none))) else (none))) else (none)) else (none))) else (none)) else (none)
theorem Qbw.calls (A0 : Option Addr) (c0 : Nat) (l0 : List (S46)) (a1 : Int) (a2 : Int) (A3 : Option Addr) (c3 : Nat) (l3 : List (S46)) (r : List (S46)) (w : World) (hr0 : Kd.C k46 w A0 l0.length l0) (hc0 : l0.length ≤ c0) (hr3 : Kd.C k46 w A3 l3.length l3) (hc3 : l3.length ≤ c3) (h : Qbw.f l0 a1 a2 l3 = some r) :
  Calls Try.prog 75 #[.slice A0 l0.length c0, .int .i64 a1, .int .i64 a2, .slice A3 l3.length c3] w fun e w' => ∃ v0_ : Value, e = .returned (v0_) ∧ Kd.R k46 46 w' w.heap.size (fun _ => True) v0_ r ∧ Below w.heap.size w w' := by
 have HR0 := Aside0.mk hr0
 have HC0 := Aside0.mk hc0
 clear hr0 hc0
 have HR3 := Aside0.mk hr3
 have HC3 := Aside0.mk hc3
 clear hr3 hc3
 have HB := Aside0.mk (Below.refl w.heap.size w)
 have H : (if 0 ≤ (wrap64 ((wrap64 ((l0.length : Int) + (l3.length : Int))) - a2)) then (if (wrap64 ((wrap64 ((l0.length : Int) + (l3.length : Int))) - a2) : Int).toNat ≤ 5026338869833 then ((some (([] : List (S46)) : List (S46))).bind fun y616 => (if 0 ≤ a1 then (if a1 ≤ (l0.length : Int) then ((some (l0.take (a1 : Int).toNat : List (S46))).bind fun y619 => (if y616.length + y619.length < 2513169434916 then ((some (y616 ++ y619 : List (S46))).bind fun y623 => (if y623.length + l3.length < 2513169434916 then ((some (y623 ++ l3 : List (S46))).bind fun y626 => (if 0 ≤ (wrap64 (a1 + a2)) then (if (wrap64 (a1 + a2)) ≤ (l0.length : Int) then ((some (l0.drop ((wrap64 (a1 + a2)) : Int).toNat : List (S46))).bind fun y629 => (if y626.length + y629.length < 2513169434916 then (some (y626 ++ y629)) else (none))) else (none)) else (none))) else (none))) else (none))) else (none)) else (none))) else (none)) else (none)) = some r := h
 clear h
 obtain ⟨ji5, hji5⟩ : ∃ j_ : Int, (wrap64 ((wrap64 ((l0.length : Int) + (l3.length : Int))) - a2)) = j_ := ⟨_, rfl⟩
 replace H : (if 0 ≤ (ji5) then (if (ji5 : Int).toNat ≤ 5026338869833 then ((some (([] : List (S46)) : List (S46))).bind fun y616 => (if 0 ≤ a1 then (if a1 ≤ (l0.length : Int) then ((some (l0.take (a1 : Int).toNat : List (S46))).bind fun y619 => (if y616.length + y619.length < 2513169434916 then ((some (y616 ++ y619 : List (S46))).bind fun y623 => (if y623.length + l3.length < 2513169434916 then ((some (y623 ++ l3 : List (S46))).bind fun y626 => (if 0 ≤ (wrap64 (a1 + a2)) then (if (wrap64 (a1 + a2)) ≤ (l0.length : Int) then ((some (l0.drop ((wrap64 (a1 + a2)) : Int).toNat : List (S46))).bind fun y629 => (if y626.length + y629.length < 2513169434916 then (some (y626 ++ y629)) else (none))) else (none)) else (none))) else (none))) else (none))) else (none)) else (none))) else (none)) else (none)) = some r := by first | (rw [hji5] at H; exact H) | (simp only [hji5] at H ⊢; exact H)
 have hji5w : (IntKind.i64.wrap ((wrap64 ((l0.length : Int) + (l3.length : Int))) - a2)) = ji5 := (i64_w _).trans hji5
 by_cases c6 : 0 ≤ (ji5)
 ·rw [if_pos c6] at H
  have c6b0 := eq_true c6
  have c6b1 : decide (0 ≤ (ji5)) = T := decide_eq_true c6
  clear c6
  by_cases c7 : (ji5 : Int).toNat ≤ 5026338869833
  ·rw [if_pos c7] at H
   have c7b0 := eq_true c7
   have c7b1 : decide ((ji5 : Int).toNat ≤ 5026338869833) = T := decide_eq_true c7
   clear c7
   obtain ⟨y616, hy616⟩ : ∃ y_ : List (S46), y_ = (([] : List (S46))) := ⟨_, rfl⟩
   replace H : (if 0 ≤ a1 then (if a1 ≤ (l0.length : Int) then ((some (l0.take (a1 : Int).toNat : List (S46))).bind fun y619 => (if y616.length + y619.length < 2513169434916 then ((some (y616 ++ y619 : List (S46))).bind fun y623 => (if y623.length + l3.length < 2513169434916 then ((some (y623 ++ l3 : List (S46))).bind fun y626 => (if 0 ≤ (wrap64 (a1 + a2)) then (if (wrap64 (a1 + a2)) ≤ (l0.length : Int) then ((some (l0.drop ((wrap64 (a1 + a2)) : Int).toNat : List (S46))).bind fun y629 => (if y626.length + y629.length < 2513169434916 then (some (y626 ++ y629)) else (none))) else (none)) else (none))) else (none))) else (none))) else (none)) else (none)) = some r := by first | (rw [hy616]; with_reducible exact H) | (have H2_ := (Option.bind_some _ _).symm.trans H; rw [hy616]; with_reducible exact H2_) | (have H2_ := (Option.bind_some _ _).symm.trans H; with_reducible exact H2_) | with_reducible exact H | (rw [hy616]; exact H) | exact H
   have Ny616 := Aside0.mk hy616
   clear hy616
   by_cases c8 : 0 ≤ a1
   ·rw [if_pos c8] at H
    have c8b0 := eq_true c8
    have c8b1 : decide (0 ≤ a1) = T := decide_eq_true c8
    clear c8
    by_cases c9 : a1 ≤ (l0.length : Int)
    ·rw [if_pos c9] at H
     have c9b0 := eq_true c9
     have c9b1 : decide (a1 ≤ (l0.length : Int)) = T := decide_eq_true c9
     clear c9
     obtain ⟨y619, hy619⟩ : ∃ y_ : List (S46), y_ = (l0.take (a1 : Int).toNat) := ⟨_, rfl⟩
     replace H : (if y616.length + y619.length < 2513169434916 then ((some (y616 ++ y619 : List (S46))).bind fun y623 => (if y623.length + l3.length < 2513169434916 then ((some (y623 ++ l3 : List (S46))).bind fun y626 => (if 0 ≤ (wrap64 (a1 + a2)) then (if (wrap64 (a1 + a2)) ≤ (l0.length : Int) then ((some (l0.drop ((wrap64 (a1 + a2)) : Int).toNat : List (S46))).bind fun y629 => (if y626.length + y629.length < 2513169434916 then (some (y626 ++ y629)) else (none))) else (none)) else (none))) else (none))) else (none)) = some r := by first | (rw [hy619]; with_reducible exact H) | (have H2_ := (Option.bind_some _ _).symm.trans H; rw [hy619]; with_reducible exact H2_) | (have H2_ := (Option.bind_some _ _).symm.trans H; with_reducible exact H2_) | with_reducible exact H | (rw [hy619]; exact H) | exact H
     have Ny619 := Aside0.mk hy619
     clear hy619
     by_cases c10 : y616.length + y619.length < 2513169434916
     ·rw [if_pos c10] at H
      have LMc10 := Aside0.mk c10
      clear c10
      obtain ⟨y623, hy623⟩ : ∃ y_ : List (S46), y_ = (y616 ++ y619) := ⟨_, rfl⟩
      replace H : (if y623.length + l3.length < 2513169434916 then ((some (y623 ++ l3 : List (S46))).bind fun y626 => (if 0 ≤ (wrap64 (a1 + a2)) then (if (wrap64 (a1 + a2)) ≤ (l0.length : Int) then ((some (l0.drop ((wrap64 (a1 + a2)) : Int).toNat : List (S46))).bind fun y629 => (if y626.length + y629.length < 2513169434916 then (some (y626 ++ y629)) else (none))) else (none)) else (none))) else (none)) = some r := by first | (rw [hy623]; with_reducible exact H) | (have H2_ := (Option.bind_some _ _).symm.trans H; rw [hy623]; with_reducible exact H2_) | (have H2_ := (Option.bind_some _ _).symm.trans H; with_reducible exact H2_) | with_reducible exact H | (rw [hy623]; exact H) | exact H
      have Ny623 := Aside0.mk hy623
      clear hy623
      by_cases c11 : y623.length + l3.length < 2513169434916
      ·rw [if_pos c11] at H
       have LMc11 := Aside0.mk c11
       clear c11
       obtain ⟨y626, hy626⟩ : ∃ y_ : List (S46), y_ = (y623 ++ l3) := ⟨_, rfl⟩
       replace H : (if 0 ≤ (wrap64 (a1 + a2)) then (if (wrap64 (a1 + a2)) ≤ (l0.length : Int) then ((some (l0.drop ((wrap64 (a1 + a2)) : Int).toNat : List (S46))).bind fun y629 => (if y626.length + y629.length < 2513169434916 then (some (y626 ++ y629)) else (none))) else (none)) else (none)) = some r := by first | (rw [hy626]; with_reducible exact H) | (have H2_ := (Option.bind_some _ _).symm.trans H; rw [hy626]; with_reducible exact H2_) | (have H2_ := (Option.bind_some _ _).symm.trans H; with_reducible exact H2_) | with_reducible exact H | (rw [hy626]; exact H) | exact H
       have Ny626 := Aside0.mk hy626
       clear hy626
       obtain ⟨ji12, hji12⟩ : ∃ j_ : Int, (wrap64 (a1 + a2)) = j_ := ⟨_, rfl⟩
       replace H : (if 0 ≤ (ji12) then (if (ji12) ≤ (l0.length : Int) then ((some (l0.drop ((ji12) : Int).toNat : List (S46))).bind fun y629 => (if y626.length + y629.length < 2513169434916 then (some (y626 ++ y629)) else (none))) else (none)) else (none)) = some r := by first | (rw [hji12] at H; exact H) | (simp only [hji12] at H ⊢; exact H)
       have hji12w : (IntKind.i64.wrap (a1 + a2)) = ji12 := (i64_w _).trans hji12
       by_cases c13 : 0 ≤ (ji12)
       ·rw [if_pos c13] at H
        have c13b0 := eq_true c13
        have c13b1 : decide (0 ≤ (ji12)) = T := decide_eq_true c13
        clear c13
        by_cases c14 : (ji12) ≤ (l0.length : Int)
        ·rw [if_pos c14] at H
         have c14b0 := eq_true c14
         have c14b1 : decide ((ji12) ≤ (l0.length : Int)) = T := decide_eq_true c14
         clear c14
         obtain ⟨y629, hy629⟩ : ∃ y_ : List (S46), y_ = (l0.drop ((ji12) : Int).toNat) := ⟨_, rfl⟩
         replace H : (if y626.length + y629.length < 2513169434916 then (some (y626 ++ y629)) else (none)) = some r := by first | (rw [hy629]; with_reducible exact H) | (have H2_ := (Option.bind_some _ _).symm.trans H; rw [hy629]; with_reducible exact H2_) | (have H2_ := (Option.bind_some _ _).symm.trans H; with_reducible exact H2_) | with_reducible exact H | (rw [hy629]; exact H) | exact H
         have Ny629 := Aside0.mk hy629
         clear hy629
         by_cases c15 : y626.length + y629.length < 2513169434916
         ·rw [if_pos c15] at H
          have LMc15 := Aside0.mk c15
          clear c15
          obtain ⟨y633, hy633⟩ : ∃ y_ : List (S46), y_ = (y626 ++ y629) := ⟨_, rfl⟩
          replace H : (some y633) = some r := by first | (rw [hy633]; with_reducible exact H) | (have H2_ := (Option.bind_some _ _).symm.trans H; rw [hy633]; with_reducible exact H2_) | (have H2_ := (Option.bind_some _ _).symm.trans H; with_reducible exact H2_) | with_reducible exact H | (rw [hy633]; exact H) | exact H
          have Ny633 := Aside0.mk hy633
          clear hy633
          obtain rfl := Option.some.inj H
          go_enter Try.func75, Try.ntmps75
          go_wp2_with (first | ((with_reducible refine QaJ (N := 17) rfl ?_); refine QfN k46 _ 46 rfl (N := 17) rfl 30 _ _ rfl ji5 rfl rfl Try.underlying30 (.agg #[(.string ⟨#[]⟩), (.string ⟨#[]⟩), (.string ⟨#[]⟩), (.int .i64 0)]) 56 info46 rfl (by omega) (ok := fun _ => True) trivial (Ze) (Nat.le_trans (Nat.mul_le_mul_right _ (Ze : ji5.toNat ≤ 5026338869833)) (by omega)) (Below.refl _ _) (Nat.le_refl _) ?_; intro v617 w16 ho17 hb hg_ hnew_; clear hg_ hnew_; (first | rw [← Ny616.out] at ho17 | (simp only [Int.reduceToNat] at ho17; rw [← Ny616.out] at ho17)); have HO618 := Aside0.mk (Kd.R_lower ho17 (Qam (Zb))); replace HB := Aside0.mk (Qao (Zb) hb); clear hb ho17; have q18 : (a1 : Int) ≤ ((l0.length : Int) : Int) := Ze; obtain ⟨i018, hi018, _, hsz18, _⟩ := info_parts info46; have hroom18 : l0.length ≤ c0 := HC0.out; have hC18 : Kd.C k46 _ A0 l0.length l0 := HR0.out; have hcut18 := cut_to (P := Try.prog) 30 46 .i64 Try.underlying30 hi018 A0 l0.length c0 a1 (Ze) q18 hroom18; have hr18 := Kd.C_take (m := (a1 : Int).toNat) hC18 (by omega); have hy18 : y619.length = (a1 : Int).toNat := (by rw [Ny619.out, List.length_take]; omega); rw [← Ny619.out] at hr18; rw [← hy18] at hcut18; have HR622 := Aside0.mk hr18; have HC622 := Aside0.mk (show y619.length ≤ c0 from by omega); clear hr18 hC18 hroom18 hi018 hsz18; have KY18 := Aside0.mk hy18; clear hy18; replace q18 := eq_true q18) | ((with_reducible refine QbT (b := .append) (xs := #[.tmp 18, .tmp 21]) rfl ?_); at_builtin; refine Kd.R_append_rows k46 (w0 := w) w.heap.size rfl (.tmp 18) (.tmp 21) 30 46 (.agg #[(.string ⟨#[]⟩), (.string ⟨#[]⟩), (.string ⟨#[]⟩), (.int .i64 0)]) 56 rfl Try.underlying30 info46 rfl (by decide) (by omega) v617 y616 y619 _ _ _ (fun _ => True) (fun _ => False) rfl rfl ?aO ?aR (fun _ _ h => h) (fun _ h => h.elim) ?aF ?aB ?aS ?aL ?_; (case aR => exact Zv (Kd.C_below HR622.out HB.out)); (case aB => exact (Zb)); (case aF => exact (fun _ _ => trivial)); (case aO => exact (Zr HO618.out)); (case aS => exact (Qam (Zb))); (case aL => have := LMc10.out; omega); intro v624 w19 ho hb hg hat; rw [← Ny623.out] at ho; have HO625 := Aside0.mk (ho); replace HB := Aside0.mk (hb); clear HO618; clear ho hb hg hat) | ((with_reducible refine QbT (b := .append) (xs := #[.tmp 23, .tmp 24]) rfl ?_); at_builtin; refine Kd.R_append_rows k46 (w0 := w) w.heap.size rfl (.tmp 23) (.tmp 24) 30 46 (.agg #[(.string ⟨#[]⟩), (.string ⟨#[]⟩), (.string ⟨#[]⟩), (.int .i64 0)]) 56 rfl Try.underlying30 info46 rfl (by decide) (by omega) v624 y623 l3 _ _ _ (fun _ => True) (fun _ => False) rfl rfl ?aO ?aR (fun _ _ h => h) (fun _ h => h.elim) ?aF ?aB ?aS ?aL ?_; (case aR => exact Zv (Kd.C_below HR3.out HB.out)); (case aB => exact (Zb)); (case aF => exact (fun _ _ => trivial)); (case aO => exact (Zr HO625.out)); (case aS => exact (Qam (Zb))); (case aL => have := LMc11.out; omega); intro v627 w20 ho hb hg hat; rw [← Ny626.out] at ho; have HO628 := Aside0.mk (ho); replace HB := Aside0.mk (hb); clear HO625; clear ho hb hg hat; have q21 : ((ji12) : Int) ≤ ((l0.length : Int) : Int) := Ze; obtain ⟨i021, hi021, _, hsz21, _⟩ := info_parts info46; have hroom21 : l0.length ≤ c0 := HC0.out; have hC21 : Kd.C k46 _ A0 l0.length l0 := HR0.out; have q021 : (0 : Int) ≤ ((ji12) : Int) := Ze; have hcut21 := Qfj (P := Try.prog) 30 46 .i64 Try.underlying30 hi021 4 hsz21 A0 l0.length c0 (ji12) q021 q21; have hr21 := Kd.C_drop (m := ((ji12) : Int).toNat) (c := c0) hC21 (by omega) hroom21; obtain ⟨A21, hA21⟩ : ∃ A1, A1 = (if c0 = ((ji12) : Int).toNat then A0 else (A0 : Option Addr).map (·.add (((ji12) : Int).toNat * 4))) := ⟨_, rfl⟩; obtain ⟨c21, hc21⟩ : ∃ c1, c1 = c0 - ((ji12) : Int).toNat := ⟨_, rfl⟩; have hy21 : y629.length = l0.length - ((ji12) : Int).toNat := (by rw [Ny629.out, List.length_drop] <;> omega); rw [show (l0).drop ((ji12) : Int).toNat = y629 from Ny629.out.symm] at hr21; replace hr21 : Kd.C k46 _ A21 y629.length y629 := (by rw [hA21]; exact hr21); rw [← hy21, ← hA21, ← hc21] at hcut21; have HR632 := Aside0.mk hr21; have HC632 := Aside0.mk (show y629.length ≤ c21 from by rw [hy21, hc21]; exact Nat.sub_le_sub_right hroom21 _); clear hr21 hC21 hroom21 hi021 hsz21 hc21; have KY21 := Aside0.mk hy21; have KA21 := Aside0.mk hA21; clear hy21 hA21; replace q21 := eq_true q21) | ((with_reducible refine QbT (b := .append) (xs := #[.tmp 26, .tmp 31]) rfl ?_); at_builtin; refine Kd.R_append_rows k46 (w0 := w) w.heap.size rfl (.tmp 26) (.tmp 31) 30 46 (.agg #[(.string ⟨#[]⟩), (.string ⟨#[]⟩), (.string ⟨#[]⟩), (.int .i64 0)]) 56 rfl Try.underlying30 info46 rfl (by decide) (by omega) v627 y626 y629 _ _ _ (fun _ => True) (fun _ => False) rfl rfl ?aO ?aR (fun _ _ h => h) (fun _ h => h.elim) ?aF ?aB ?aS ?aL ?_; (case aR => exact Zv (Kd.C_below HR632.out HB.out)); (case aB => exact (Zb)); (case aF => exact (fun _ _ => trivial)); (case aO => exact (Zr HO628.out)); (case aS => exact (Qam (Zb))); (case aL => have := LMc15.out; omega); intro v634 w22 ho hb hg hat; rw [← Ny633.out] at ho; have HO635 := Aside0.mk (ho); replace HB := Aside0.mk (hb); clear HO628; clear ho hb hg hat))
          go_ret
          exact ⟨_, by first | rfl | (simp [Qaj, Qak] <;> rfl) | (simp only [← hji5, ← hji12]; first | rfl | (simp [Qaj, Qak] <;> rfl)) | (simp [*, Qaj, Qak] <;> rfl), Zr HO635.out, Zb⟩
         rw [if_neg c15] at H
         exact absurd H (by simp)
        rw [if_neg c14] at H
        exact absurd H (by simp)
       rw [if_neg c13] at H
       exact absurd H (by simp)
      rw [if_neg c11] at H
      exact absurd H (by simp)
     rw [if_neg c10] at H
     exact absurd H (by simp)
    rw [if_neg c9] at H
    exact absurd H (by simp)
   rw [if_neg c8] at H
   exact absurd H (by simp)
  rw [if_neg c7] at H
  exact absurd H (by simp)
 rw [if_neg c6] at H
 exact absurd H (by simp)
def Qbc.j0 : Nat → List (S46) → Int → Int → Bool → ByteArray → ByteArray → ByteArray → Int → Option ((List (S46)) × Int)
 | 0, _, _, _, _, _, _, _, _ => none
 | k + 1, x0, x3, x11, x40, x640000, x640001, x640002, x640003 => if x40 = T then (some (([] : List (S46)), 23)) else (if 0 ≤ x11 then (if x11 < (x0.length : Int) then (if (wrap64 (((rd_T46 x0 x11).f2) - x3)) = 0 then ((Qbw.f x0 x11 1 ([] : List (S46))).bind fun t644 => (some (t644, 0))) else ((Qbw.f x0 x11 1 (([(⟨(⟨x640000, x640001⟩ : S44), x640002, wrap64 (((rd_T46 x0 x11).f2) - x3)⟩ : S46)] : List (S46)))).bind fun t650 => (some (t650, 0)))) else (none)) else (none))
def Qbc.f (k : Nat) (l0 : List (S46)) (a1_0 : ByteArray) (a1_1 : ByteArray) (a2 : ByteArray) (a3 : Int) : Option ((List (S46)) × Int) := (QaE.f k l0).bind fun t637 => (if t637 = 0 then ((QbR.f a3).bind fun t638 => (if t638 = T then ((Qav.f k l0 a1_0 a1_1 a2 0).bind fun bt640 => (if bt640.2 = T then (if 0 ≤ bt640.1 then (if bt640.1 < (l0.length : Int) then (Qbc.j0 k l0 a3 bt640.1 (decide (((rd_T46 l0 bt640.1).f2) < a3)) a1_0 a1_1 a2 0) else (none)) else (none)) else (Qbc.j0 k l0 a3 bt640.1 T a1_0 a1_1 a2 0))) else (some (([] : List (S46)), 18)))) else (some (([] : List (S46)), t637)))
theorem Qbc.mono_l : ∀ k, (∀ y0 y1 y2 y3 y4 y5 y6 y7, LeO (Qbc.j0 k y0 y1 y2 y3 y4 y5 y6 y7) (Qbc.j0 (k + 1) y0 y1 y2 y3 y4 y5 y6 y7))
 | 0 => fun _ _ _ _ _ _ _ _ r h => by simp [Qbc.j0] at h
 | k + 1 => by
  have ih0 := Qbc.mono_l k
  intro y0 y1 y2 y3 y4 y5 y6 y7
  unfold Qbc.j0
  exact ZM3 ih0 QaE.mono Qav.mono
theorem Qbc.mono : ∀ a0 a1 a2 a3 a4 k, LeO (Qbc.f k a0 a1 a2 a3 a4) (Qbc.f (k + 1) a0 a1 a2 a3 a4) := by
 intro a0 a1 a2 a3 a4 k
 have ih0 := Qbc.mono_l k
 unfold Qbc.f
 exact ZM3 ih0 QaE.mono Qav.mono
theorem Qbc.calls (k : Nat) (A0 : Option Addr) (c0 : Nat) (l0 : List (S46)) (a1_0 : ByteArray) (a1_1 : ByteArray) (a2 : ByteArray) (a3 : Int) (r1 : List (S46)) (r2 : Int) (w : World) (hr0 : Kd.C k46 w A0 l0.length l0) (hc0 : l0.length ≤ c0) (h : Qbc.f k l0 a1_0 a1_1 a2 a3 = some (r1, r2)) :
  Calls Try.prog 47 #[.slice A0 l0.length c0, .agg #[.string a1_0, .string a1_1], .string a2, .int .i64 a3] w fun e w' => ∃ v0_ : Value, e = .returned (.tuple #[v0_, .int .i64 r2]) ∧ Kd.R k46 46 w' w.heap.size (fun _ => True) v0_ r1 ∧ Below w.heap.size w w' := by
 have hu44 := Try.underlying44
 have hu46 := Try.underlying46
 have HR0 := Aside0.mk hr0
 have HC0 := Aside0.mk hc0
 clear hr0 hc0
 have HB := Aside0.mk (Below.refl w.heap.size w)
 have H : ((QaE.f k l0).bind fun t637 => (if t637 = 0 then ((QbR.f a3).bind fun t638 => (if t638 = T then ((Qav.f k l0 a1_0 a1_1 a2 0).bind fun bt640 => (if bt640.2 = T then (if 0 ≤ bt640.1 then (if bt640.1 < (l0.length : Int) then (Qbc.j0 k l0 a3 bt640.1 (decide (((rd_T46 l0 bt640.1).f2) < a3)) a1_0 a1_1 a2 0) else (none)) else (none)) else (Qbc.j0 k l0 a3 bt640.1 T a1_0 a1_1 a2 0))) else (some (([] : List (S46)), 18)))) else (some (([] : List (S46)), t637)))) = some (r1, r2) := h
 clear h
 replace H := Option.bind_eq_some_iff.mp H
 obtain ⟨t637, A50, H⟩ := H
 replace H : (if t637 = 0 then ((QbR.f a3).bind fun t638 => (if t638 = T then ((Qav.f k l0 a1_0 a1_1 a2 0).bind fun bt640 => (if bt640.2 = T then (if 0 ≤ bt640.1 then (if bt640.1 < (l0.length : Int) then (Qbc.j0 k l0 a3 bt640.1 (decide (((rd_T46 l0 bt640.1).f2) < a3)) a1_0 a1_1 a2 0) else (none)) else (none)) else (Qbc.j0 k l0 a3 bt640.1 T a1_0 a1_1 a2 0))) else (some (([] : List (S46)), 18)))) else (some (([] : List (S46)), t637))) = some (r1, r2) := H
 have A5 := Aside0.mk A50
 clear A50
 go_enter Try.func47, Try.ntmps47
 go_upto_if 16 with (first | ((with_reducible refine QaJ (N := 5) rfl ?_); refine Zbx (N := 5) (cs := #[.string a1_0, .string a1_1]) (t := 44) ?_; intro gb636 hg w6 hbox hb; have BK636 := Aside0.mk (hbox); have GW636 := Aside0.mk (Zt w hg (Zb)); have GE636 := GW636; replace HB := Aside0.mk (Qao (Zb) hb); clear hb hbox hg) | ((with_reducible refine Qax (f := 71) rfl ?_); refine goesL_ (some 14) rfl rfl Try.func71 (by kernel_rfl) rfl #[.slice A0 l0.length c0] rfl (Zl) ?_; (with_reducible refine (QaE.calls k _ _ l0 t637 _ ?side1 ?side2 A5.out).mono ?_); (case side1 => exact Zv (Kd.C_below HR0.out HB.out)); (case side2 => exact HC0.out); rintro e w7 ⟨rfl, hb⟩; refine ⟨_, rfl, ?_⟩; replace BK636 := Aside0.mk (Zi BK636.out hb); replace HB := Aside0.mk (Qao (Zc1 GE636.out) hb); (try clear hb); (try clear hb2); (try clear hk); (try clear hi)))
 (try simp only [Act.put, Zj, Zk, Zm])
 by_cases c8 : t637 = 0
 ·rw [if_pos c8] at H
  have c8b0 : (t637 == 0) = T := beq_iff_eq.mpr c8
  have c8b1 : (t637 != 0) = F := bne_eq_false_iff_eq.mpr c8
  clear c8
  (try simp only [c8b0, c8b1])
  replace H := Option.bind_eq_some_iff.mp H
  obtain ⟨t638, A90, H⟩ := H
  replace H : (if t638 = T then ((Qav.f k l0 a1_0 a1_1 a2 0).bind fun bt640 => (if bt640.2 = T then (if 0 ≤ bt640.1 then (if bt640.1 < (l0.length : Int) then (Qbc.j0 k l0 a3 bt640.1 (decide (((rd_T46 l0 bt640.1).f2) < a3)) a1_0 a1_1 a2 0) else (none)) else (none)) else (Qbc.j0 k l0 a3 bt640.1 T a1_0 a1_1 a2 0))) else (some (([] : List (S46)), 18))) = some (r1, r2) := H
  have A9 := Aside0.mk A90
  clear A90
  go_upto_if 20 with (first | ((with_reducible refine Qax (f := 72) rfl ?_); refine goesL_ (some 19) rfl rfl Try.func72 (by kernel_rfl) rfl #[.int .i64 a3] rfl (Zl) ?_; (with_reducible refine (QbR.calls a3 t638 _ A9.out).mono ?_); rintro e w' ⟨rfl, ⟨nd, rfl⟩⟩; refine ⟨_, rfl, ?_⟩))
  (try simp only [Act.put, Zj, Zk, Zm])
  by_cases c10 : t638 = T
  ·subst c10
   have H1 : ((Qav.f k l0 a1_0 a1_1 a2 0).bind fun bt640 => (if bt640.2 = T then (if 0 ≤ bt640.1 then (if bt640.1 < (l0.length : Int) then (Qbc.j0 k l0 a3 bt640.1 (decide (((rd_T46 l0 bt640.1).f2) < a3)) a1_0 a1_1 a2 0) else (none)) else (none)) else (Qbc.j0 k l0 a3 bt640.1 T a1_0 a1_1 a2 0))) = some (r1, r2) := by rw [if_pos rfl] at H; exact H
   clear H
   have H := H1
   clear H1
   replace H := Option.bind_eq_some_iff.mp H
   obtain ⟨⟨t640, t641⟩, A110, H⟩ := H
   replace H : (if t641 = T then (if 0 ≤ t640 then (if t640 < (l0.length : Int) then (Qbc.j0 k l0 a3 t640 (decide (((rd_T46 l0 t640).f2) < a3)) a1_0 a1_1 a2 0) else (none)) else (none)) else (Qbc.j0 k l0 a3 t640 T a1_0 a1_1 a2 0)) = some (r1, r2) := H
   have A11 := Aside0.mk A110
   clear A110
   have HC12 := Aside0.mk H
   clear H
   obtain ⟨hcz13_0, hfz13_0⟩ := Zy (v := (.string a1_0)) BK636.out 0
   obtain ⟨hcz13_1, hfz13_1⟩ := Zy (v := (.string a1_1)) BK636.out 1
   go_upto_region 8 with (first | ((with_reducible refine QaJ (N := 10) rfl ?_); refine Zbx (N := 10) (cs := #[.string (⟨#[]⟩ : ByteArray), .string (⟨#[]⟩ : ByteArray), .string (⟨#[]⟩ : ByteArray), .int .i64 0]) (t := 46) ?_; intro gb639 hg w14 hbox hb; have BK639 := Aside0.mk (hbox); have GW639 := Aside0.mk (Zt w hg (Zc1 GE636.out)); have GE639 := GW639; have NB636_639 := Aside0.mk (Zn hg BK636.out); have NB639_636 := Aside0.mk NB636_639.out.symm; replace BK636 := Aside0.mk (Zi BK636.out hb); replace HB := Aside0.mk (Qao (Zc1 GE636.out) hb); clear hb hbox hg; have hnb15 := NB639_636.out; have hnc15 := NB636_639.out; obtain ⟨hcz16_0, hfz16_0⟩ := Zy (v := (.string (⟨#[]⟩ : ByteArray))) BK639.out 0; obtain ⟨hcz16_1, hfz16_1⟩ := Zy (v := (.string (⟨#[]⟩ : ByteArray))) BK639.out 1; obtain ⟨hcz16_2, hfz16_2⟩ := Zy (v := (.string (⟨#[]⟩ : ByteArray))) BK639.out 2; obtain ⟨hcz16_3, hfz16_3⟩ := Zy (v := (.int .i64 0)) BK639.out 3) | ((with_reducible refine Qax (f := 73) rfl ?_); refine goesL_ (some 27) rfl rfl Try.func73 (by kernel_rfl) rfl #[.slice A0 l0.length c0, .agg #[.string a1_0, .string a1_1, .string a2, .int .i64 0], .func (.func 74) #[] #[]] rfl (Zl) ?_; (with_reducible refine (Qav.calls k _ _ l0 a1_0 a1_1 a2 0  t640 t641 _ ?side1 ?side2 A11.out).mono ?_); (case side1 => exact Kd.C_below HR0.out (Zc2 GE636.out GE639.out)); (case side2 => exact HC0.out); rintro e w17 ⟨rfl, hb⟩; refine ⟨_, rfl, ?_⟩; replace BK636 := Aside0.mk (Qal (g := gb636) (o := .cells #[.string a1_0, .string a1_1] 44 (0, 0)) (Zg4 BK636.out NB636_639.out NB636_639.out NB636_639.out NB636_639.out) hb); replace BK639 := Aside0.mk (Zpi #[.string a1_0, .string a1_1, .string a2, .int .i64 0] BK639.out hb); replace HB := Aside0.mk (Qao (Zc2 GE636.out GE639.out) hb); (try clear hb); (try clear hb2); (try clear hk); (try clear hi)))
   (try simp only [Act.put, Zj, Zk, Zm])
   go_cut [40] (fun v40 wc => ∃ (kq : Nat) (x40_11 : Bool), v40 = .bool x40_11 ∧ Aside0 (Qbc.j0 kq l0 a3 t640 x40_11 a1_0 a1_1 a2 0 = some (r1, r2)) ∧ Aside0 (kq ≤ k) ∧ Aside0 (wc.heap[gb636]? = some (.cells #[.string a1_0, .string a1_1] 44 (0, 0))) ∧ Aside0 (wc.heap[gb639]? = some (.cells #[.string a1_0, .string a1_1, .string a2, .int .i64 0] 46 (0, 0))) ∧ Aside0 (Below w.heap.size w wc))
   case first =>
    have H := HC12.out
    clear HC12
    by_cases c18 : t641 = T
    ·subst c18
     have H1 : (if 0 ≤ t640 then (if t640 < (l0.length : Int) then (Qbc.j0 k l0 a3 t640 (decide (((rd_T46 l0 t640).f2) < a3)) a1_0 a1_1 a2 0) else (none)) else (none)) = some (r1, r2) := by rw [if_pos rfl] at H; exact H
     clear H
     have H := H1
     clear H1
     by_cases c19 : 0 ≤ t640
     ·rw [if_pos c19] at H
      have c19b0 : decide (0 ≤ t640) = T := decide_eq_true c19
      clear c19
      by_cases c20 : t640 < (l0.length : Int)
      ·rw [if_pos c20] at H
       have c20b0 : decide (t640 < (l0.length : Int)) = T := decide_eq_true c20
       clear c20
       have H' := Aside0.mk H
       clear H
       have p642 : 0 ≤ (t640 : Int) := Ze
       have q642 : t640 < (l0.length : Int) := Ze
       obtain ⟨ad642, e642, hx642_0, hx642_1, hx642_2, hx642_3⟩ := at_T46 HR0.out t640 p642 q642
       cases e642
       replace hx642_0 := Zx HB.out hx642_0
       replace hx642_1 := Zx HB.out hx642_1
       replace hx642_2 := Zx HB.out hx642_2
       replace hx642_3 := Zx HB.out hx642_3
       replace p642 := eq_true p642
       replace q642 := eq_true q642
       go_wp2
       go_meet
       case rel => exact ⟨_, (decide (((rd_T46 l0 t640).f2) < a3)), (Zs), H', ⟨by first | omega | exact Nat.le_refl _⟩, ⟨Zu BK636.out⟩, ⟨Zu BK639.out⟩, ⟨Zc2 GE636.out GE639.out⟩⟩
      rw [if_neg c20] at H
      exact absurd H (by simp)
     rw [if_neg c19] at H
     exact absurd H (by simp)
    replace c18 := Bool.eq_false_iff.mpr c18
    subst c18
    have H1 : (Qbc.j0 k l0 a3 t640 T a1_0 a1_1 a2 0) = some (r1, r2) := by rw [if_neg (show ¬ (F = T) by decide)] at H; exact H
    clear H
    have H := H1
    clear H1
    have H' := Aside0.mk H
    clear H
    go_wp2
    go_meet
    case rel => exact ⟨_, (T), (Zs), H', ⟨by first | omega | exact Nat.le_refl _⟩, ⟨Zu BK636.out⟩, ⟨Zu BK639.out⟩, ⟨Zc2 GE636.out GE639.out⟩⟩
   case rest =>
    clear HC12
    try clear c1
    try clear c2
    try clear p2
    try clear c4
    try clear p6
    try clear q6
    try clear hx6
    try clear c7
    try clear c8
    try clear c8b0
    try clear c8b1
    try clear c10
    try clear c15
    try clear c18
    try clear c19
    try clear c19b0
    try clear c20
    try clear c20b0
    try clear hcz13_0
    try clear hcz13_1
    try clear hcz16_0
    try clear hcz16_1
    try clear hcz16_2
    try clear hcz16_3
    try clear hfz13_0
    try clear hfz13_1
    try clear hfz16_0
    try clear hfz16_1
    try clear hfz16_2
    try clear hfz16_3
    try clear hx642_0
    try clear hx642_1
    try clear hx642_2
    try clear hx642_3
    try clear p642
    try clear q642
    obtain ⟨kq, x40_11, rfl, HA, HJ11, BK636, BK639, HB⟩ := hcut
    cases kq with
    | zero => exact absurd HA.out (by simp [Qbc.j0])
    | succ kj11 =>
     have H := HA.out
     clear HA
     simp only [Qbc.j0] at H
     by_cases c21 : x40_11 = T
     ·subst c21
      have H1 : (some (([] : List (S46)), 23)) = some (r1, r2) := by rw [if_pos rfl] at H; exact H
      clear H
      have H := H1
      clear H1
      simp only [Option.some.injEq, Prod.mk.injEq] at H
      obtain ⟨rfl, rfl⟩ := H
      go_wp2
      go_ret2
      exact ⟨_, Zq, by first | exact Kd.R_nil _ _ _ _ _ | exact Kd.N_nil _ _ _ _ _ | exact Kd.V_nil _ _ _ _ _ | exact Kd.Q_nil _ _ _ _ _ | exact Kd.S_nil _ _ _ _ _, Zc2 GE636.out GE639.out⟩
     replace c21 := Bool.eq_false_iff.mpr c21
     subst c21
     have H1 : (if 0 ≤ t640 then (if t640 < (l0.length : Int) then (if (wrap64 (((rd_T46 l0 t640).f2) - a3)) = 0 then ((Qbw.f l0 t640 1 ([] : List (S46))).bind fun t644 => (some (t644, 0))) else ((Qbw.f l0 t640 1 (([(⟨(⟨a1_0, a1_1⟩ : S44), a2, wrap64 (((rd_T46 l0 t640).f2) - a3)⟩ : S46)] : List (S46)))).bind fun t650 => (some (t650, 0)))) else (none)) else (none)) = some (r1, r2) := by rw [if_neg (show ¬ (F = T) by decide)] at H; exact H
     clear H
     have H := H1
     clear H1
     by_cases c22 : 0 ≤ t640
     ·rw [if_pos c22] at H
      have c22b0 : decide (0 ≤ t640) = T := decide_eq_true c22
      clear c22
      (try simp only [c22b0])
      by_cases c23 : t640 < (l0.length : Int)
      ·rw [if_pos c23] at H
       have c23b0 : decide (t640 < (l0.length : Int)) = T := decide_eq_true c23
       clear c23
       have p643 : 0 ≤ (t640 : Int) := Ze
       have q643 : t640 < (l0.length : Int) := Ze
       obtain ⟨ad643, e643, hx643_0, hx643_1, hx643_2, hx643_3⟩ := at_T46 HR0.out t640 p643 q643
       cases e643
       replace hx643_0 := Zx HB.out hx643_0
       replace hx643_1 := Zx HB.out hx643_1
       replace hx643_2 := Zx HB.out hx643_2
       replace hx643_3 := Zx HB.out hx643_3
       replace p643 := eq_true p643
       replace q643 := eq_true q643
       have hnb24 := NB639_636.out
       have hnc24 := NB636_639.out
       obtain ⟨hcz25_0, hfz25_0⟩ := Zy (v := (.string a1_0)) BK639.out 0
       obtain ⟨hcz25_1, hfz25_1⟩ := Zy (v := (.string a1_1)) BK639.out 1
       obtain ⟨hcz25_2, hfz25_2⟩ := Zy (v := (.string a2)) BK639.out 2
       obtain ⟨hcz25_3, hfz25_3⟩ := Zy (v := (.int .i64 0)) BK639.out 3
       go_upto_if 51 with (fail)
       by_cases c26 : (wrap64 (((rd_T46 l0 t640).f2) - a3)) = 0
       ·rw [if_pos c26] at H
        have c26b0 : ((wrap64 (((rd_T46 l0 t640).f2) - a3)) == 0) = T := beq_iff_eq.mpr c26
        have c26b1 : ((wrap64 (((rd_T46 l0 t640).f2) - a3)) != 0) = F := bne_eq_false_iff_eq.mpr c26
        clear c26
        (try simp only [c26b0, c26b1])
        replace H := Option.bind_eq_some_iff.mp H
        obtain ⟨t644, A270, H⟩ := H
        replace H : (some (t644, 0)) = some (r1, r2) := H
        have A27 := Aside0.mk A270
        clear A270
        simp only [Option.some.injEq, Prod.mk.injEq] at H
        obtain ⟨rfl, rfl⟩ := H
        go_wp2_with (first | ((with_reducible refine Qax (f := 75) rfl ?_); refine goesL_ (some 54) rfl rfl Try.func75 (by kernel_rfl) rfl #[.slice (some ad643) l0.length c0, .int .i64 t640, .int .i64 1, .slice none 0 0] rfl (Zl) ?_; (refine (Qbw.calls _ _ l0 t640 1 _ _ ([] : List (S46)) t644 _ ?side1 ?side2 ?side3 ?side4 A27.out).mono ?_); (case side1 => exact Kd.C_below HR0.out (Zc2 GE636.out GE639.out)); (case side2 => exact HC0.out); (case side3 => exact Kd.C_nil _ _); (case side4 => exact Nat.le_refl _); rintro e w28 ⟨v645, rfl, ho0, hb⟩; refine ⟨_, rfl, ?_⟩; have HO646 := Aside0.mk (Kd.R_lower (Kd.R_newB ho0 (g := gb639) (o := .cells #[.string a1_0, .string a1_1, .string a2, .int .i64 (wrap64 (((rd_T46 l0 t640).f2) - a3))] 46 (0, 0)) (Zp2 BK639.out)) (Qam (Zc2 GE636.out GE639.out))); replace BK636 := Aside0.mk (Qal (g := gb636) (o := .cells #[.string a1_0, .string a1_1] 44 (0, 0)) (Zg1 BK636.out NB636_639.out) hb); replace BK639 := Aside0.mk (Zpi #[.string a1_0, .string a1_1, .string a2, .int .i64 (wrap64 (((rd_T46 l0 t640).f2) - a3))] BK639.out hb); replace HB := Aside0.mk (Qao (Zc2 GE636.out GE639.out) hb); (try clear hb); (try clear hb2); (try clear hk); (try clear hi); (try clear ho0)))
        go_ret2
        exact ⟨_, Zq, by (with_reducible repeat (first | apply Kd.R_alloc | apply Kd.R_drewN | apply Kd.R_drew)); exact Kd.R_mono HO646.out (fun _ hk => trivial), Zc2 GE636.out GE639.out⟩
       rw [if_neg c26] at H
       have c26b0 : ((wrap64 (((rd_T46 l0 t640).f2) - a3)) == 0) = F := beq_eq_false_iff_ne.mpr c26
       have c26b1 : ((wrap64 (((rd_T46 l0 t640).f2) - a3)) != 0) = T := bne_iff_ne.mpr c26
       (try simp only [c26b0, c26b1])
       obtain ⟨y647, hy647⟩ : ∃ y_ : List (S46), y_ = (([(⟨(⟨a1_0, a1_1⟩ : S44), a2, wrap64 (((rd_T46 l0 t640).f2) - a3)⟩ : S46)] : List (S46))) := ⟨_, rfl⟩
       replace H : ((Qbw.f l0 t640 1 y647).bind fun t650 => (some (t650, 0))) = some (r1, r2) := by first | (rw [hy647]; with_reducible exact H) | (have H2_ := (Option.bind_some _ _).symm.trans H; rw [hy647]; with_reducible exact H2_) | (have H2_ := (Option.bind_some _ _).symm.trans H; with_reducible exact H2_) | with_reducible exact H | (rw [hy647]; exact H) | exact H
       have Ny647 := Aside0.mk hy647
       clear hy647
       replace H := Option.bind_eq_some_iff.mp H
       obtain ⟨t650, A290, H⟩ := H
       replace H : (some (t650, 0)) = some (r1, r2) := H
       have A29 := Aside0.mk A290
       clear A290
       simp only [Option.some.injEq, Prod.mk.injEq] at H
       obtain ⟨rfl, rfl⟩ := H
       have hnb30 := NB639_636.out
       have hnc30 := NB636_639.out
       obtain ⟨hcz31_0, hfz31_0⟩ := Zy (v := (.string a1_0)) BK639.out 0
       obtain ⟨hcz31_1, hfz31_1⟩ := Zy (v := (.string a1_1)) BK639.out 1
       obtain ⟨hcz31_2, hfz31_2⟩ := Zy (v := (.string a2)) BK639.out 2
       obtain ⟨hcz31_3, hfz31_3⟩ := Zy (v := (.int .i64 0)) BK639.out 3
       go_wp2_with (first | ((with_reducible refine QaJ (N := 58) rfl ?_); refine Kd.R_lit k46 _ 46 ?hg (N := 58) ?hd (xs := ([(⟨(⟨a1_0, a1_1⟩ : S44), a2, wrap64 (((rd_T46 l0 t640).f2) - a3)⟩ : S46)] : List (S46))) (inner := [.string a1_0, .string a1_1, .string a2, .int .i64 (wrap64 (((rd_T46 l0 t640).f2) - a3))]) (ok := fun _ => True) (okp := fun _ => True) ?hr ?hp (fun _ hk => hk) trivial (Below.refl _ _) (Nat.le_refl _) (by simp) ?_; (case hd => rfl); (case hg => rfl); (case hr => first | (go_simp; done) | (go_simp; rfl)); (case hp => exact (Reps.c4 (show Kd.M k46 _ _ _ (⟨(⟨a1_0, a1_1⟩ : S44), a2, wrap64 (((rd_T46 l0 t640).f2) - a3)⟩ : S46) [.string a1_0, .string a1_1, .string a2, .int .i64 (wrap64 (((rd_T46 l0 t640).f2) - a3))] from (Qcq _ _ _ (⟨(⟨a1_0, a1_1⟩ : S44), a2, wrap64 (((rd_T46 l0 t640).f2) - a3)⟩ : S46) )) (Reps.none _ _))); intro v648 w32 ho33 hb hg_ hnew_; clear hg_ hnew_; (first | rw [← Ny647.out] at ho33 | (simp only [Int.reduceToNat] at ho33; rw [← Ny647.out] at ho33)); have HO649 := Aside0.mk (Kd.R_lower (Kd.R_newB ho33 (g := gb639) (o := .cells #[.string a1_0, .string a1_1, .string a2, .int .i64 (wrap64 (((rd_T46 l0 t640).f2) - a3))] 46 (0, 0)) (Zp2 BK639.out)) (Qam (Zc2 GE636.out GE639.out))); replace BK636 := Aside0.mk (Qal (g := gb636) (o := .cells #[.string a1_0, .string a1_1] 44 (0, 0)) (Zg1 BK636.out NB636_639.out) hb); replace BK639 := Aside0.mk (Zpi #[.string a1_0, .string a1_1, .string a2, .int .i64 (wrap64 (((rd_T46 l0 t640).f2) - a3))] BK639.out hb); replace HB := Aside0.mk (Qao (Zc2 GE636.out GE639.out) hb); clear hb ho33; obtain ⟨Ao34, co34, eo34⟩ := Kd.R_slice HO649.out; subst eo34) | ((with_reducible refine Qax (f := 75) rfl ?_); refine goesL_ (some 59) rfl rfl Try.func75 (by kernel_rfl) rfl #[.slice (some ad643) l0.length c0, .int .i64 t640, .int .i64 1, .slice Ao34 y647.length co34] rfl (Zl) ?_; (with_reducible refine (Qbw.calls _ _ l0 t640 1 _ _ y647 t650 _ ?side1 ?side2 ?side3 ?side4 A29.out).mono ?_); (case side1 => exact Zv (Kd.C_below HR0.out HB.out)); (case side2 => exact HC0.out); (case side3 => exact Zv (Kd.R_reads' HO649.out).2.2); (case side4 => exact (Kd.R_reads' HO649.out).2.1); rintro e w35 ⟨v651, rfl, ho0, hb⟩; refine ⟨_, rfl, ?_⟩; have HO652 := Aside0.mk (Kd.R_lower (Kd.R_newB (Kd.R_new' ho0 (Kd.R_lt (Zr HO649.out))) (g := gb639) (o := .cells #[.string a1_0, .string a1_1, .string a2, .int .i64 (wrap64 (((rd_T46 l0 t640).f2) - a3))] 46 (0, 0)) (Zu BK639.out)) (Qam (Zc2 GE636.out GE639.out))); replace HO649 := Aside0.mk (Kd.R_elder' (Zr HO649.out) (Kd.R_base ho0) hb); replace BK636 := Aside0.mk (Zi BK636.out hb); replace BK639 := Aside0.mk (Zi BK639.out hb); replace HB := Aside0.mk (Qao (Zc2 GE636.out GE639.out) hb); (try clear hb); (try clear hb2); (try clear hk); (try clear hi); (try clear ho0)))
       go_ret2
       exact ⟨_, Zq, by (with_reducible repeat (first | apply Kd.R_alloc | apply Kd.R_drewN | apply Kd.R_drew)); exact Kd.R_mono HO652.out (fun _ hk => trivial), Zc2 GE636.out GE639.out⟩
      rw [if_neg c23] at H
      exact absurd H (by simp)
     rw [if_neg c22] at H
     exact absurd H (by simp)
  replace c10 := Bool.eq_false_iff.mpr c10
  subst c10
  have H1 : (some (([] : List (S46)), 18)) = some (r1, r2) := by rw [if_neg (show ¬ (F = T) by decide)] at H; exact H
  clear H
  have H := H1
  clear H1
  simp only [Option.some.injEq, Prod.mk.injEq] at H
  obtain ⟨rfl, rfl⟩ := H
  go_wp2
  go_ret2
  exact ⟨_, Zq, by first | exact Kd.R_nil _ _ _ _ _ | exact Kd.N_nil _ _ _ _ _ | exact Kd.V_nil _ _ _ _ _ | exact Kd.Q_nil _ _ _ _ _ | exact Kd.S_nil _ _ _ _ _, Zc1 GE636.out⟩
 rw [if_neg c8] at H
 have c8b0 : (t637 == 0) = F := beq_eq_false_iff_ne.mpr c8
 have c8b1 : (t637 != 0) = T := bne_iff_ne.mpr c8
 (try simp only [c8b0, c8b1])
 simp only [Option.some.injEq, Prod.mk.injEq] at H
 obtain ⟨rfl, rfl⟩ := H
 go_wp2
 go_ret2
 exact ⟨_, Zq, by first | exact Kd.R_nil _ _ _ _ _ | exact Kd.N_nil _ _ _ _ _ | exact Kd.V_nil _ _ _ _ _ | exact Kd.Q_nil _ _ _ _ _ | exact Kd.S_nil _ _ _ _ _, Zc1 GE636.out⟩
end Go.Proofs.Ytfcaaefdmabkhaa.Pr
