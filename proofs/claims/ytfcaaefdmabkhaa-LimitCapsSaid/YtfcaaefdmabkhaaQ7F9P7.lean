/- Functions' values and contracts, as the print wrote them. -/
import Derived.Test.YtfcaaefdmabkhaaQ7F9P0
import Derived.Test.YtfcaaefdmabkhaaQ7F9P1
import Derived.Test.YtfcaaefdmabkhaaQ7F9P2
import Derived.Test.YtfcaaefdmabkhaaQ7F9P3
namespace Go.Proofs.Ytfcaaefdmabkhaa.Pr
open Go.RowKit Go.Proofs.YtfcaaefdmabkhaaW.PrintWords Go.Proofs.YtfcaaefdmabkhaaW.PrintLast Go.Proofs.YtfcaaefdmabkhaaW.PrintMore
attribute [local go_sem] QaR QaT Qa0 Qa1 QaJ QaK QaS QaU   -- for this text's walks alone
set_option linter.unusedVariables false
set_option linter.unusedSimpArgs false
def Qa5.l0 : Nat → List (S84) → List (S98) → List (S46) → Int → Int → Int → Int → Int → Int → Option (Int × Int × Int × Int × Int)
 | 0, _, _, _, _, _, _, _, _, _ => none
 | k + 1, x302, x303, x332, x333, x334, x682000, x682001, x682002, x682003 => if x334 < x333 then (if 0 ≤ x334 then (if x334 < (x332.length : Int) then ((Qbg.f k x302 ((rd_T46 x332 x334).f1)).bind fun bt690 => ((Qbh.f k bt690.1 bt690.2.1 bt690.2.2.1 bt690.2.2.2.1 bt690.2.2.2.2.1 bt690.2.2.2.2.2.1 ((rd_T46 x332 x334).f2) x303).bind fun bt698 => (if bt698.2 = 0 then (if bt690.2.1 = 0 then (Qa5.l0 k x302 x303 x332 x333 (wrap64 (x334 + 1)) (wrap64 (x682000 + bt698.1)) x682001 x682002 x682003) else (if bt690.2.1 = 1 then (Qa5.l0 k x302 x303 x332 x333 (wrap64 (x334 + 1)) x682000 (wrap64 (x682001 + bt698.1)) x682002 x682003) else (if bt690.2.1 = 2 then (Qa5.l0 k x302 x303 x332 x333 (wrap64 (x334 + 1)) x682000 x682001 (wrap64 (x682002 + bt698.1)) x682003) else (if bt690.2.1 = 3 then (Qa5.l0 k x302 x303 x332 x333 (wrap64 (x334 + 1)) x682000 x682001 x682002 (wrap64 (x682003 + bt698.1))) else (none))))) else (some (0, 0, 0, 0, bt698.2))))) else (none)) else (none)) else (some (x682000, x682001, x682002, x682003, 0))
def Qa5.f (k : Nat) (l0 : List (S46)) (a1_0 : ByteArray) (a1_1 : ByteArray) (l2 : List (S84)) (l3 : List (S98)) : Option (Int × Int × Int × Int × Int) := (QaP.f k l0 a1_0 a1_1 l2 l3).bind fun bt683 => (if bt683.2 = 0 then ((Qa4.f k l0 a1_0 a1_1).bind fun t685 => (Qa5.l0 k l2 l3 t685 (t685.length : Int) 0 0 0 0 0)) else (some (0, 0, 0, 0, bt683.2)))
theorem Qa5.mono_l : ∀ k, (∀ y0 y1 y2 y3 y4 y5 y6 y7 y8, LeO (Qa5.l0 k y0 y1 y2 y3 y4 y5 y6 y7 y8) (Qa5.l0 (k + 1) y0 y1 y2 y3 y4 y5 y6 y7 y8))
 | 0 => fun _ _ _ _ _ _ _ _ _ r h => by simp [Qa5.l0] at h
 | k + 1 => by
  have ih0 := Qa5.mono_l k
  intro y0 y1 y2 y3 y4 y5 y6 y7 y8
  unfold Qa5.l0
  exact ZM5 ih0 Qbg.mono Qbh.mono Qa4.mono QaP.mono
theorem Qa5.mono : ∀ a0 a1 a2 a3 a4 k, LeO (Qa5.f k a0 a1 a2 a3 a4) (Qa5.f (k + 1) a0 a1 a2 a3 a4) := by
 intro a0 a1 a2 a3 a4 k
 have ih0 := Qa5.mono_l k
 unfold Qa5.f
 exact ZM5 ih0 Qbg.mono Qbh.mono Qa4.mono QaP.mono
set_option maxHeartbeats 8000000 in
set_option maxRecDepth 100000 in
theorem Qa5.calls (k : Nat) (A0 : Option Addr) (c0 : Nat) (l0 : List (S46)) (a1_0 : ByteArray) (a1_1 : ByteArray) (A2 : Option Addr) (c2 : Nat) (l2 : List (S84)) (A3 : Option Addr) (c3 : Nat) (l3 : List (S98)) (r1 : Int) (r2 : Int) (r3 : Int) (r4 : Int) (r5 : Int) (w : World) (hr0 : Kd.C k46 w A0 l0.length l0) (hc0 : l0.length ≤ c0) (hr2 : Kd.C k84 w A2 l2.length l2) (hc2 : l2.length ≤ c2) (hr3 : Kd.C k98 w A3 l3.length l3) (hc3 : l3.length ≤ c3) (h : Qa5.f k l0 a1_0 a1_1 l2 l3 = some (r1, r2, r3, r4, r5)) :
  Calls Try.prog 35 #[.slice A0 l0.length c0, .agg #[.string a1_0, .string a1_1], .slice A2 l2.length c2, .slice A3 l3.length c3] w fun e w' => e = .returned (.tuple #[.agg #[.int .i64 r1, .int .i64 r2, .int .i64 r3, .int .i64 r4], .int .i64 r5]) ∧ Below w.heap.size w w' := by
 have hu44 := Try.underlying44
 have hu74 := Try.underlying74
 have HR0 := Aside0.mk hr0
 have HC0 := Aside0.mk hc0
 clear hr0 hc0
 have HR2 := Aside0.mk hr2
 have HC2 := Aside0.mk hc2
 clear hr2 hc2
 have HR3 := Aside0.mk hr3
 have HC3 := Aside0.mk hc3
 clear hr3 hc3
 have HB := Aside0.mk (Below.refl w.heap.size w)
 have H : ((QaP.f k l0 a1_0 a1_1 l2 l3).bind fun bt683 => (if bt683.2 = 0 then ((Qa4.f k l0 a1_0 a1_1).bind fun t685 => (Qa5.l0 k l2 l3 t685 (t685.length : Int) 0 0 0 0 0)) else (some (0, 0, 0, 0, bt683.2)))) = some (r1, r2, r3, r4, r5) := h
 clear h
 replace H := Option.bind_eq_some_iff.mp H
 obtain ⟨⟨t683, t684⟩, A50, H⟩ := H
 replace H : (if t684 = 0 then ((Qa4.f k l0 a1_0 a1_1).bind fun t685 => (Qa5.l0 k l2 l3 t685 (t685.length : Int) 0 0 0 0 0)) else (some (0, 0, 0, 0, t684))) = some (r1, r2, r3, r4, r5) := H
 have A5 := Aside0.mk A50
 clear A50
 go_enter Try.func35, Try.ntmps35
 go_upto_if 28 with (first | ((with_reducible refine QaM (N := 5) rfl ?_); (refine gate_n (n := 21) rfl ?_); refine Zbx (N := 5) (cs := #[.string a1_0, .string a1_1]) (t := 44) ?_; intro gb680 hg w6 hbox hb; have BK680 := Aside0.mk (hbox); have GW680 := Aside0.mk (Zt w hg (Zb)); have GE680 := GW680; replace HB := Aside0.mk (Qan (Zb) hb); clear hb hbox hg) | ((with_reducible refine QaM (N := 8) rfl ?_); (refine gate_n (n := 21) rfl ?_); refine Zbx (N := 8) (cs := #[.int .i64 0, .int .i64 0, .int .i64 0, .int .i64 0]) (t := 74) ?_; intro gb681 hg w7 hbox hb; have BK681 := Aside0.mk (hbox); have GW681 := Aside0.mk (Zt w hg (Zc1 GE680.out)); have GE681 := GW681; have NB680_681 := Aside0.mk (Zn hg BK680.out); have NB681_680 := Aside0.mk NB680_681.out.symm; replace BK680 := Aside0.mk (Zi BK680.out hb); replace HB := Aside0.mk (Qan (Zc1 GE680.out) hb); clear hb hbox hg; have hnb8 := NB680_681.out; have hnc8 := NB681_680.out; obtain ⟨hcz9_0, hfz9_0⟩ := Zy (v := (.string a1_0)) BK680.out 0; obtain ⟨hcz9_1, hfz9_1⟩ := Zy (v := (.string a1_1)) BK680.out 1) | (go_at_call 55; go_in) | ((with_reducible refine QaM (N := 6) rfl ?_); (refine gate_n (n := 61) rfl ?_); refine Zbx (N := 6) (cs := #[.string a1_0, .string a1_1]) (t := 44) ?_; intro gb682 hg w10 hbox hb; have BK682 := Aside0.mk (hbox); have GW682 := Aside0.mk (Zt w hg (Zc2 GE680.out GE681.out)); have GE682 := GW682; have NB680_682 := Aside0.mk (Zn hg BK680.out); have NB682_680 := Aside0.mk NB680_682.out.symm; have NB681_682 := Aside0.mk (Zn hg BK681.out); have NB682_681 := Aside0.mk NB681_682.out.symm; replace BK680 := Aside0.mk (Zi BK680.out hb); replace BK681 := Aside0.mk (Zi BK681.out hb); replace HB := Aside0.mk (Qan (Zc2 GE680.out GE681.out) hb); clear hb hbox hg; have hnb11 := NB682_680.out; have hnc11 := NB680_682.out; have hnb12 := NB682_681.out; have hnc12 := NB681_682.out; obtain ⟨hcz13_0, hfz13_0⟩ := Zy (v := (.string a1_0)) BK682.out 0; obtain ⟨hcz13_1, hfz13_1⟩ := Zy (v := (.string a1_1)) BK682.out 1) | ((with_reducible refine Qay (f := 85) rfl ?_); refine goesL_ (some 24) rfl rfl Try.func85 (by kernel_rfl) rfl #[.slice A0 l0.length c0, .agg #[.string a1_0, .string a1_1], .slice A2 l2.length c2, .slice A3 l3.length c3] rfl (Zl) ?_; (with_reducible refine (QaP.calls k _ _ l0 a1_0 a1_1 _ _ l2 _ _ l3 t683 t684 _ ?side1 ?side2 ?side3 ?side4 ?side5 ?side6 A5.out).mono ?_); (case side1 => exact Zv (Kd.C_below HR0.out HB.out)); (case side2 => exact HC0.out); (case side3 => exact Zv (Kd.C_below HR2.out HB.out)); (case side4 => exact HC2.out); (case side5 => exact Zv (Kd.C_below HR3.out HB.out)); (case side6 => exact HC3.out); rintro e w14 ⟨rfl, hb⟩; refine ⟨_, rfl, ?_⟩; replace BK680 := Aside0.mk (Zi BK680.out hb); replace BK681 := Aside0.mk (Zi BK681.out hb); replace BK682 := Aside0.mk (Zi BK682.out hb); replace HB := Aside0.mk (Qan (Zc3 GE680.out GE681.out GE682.out) hb); (try clear hb); (try clear hb2); (try clear hk); (try clear hi)))
 (try simp only [Act.put, Zj, Zk, Zm])
 by_cases c15 : t684 = 0
 ·rw [if_pos c15] at H
  have c15b0 : (t684 == 0) = true := beq_iff_eq.mpr c15
  have c15b1 : (t684 != 0) = false := bne_eq_false_iff_eq.mpr c15
  clear c15
  (try simp only [c15b0, c15b1])
  replace H := Option.bind_eq_some_iff.mp H
  obtain ⟨t685, A160, H⟩ := H
  replace H : (Qa5.l0 k l2 l3 t685 (t685.length : Int) 0 0 0 0 0) = some (r1, r2, r3, r4, r5) := H
  have A16 := Aside0.mk A160
  clear A160
  have H' := Aside0.mk H
  clear H
  have hnb17 := NB682_680.out
  have hnc17 := NB680_682.out
  have hnb18 := NB682_681.out
  have hnc18 := NB681_682.out
  obtain ⟨hcz19_0, hfz19_0⟩ := Zy (v := (.string a1_0)) BK682.out 0
  obtain ⟨hcz19_1, hfz19_1⟩ := Zy (v := (.string a1_1)) BK682.out 1
  go_wp2_with (first | ((with_reducible refine Qay (f := 86) rfl ?_); refine goesL_ (some 32) rfl rfl Try.func86 (by kernel_rfl) rfl #[.slice A0 l0.length c0, .agg #[.string a1_0, .string a1_1]] rfl (Zl) ?_; (with_reducible refine (Qa4.calls k _ _ l0 a1_0 a1_1 t685 _ ?side1 ?side2 A16.out).mono ?_); (case side1 => exact Zv (Kd.C_below HR0.out HB.out)); (case side2 => exact HC0.out); rintro e w20 ⟨v686, rfl, ho0, hb⟩; refine ⟨_, rfl, ?_⟩; have HO687 := Aside0.mk (Kd.R_lower ho0 (Qam (Zc3 GE680.out GE681.out GE682.out))); replace BK680 := Aside0.mk (Zi BK680.out hb); replace BK681 := Aside0.mk (Zi BK681.out hb); replace BK682 := Aside0.mk (Zi BK682.out hb); replace HB := Aside0.mk (Qan (Zc3 GE680.out GE681.out GE682.out) hb); (try clear hb); (try clear hb2); (try clear hk); (try clear hi); (try clear ho0); obtain ⟨Ao21, co21, eo21⟩ := Kd.R_slice HO687.out; subst eo21))
  go_loopg [34] k (fun kq v334 w' => ∃ (x334_1 : Int) (x682000_1 : Int) (x682001_1 : Int) (x682002_1 : Int) (x682003_1 : Int), v334 = .int .i64 x334_1 ∧ Aside0 (Qa5.l0 kq l2 l3 t685 (t685.length : Int) x334_1 x682000_1 x682001_1 x682002_1 x682003_1 = some (r1, r2, r3, r4, r5)) ∧ Aside0 (kq ≤ k) ∧ Aside0 (Kd.R k46 46 w' w.heap.size (fun _ => True) (.slice Ao21 t685.length co21) t685) ∧ Aside0 (w'.heap[gb680]? = some (.cells #[.string a1_0, .string a1_1] 44 (0, 0))) ∧ Aside0 (w'.heap[gb681]? = some (.cells #[.int .i64 x682000_1, .int .i64 x682001_1, .int .i64 x682002_1, .int .i64 x682003_1] 74 (0, 0))) ∧ Aside0 (w'.heap[gb682]? = some (.cells #[.string a1_0, .string a1_1] 44 (0, 0))) ∧ Aside0 (Below w.heap.size w w'))
  case atStart => exact ⟨(0), (0), (0), (0), (0), (Zs), H', ⟨Nat.le_refl _⟩, ⟨Zr HO687.out⟩, ⟨Zu BK680.out⟩, ⟨Zu BK681.out⟩, ⟨Zu BK682.out⟩, ⟨Zc3 GE680.out GE681.out GE682.out⟩⟩
  case round =>
   clear H'
   try clear c1
   try clear c2
   try clear p2
   try clear c3
   try clear c8
   try clear c11
   try clear c12
   try clear c15
   try clear c15b0
   try clear c15b1
   try clear c17
   try clear c18
   try clear hcz13_0
   try clear hcz13_1
   try clear hcz19_0
   try clear hcz19_1
   try clear hcz9_0
   try clear hcz9_1
   try clear hfz13_0
   try clear hfz13_1
   try clear hfz19_0
   try clear hfz19_1
   try clear hfz9_0
   try clear hfz9_1
   obtain ⟨x334_1, x682000_1, x682001_1, x682002_1, x682003_1, rfl, HA, HK1, HO_332, BK680, BK681, BK682, HB⟩ := hrel
   cases gk with
   | zero => exact absurd HA.out (by simp [Qa5.l0])
   | succ k1 =>
    have H := HA.out
    clear HA
    simp only [Qa5.l0] at H
    by_cases c22 : x334_1 < (t685.length : Int)
    ·rw [if_pos c22] at H
     have c22b0 : decide (x334_1 < (t685.length : Int)) = true := decide_eq_true c22
     clear c22
     (try simp only [c22b0])
     by_cases c23 : 0 ≤ x334_1
     ·rw [if_pos c23] at H
      have c23b0 : decide (0 ≤ x334_1) = true := decide_eq_true c23
      clear c23
      by_cases c24 : x334_1 < (t685.length : Int)
      ·rw [if_pos c24] at H
       have c24b0 : decide (x334_1 < (t685.length : Int)) = true := decide_eq_true c24
       clear c24
       replace H := Option.bind_eq_some_iff.mp H
       obtain ⟨⟨t690, t691, t692, t693, t694, t695, t696⟩, A250, H⟩ := H
       replace H : ((Qbh.f k1 t690 t691 t692 t693 t694 t695 ((rd_T46 t685 x334_1).f2) l3).bind fun bt698 => (if bt698.2 = 0 then (if t691 = 0 then (Qa5.l0 k1 l2 l3 t685 (t685.length : Int) (wrap64 (x334_1 + 1)) (wrap64 (x682000_1 + bt698.1)) x682001_1 x682002_1 x682003_1) else (if t691 = 1 then (Qa5.l0 k1 l2 l3 t685 (t685.length : Int) (wrap64 (x334_1 + 1)) x682000_1 (wrap64 (x682001_1 + bt698.1)) x682002_1 x682003_1) else (if t691 = 2 then (Qa5.l0 k1 l2 l3 t685 (t685.length : Int) (wrap64 (x334_1 + 1)) x682000_1 x682001_1 (wrap64 (x682002_1 + bt698.1)) x682003_1) else (if t691 = 3 then (Qa5.l0 k1 l2 l3 t685 (t685.length : Int) (wrap64 (x334_1 + 1)) x682000_1 x682001_1 x682002_1 (wrap64 (x682003_1 + bt698.1))) else (none))))) else (some (0, 0, 0, 0, bt698.2)))) = some (r1, r2, r3, r4, r5) := H
       have A25 := Aside0.mk A250
       clear A250
       replace H := Option.bind_eq_some_iff.mp H
       obtain ⟨⟨t698, t699⟩, A260, H⟩ := H
       replace H : (if t699 = 0 then (if t691 = 0 then (Qa5.l0 k1 l2 l3 t685 (t685.length : Int) (wrap64 (x334_1 + 1)) (wrap64 (x682000_1 + t698)) x682001_1 x682002_1 x682003_1) else (if t691 = 1 then (Qa5.l0 k1 l2 l3 t685 (t685.length : Int) (wrap64 (x334_1 + 1)) x682000_1 (wrap64 (x682001_1 + t698)) x682002_1 x682003_1) else (if t691 = 2 then (Qa5.l0 k1 l2 l3 t685 (t685.length : Int) (wrap64 (x334_1 + 1)) x682000_1 x682001_1 (wrap64 (x682002_1 + t698)) x682003_1) else (if t691 = 3 then (Qa5.l0 k1 l2 l3 t685 (t685.length : Int) (wrap64 (x334_1 + 1)) x682000_1 x682001_1 x682002_1 (wrap64 (x682003_1 + t698))) else (none))))) else (some (0, 0, 0, 0, t699))) = some (r1, r2, r3, r4, r5) := H
       have A26 := Aside0.mk A260
       clear A260
       have p688 : 0 ≤ (x334_1 : Int) := Ze
       have q688 : x334_1 < (t685.length : Int) := Ze
       obtain ⟨ad688, e688, hx688_0, hx688_1, hx688_2, hx688_3⟩ := at_T46 (Kd.R_reads' HO_332.out).2.2 x334_1 p688 q688
       cases e688
       replace p688 := eq_true p688
       replace q688 := eq_true q688
       go_upto_if 54 with (first | ((with_reducible refine QaM (N := 14) rfl ?_); (refine gate_n (n := 61) rfl ?_); refine Zbx (N := 14) (cs := #[.string (⟨#[]⟩ : ByteArray), .string (⟨#[]⟩ : ByteArray), .string (⟨#[]⟩ : ByteArray), .int .i64 0]) (t := 46) ?_; intro gb689 hg w27 hbox hb; have BK689 := Aside0.mk (hbox); have GW689 := Aside0.mk (Zt w hg (Zc3 GE680.out GE681.out GE682.out)); have GE689 := GW689; have NB680_689 := Aside0.mk (Zn hg BK680.out); have NB689_680 := Aside0.mk NB680_689.out.symm; have NB681_689 := Aside0.mk (Zn hg BK681.out); have NB689_681 := Aside0.mk NB681_689.out.symm; have NB682_689 := Aside0.mk (Zn hg BK682.out); have NB689_682 := Aside0.mk NB682_689.out.symm; replace HO_332 := Aside0.mk (Kd.R_below (Kd.R_elderB (Zr HO_332.out) gb689 (Nat.le_of_eq hg.symm)) hb); replace BK680 := Aside0.mk (Zi BK680.out hb); replace BK681 := Aside0.mk (Zi BK681.out hb); replace BK682 := Aside0.mk (Zi BK682.out hb); replace HB := Aside0.mk (Qan (Zc3 GE680.out GE681.out GE682.out) hb); clear hb hbox hg; have hnb28 := NB689_680.out; have hnc28 := NB680_689.out; have hnb29 := NB689_681.out; have hnc29 := NB681_689.out; have hnb30 := NB689_682.out; have hnc30 := NB682_689.out; obtain ⟨hcz31_0, hfz31_0⟩ := Zy (v := (.string (⟨#[]⟩ : ByteArray))) BK689.out 0; obtain ⟨hcz31_1, hfz31_1⟩ := Zy (v := (.string (⟨#[]⟩ : ByteArray))) BK689.out 1; obtain ⟨hcz31_2, hfz31_2⟩ := Zy (v := (.string (⟨#[]⟩ : ByteArray))) BK689.out 2; obtain ⟨hcz31_3, hfz31_3⟩ := Zy (v := (.int .i64 0)) BK689.out 3) | ((with_reducible refine Qay (f := 48) rfl ?_); refine goesL_ (some 42) rfl rfl Try.func48 (by kernel_rfl) rfl #[.slice A2 l2.length c2, .string ((rd_T46 t685 x334_1).f1)] rfl (Zl) ?_; (with_reducible refine (Qbg.calls k1 _ _ l2 ((rd_T46 t685 x334_1).f1) t690 t691 t692 t693 t694 t695 t696 _ ?side1 ?side2 A25.out).mono ?_); (case side1 => exact Kd.C_below HR2.out (Zc4 GE680.out GE681.out GE682.out GE689.out)); (case side2 => exact HC2.out); rintro e w32 ⟨rfl, hb⟩; refine ⟨_, rfl, ?_⟩; replace HO_332 := Aside0.mk (Kd.R_below (by (with_reducible repeat (first | apply Kd.R_alloc | apply Kd.R_drewN | apply Kd.R_drew)); exact (Kd.R_mono (Zf gb689 3 (Zf gb689 2 (Zf gb689 1 (Zf gb689 0 (Kd.R_mono HO_332.out (fun k_ hk => (⟨hk, hk.2⟩ : _ ∧ k_ ≠ gb689))) (.string ((rd_T46 t685 x334_1).f0.f0))) (.string ((rd_T46 t685 x334_1).f0.f1))) (.string ((rd_T46 t685 x334_1).f1))) (.int .i64 ((rd_T46 t685 x334_1).f2))) (fun _ h_ => h_.1))) hb); replace BK680 := Aside0.mk (Qal (g := gb680) (o := .cells #[.string a1_0, .string a1_1] 44 (0, 0)) (Zg4 BK680.out NB680_689.out NB680_689.out NB680_689.out NB680_689.out) hb); replace BK681 := Aside0.mk (Qal (g := gb681) (o := .cells #[.int .i64 x682000_1, .int .i64 x682001_1, .int .i64 x682002_1, .int .i64 x682003_1] 74 (0, 0)) (Zg4 BK681.out NB681_689.out NB681_689.out NB681_689.out NB681_689.out) hb); replace BK682 := Aside0.mk (Qal (g := gb682) (o := .cells #[.string a1_0, .string a1_1] 44 (0, 0)) (Zg4 BK682.out NB682_689.out NB682_689.out NB682_689.out NB682_689.out) hb); replace BK689 := Aside0.mk (Zpi #[.string ((rd_T46 t685 x334_1).f0.f0), .string ((rd_T46 t685 x334_1).f0.f1), .string ((rd_T46 t685 x334_1).f1), .int .i64 ((rd_T46 t685 x334_1).f2)] BK689.out hb); replace HB := Aside0.mk (Qan (Zc4 GE680.out GE681.out GE682.out GE689.out) hb); (try clear hb); (try clear hb2); (try clear hk); (try clear hi)) | ((with_reducible refine QaM (N := 15) rfl ?_); (refine gate_n (n := 61) rfl ?_); refine Zbx (N := 15) (cs := #[.string (⟨#[]⟩ : ByteArray), .int .i64 0, .int .i64 0, .int .i64 0, .int .i64 0, .int .i64 0]) (t := 84) ?_; intro gb697 hg w33 hbox hb; have BK697 := Aside0.mk (hbox); have GW697 := Aside0.mk (Zt w hg (Zc4 GE680.out GE681.out GE682.out GE689.out)); have GE697 := GW697; have NB680_697 := Aside0.mk (Zn hg BK680.out); have NB697_680 := Aside0.mk NB680_697.out.symm; have NB681_697 := Aside0.mk (Zn hg BK681.out); have NB697_681 := Aside0.mk NB681_697.out.symm; have NB682_697 := Aside0.mk (Zn hg BK682.out); have NB697_682 := Aside0.mk NB682_697.out.symm; have NB689_697 := Aside0.mk (Zn hg BK689.out); have NB697_689 := Aside0.mk NB689_697.out.symm; replace HO_332 := Aside0.mk (Kd.R_below (Zr HO_332.out) hb); replace BK680 := Aside0.mk (Zi BK680.out hb); replace BK681 := Aside0.mk (Zi BK681.out hb); replace BK682 := Aside0.mk (Zi BK682.out hb); replace BK689 := Aside0.mk (Zi BK689.out hb); replace HB := Aside0.mk (Qan (Zc4 GE680.out GE681.out GE682.out GE689.out) hb); clear hb hbox hg; have hnb34 := NB697_680.out; have hnc34 := NB680_697.out; have hnb35 := NB697_681.out; have hnc35 := NB681_697.out; have hnb36 := NB697_682.out; have hnc36 := NB682_697.out; have hnb37 := NB697_689.out; have hnc37 := NB689_697.out; obtain ⟨hcz38_0, hfz38_0⟩ := Zy (v := (.string (⟨#[]⟩ : ByteArray))) BK697.out 0; obtain ⟨hcz38_1, hfz38_1⟩ := Zy (v := (.int .i64 0)) BK697.out 1; obtain ⟨hcz38_2, hfz38_2⟩ := Zy (v := (.int .i64 0)) BK697.out 2; obtain ⟨hcz38_3, hfz38_3⟩ := Zy (v := (.int .i64 0)) BK697.out 3; obtain ⟨hcz38_4, hfz38_4⟩ := Zy (v := (.int .i64 0)) BK697.out 4; obtain ⟨hcz38_5, hfz38_5⟩ := Zy (v := (.int .i64 0)) BK697.out 5; obtain ⟨hcz39_0, hfz39_0⟩ := Zy (v := (.string ((rd_T46 t685 x334_1).f0.f0))) BK689.out 0; obtain ⟨hcz39_1, hfz39_1⟩ := Zy (v := (.string ((rd_T46 t685 x334_1).f0.f1))) BK689.out 1; obtain ⟨hcz39_2, hfz39_2⟩ := Zy (v := (.string ((rd_T46 t685 x334_1).f1))) BK689.out 2; obtain ⟨hcz39_3, hfz39_3⟩ := Zy (v := (.int .i64 ((rd_T46 t685 x334_1).f2))) BK689.out 3) | ((with_reducible refine Qay (f := 82) rfl ?_); refine goesL_ (some 50) rfl rfl Try.func82 (by kernel_rfl) rfl #[.agg #[.string t690, .int .i64 t691, .int .i64 t692, .int .i64 t693, .int .i64 t694, .int .i64 t695], .int .i64 ((rd_T46 t685 x334_1).f2), .slice A3 l3.length c3] rfl (Zl) ?_; (with_reducible refine (Qbh.calls k1 t690 t691 t692 t693 t694 t695 ((rd_T46 t685 x334_1).f2) _ _ l3 t698 t699 _ ?side1 ?side2 A26.out).mono ?_); (case side1 => exact Kd.C_below HR3.out (Zc5 GE680.out GE681.out GE682.out GE689.out GE697.out)); (case side2 => exact HC3.out); rintro e w40 ⟨rfl, hb⟩; refine ⟨_, rfl, ?_⟩; replace HO_332 := Aside0.mk (Kd.R_below (by (with_reducible repeat (first | apply Kd.R_alloc | apply Kd.R_drewN | apply Kd.R_drew)); exact (Kd.R_mono (Zf gb697 5 (Zf gb697 4 (Zf gb697 3 (Zf gb697 2 (Zf gb697 1 (Zf gb697 0 (Kd.R_types HO_332.out BK697.out (by decide)) (.string t690)) (.int .i64 t691)) (.int .i64 t692)) (.int .i64 t693)) (.int .i64 t694)) (.int .i64 t695)) (fun _ h_ => h_.1))) hb); replace BK680 := Aside0.mk (Qal (g := gb680) (o := .cells #[.string a1_0, .string a1_1] 44 (0, 0)) (Zg6 BK680.out NB680_697.out NB680_697.out NB680_697.out NB680_697.out NB680_697.out NB680_697.out) hb); replace BK681 := Aside0.mk (Qal (g := gb681) (o := .cells #[.int .i64 x682000_1, .int .i64 x682001_1, .int .i64 x682002_1, .int .i64 x682003_1] 74 (0, 0)) (Zg6 BK681.out NB681_697.out NB681_697.out NB681_697.out NB681_697.out NB681_697.out NB681_697.out) hb); replace BK682 := Aside0.mk (Qal (g := gb682) (o := .cells #[.string a1_0, .string a1_1] 44 (0, 0)) (Zg6 BK682.out NB682_697.out NB682_697.out NB682_697.out NB682_697.out NB682_697.out NB682_697.out) hb); replace BK689 := Aside0.mk (Qal (g := gb689) (o := .cells #[.string ((rd_T46 t685 x334_1).f0.f0), .string ((rd_T46 t685 x334_1).f0.f1), .string ((rd_T46 t685 x334_1).f1), .int .i64 ((rd_T46 t685 x334_1).f2)] 46 (0, 0)) (Zg6 BK689.out NB689_697.out NB689_697.out NB689_697.out NB689_697.out NB689_697.out NB689_697.out) hb); replace BK697 := Aside0.mk (Zpi #[.string t690, .int .i64 t691, .int .i64 t692, .int .i64 t693, .int .i64 t694, .int .i64 t695] BK697.out hb); replace HB := Aside0.mk (Qan (Zc5 GE680.out GE681.out GE682.out GE689.out GE697.out) hb); (try clear hb); (try clear hb2); (try clear hk); (try clear hi)))
       (try simp only [Act.put, Zj, Zk, Zm])
       by_cases c41 : t699 = 0
       ·rw [if_pos c41] at H
        have c41b0 : (t699 == 0) = true := beq_iff_eq.mpr c41
        have c41b1 : (t699 != 0) = false := bne_eq_false_iff_eq.mpr c41
        clear c41
        (try simp only [c41b0, c41b1])
        by_cases c42 : t691 = 0
        ·rw [if_pos c42] at H
         have c42x := c42
         have c42b0 : (t691 == 0) = true := beq_iff_eq.mpr c42
         have c42b1 : (t691 != 0) = false := bne_eq_false_iff_eq.mpr c42
         clear c42
         have hnb43 := NB697_680.out
         have hnc43 := NB680_697.out
         have hnb44 := NB697_681.out
         have hnc44 := NB681_697.out
         have hnb45 := NB697_682.out
         have hnc45 := NB682_697.out
         have hnb46 := NB697_689.out
         have hnc46 := NB689_697.out
         obtain ⟨hcz47_0, hfz47_0⟩ := Zy (v := (.string t690)) BK697.out 0
         obtain ⟨hcz47_1, hfz47_1⟩ := Zy (v := (.int .i64 t691)) BK697.out 1
         obtain ⟨hcz47_2, hfz47_2⟩ := Zy (v := (.int .i64 t692)) BK697.out 2
         obtain ⟨hcz47_3, hfz47_3⟩ := Zy (v := (.int .i64 t693)) BK697.out 3
         obtain ⟨hcz47_4, hfz47_4⟩ := Zy (v := (.int .i64 t694)) BK697.out 4
         obtain ⟨hcz47_5, hfz47_5⟩ := Zy (v := (.int .i64 t695)) BK697.out 5
         go_upto_region 12 with (first | (go_at_call 65; go_in) | ((with_reducible refine QaM (N := 3) rfl ?_); (refine gate_n (n := 12) rfl ?_); refine Zbx (N := 3) (cs := #[.string t690, .int .i64 t691, .int .i64 t692, .int .i64 t693, .int .i64 t694, .int .i64 t695]) (t := 84) ?_; intro gb700 hg w48 hbox hb; have BK700 := Aside0.mk (hbox); have GW700 := Aside0.mk (Zt w hg (Zc5 GE680.out GE681.out GE682.out GE689.out GE697.out)); have GE700 := GW700; have NB680_700 := Aside0.mk (Zn hg BK680.out); have NB700_680 := Aside0.mk NB680_700.out.symm; have NB681_700 := Aside0.mk (Zn hg BK681.out); have NB700_681 := Aside0.mk NB681_700.out.symm; have NB682_700 := Aside0.mk (Zn hg BK682.out); have NB700_682 := Aside0.mk NB682_700.out.symm; have NB689_700 := Aside0.mk (Zn hg BK689.out); have NB700_689 := Aside0.mk NB689_700.out.symm; have NB697_700 := Aside0.mk (Zn hg BK697.out); have NB700_697 := Aside0.mk NB697_700.out.symm; replace HO_332 := Aside0.mk (Kd.R_below (Zr HO_332.out) hb); replace BK680 := Aside0.mk (Zi BK680.out hb); replace BK681 := Aside0.mk (Zi BK681.out hb); replace BK682 := Aside0.mk (Zi BK682.out hb); replace BK689 := Aside0.mk (Zi BK689.out hb); replace BK697 := Aside0.mk (Zi BK697.out hb); replace HB := Aside0.mk (Qan (Zc5 GE680.out GE681.out GE682.out GE689.out GE697.out) hb); clear hb hbox hg; have hnb49 := NB700_680.out; have hnc49 := NB680_700.out; have hnb50 := NB700_681.out; have hnc50 := NB681_700.out; have hnb51 := NB700_682.out; have hnc51 := NB682_700.out; have hnb52 := NB700_689.out; have hnc52 := NB689_700.out; have hnb53 := NB700_697.out; have hnc53 := NB697_700.out; obtain ⟨hcz54_0, hfz54_0⟩ := Zy (v := (.string t690)) BK700.out 0; obtain ⟨hcz54_1, hfz54_1⟩ := Zy (v := (.int .i64 t691)) BK700.out 1; obtain ⟨hcz54_2, hfz54_2⟩ := Zy (v := (.int .i64 t692)) BK700.out 2; obtain ⟨hcz54_3, hfz54_3⟩ := Zy (v := (.int .i64 t693)) BK700.out 3; obtain ⟨hcz54_4, hfz54_4⟩ := Zy (v := (.int .i64 t694)) BK700.out 4; obtain ⟨hcz54_5, hfz54_5⟩ := Zy (v := (.int .i64 t695)) BK700.out 5; have hnb55 := NB681_680.out; have hnc55 := NB680_681.out; have hnb56 := NB681_682.out; have hnc56 := NB682_681.out; have hnb57 := NB681_689.out; have hnc57 := NB689_681.out; obtain ⟨hcz58_0, hfz58_0⟩ := Zy (v := (.int .i64 x682000_1)) BK681.out 0; obtain ⟨hcz58_1, hfz58_1⟩ := Zy (v := (.int .i64 x682001_1)) BK681.out 1; obtain ⟨hcz58_2, hfz58_2⟩ := Zy (v := (.int .i64 x682002_1)) BK681.out 2; obtain ⟨hcz58_3, hfz58_3⟩ := Zy (v := (.int .i64 x682003_1)) BK681.out 3) | ((first | go_end0 | (refine bodyPost_ret (results_none rfl _ _ _) rfl ?_))))
         (try simp only [Act.put, Zj, Zk, Zm])
         have H' := Aside0.mk H
         clear H
         go_wp2
         go_roundg k1
         case measure => have := HK1.out; omega
         case rel => exact ⟨(wrap64 (x334_1 + 1)), (wrap64 (x682000_1 + t698)), (x682001_1), (x682002_1), (x682003_1), (Zs), H', ⟨by have := HK1.out; omega⟩, ⟨by (with_reducible repeat (first | apply Kd.R_alloc | apply Kd.R_drewN | apply Kd.R_drew)); exact Kd.R_mono (Zf gb681 0 (Kd.R_types HO_332.out BK681.out (by decide)) (.int .i64 (wrap64 (x682000_1 + t698)))) (fun _ hk => trivial)⟩, ⟨Zg1 BK680.out NB680_681.out⟩, ⟨Zp2 BK681.out⟩, ⟨Zg1 BK682.out NB682_681.out⟩, ⟨Zc6 GE680.out GE681.out GE682.out GE689.out GE697.out GE700.out⟩⟩
        rw [if_neg c42] at H
        have c42b0 : (t691 == 0) = false := beq_eq_false_iff_ne.mpr c42
        have c42b1 : (t691 != 0) = true := bne_iff_ne.mpr c42
        by_cases c59 : t691 = 1
        ·rw [if_pos c59] at H
         have c59x := c59
         have c59b0 : (t691 == 1) = true := beq_iff_eq.mpr c59
         have c59b1 : (t691 != 1) = false := bne_eq_false_iff_eq.mpr c59
         clear c59
         have hnb60 := NB697_680.out
         have hnc60 := NB680_697.out
         have hnb61 := NB697_681.out
         have hnc61 := NB681_697.out
         have hnb62 := NB697_682.out
         have hnc62 := NB682_697.out
         have hnb63 := NB697_689.out
         have hnc63 := NB689_697.out
         obtain ⟨hcz64_0, hfz64_0⟩ := Zy (v := (.string t690)) BK697.out 0
         obtain ⟨hcz64_1, hfz64_1⟩ := Zy (v := (.int .i64 t691)) BK697.out 1
         obtain ⟨hcz64_2, hfz64_2⟩ := Zy (v := (.int .i64 t692)) BK697.out 2
         obtain ⟨hcz64_3, hfz64_3⟩ := Zy (v := (.int .i64 t693)) BK697.out 3
         obtain ⟨hcz64_4, hfz64_4⟩ := Zy (v := (.int .i64 t694)) BK697.out 4
         obtain ⟨hcz64_5, hfz64_5⟩ := Zy (v := (.int .i64 t695)) BK697.out 5
         go_upto_region 12 with (first | (go_at_call 65; go_in) | ((with_reducible refine QaM (N := 3) rfl ?_); (refine gate_n (n := 12) rfl ?_); refine Zbx (N := 3) (cs := #[.string t690, .int .i64 t691, .int .i64 t692, .int .i64 t693, .int .i64 t694, .int .i64 t695]) (t := 84) ?_; intro gb700 hg w65 hbox hb; have BK700 := Aside0.mk (hbox); have GW700 := Aside0.mk (Zt w hg (Zc5 GE680.out GE681.out GE682.out GE689.out GE697.out)); have GE700 := GW700; have NB680_700 := Aside0.mk (Zn hg BK680.out); have NB700_680 := Aside0.mk NB680_700.out.symm; have NB681_700 := Aside0.mk (Zn hg BK681.out); have NB700_681 := Aside0.mk NB681_700.out.symm; have NB682_700 := Aside0.mk (Zn hg BK682.out); have NB700_682 := Aside0.mk NB682_700.out.symm; have NB689_700 := Aside0.mk (Zn hg BK689.out); have NB700_689 := Aside0.mk NB689_700.out.symm; have NB697_700 := Aside0.mk (Zn hg BK697.out); have NB700_697 := Aside0.mk NB697_700.out.symm; replace HO_332 := Aside0.mk (Kd.R_below (Zr HO_332.out) hb); replace BK680 := Aside0.mk (Zi BK680.out hb); replace BK681 := Aside0.mk (Zi BK681.out hb); replace BK682 := Aside0.mk (Zi BK682.out hb); replace BK689 := Aside0.mk (Zi BK689.out hb); replace BK697 := Aside0.mk (Zi BK697.out hb); replace HB := Aside0.mk (Qan (Zc5 GE680.out GE681.out GE682.out GE689.out GE697.out) hb); clear hb hbox hg; have hnb66 := NB700_680.out; have hnc66 := NB680_700.out; have hnb67 := NB700_681.out; have hnc67 := NB681_700.out; have hnb68 := NB700_682.out; have hnc68 := NB682_700.out; have hnb69 := NB700_689.out; have hnc69 := NB689_700.out; have hnb70 := NB700_697.out; have hnc70 := NB697_700.out; obtain ⟨hcz71_0, hfz71_0⟩ := Zy (v := (.string t690)) BK700.out 0; obtain ⟨hcz71_1, hfz71_1⟩ := Zy (v := (.int .i64 t691)) BK700.out 1; obtain ⟨hcz71_2, hfz71_2⟩ := Zy (v := (.int .i64 t692)) BK700.out 2; obtain ⟨hcz71_3, hfz71_3⟩ := Zy (v := (.int .i64 t693)) BK700.out 3; obtain ⟨hcz71_4, hfz71_4⟩ := Zy (v := (.int .i64 t694)) BK700.out 4; obtain ⟨hcz71_5, hfz71_5⟩ := Zy (v := (.int .i64 t695)) BK700.out 5; have hnb72 := NB681_680.out; have hnc72 := NB680_681.out; have hnb73 := NB681_682.out; have hnc73 := NB682_681.out; have hnb74 := NB681_689.out; have hnc74 := NB689_681.out; obtain ⟨hcz75_0, hfz75_0⟩ := Zy (v := (.int .i64 x682000_1)) BK681.out 0; obtain ⟨hcz75_1, hfz75_1⟩ := Zy (v := (.int .i64 x682001_1)) BK681.out 1; obtain ⟨hcz75_2, hfz75_2⟩ := Zy (v := (.int .i64 x682002_1)) BK681.out 2; obtain ⟨hcz75_3, hfz75_3⟩ := Zy (v := (.int .i64 x682003_1)) BK681.out 3) | ((first | go_end0 | (refine bodyPost_ret (results_none rfl _ _ _) rfl ?_))))
         (try simp only [Act.put, Zj, Zk, Zm])
         have H' := Aside0.mk H
         clear H
         go_wp2
         go_roundg k1
         case measure => have := HK1.out; omega
         case rel => exact ⟨(wrap64 (x334_1 + 1)), (x682000_1), (wrap64 (x682001_1 + t698)), (x682002_1), (x682003_1), (Zs), H', ⟨by have := HK1.out; omega⟩, ⟨by (with_reducible repeat (first | apply Kd.R_alloc | apply Kd.R_drewN | apply Kd.R_drew)); exact Kd.R_mono (Zf gb681 1 (Kd.R_types HO_332.out BK681.out (by decide)) (.int .i64 (wrap64 (x682001_1 + t698)))) (fun _ hk => trivial)⟩, ⟨Zg1 BK680.out NB680_681.out⟩, ⟨Zp2 BK681.out⟩, ⟨Zg1 BK682.out NB682_681.out⟩, ⟨Zc6 GE680.out GE681.out GE682.out GE689.out GE697.out GE700.out⟩⟩
        rw [if_neg c59] at H
        have c59b0 : (t691 == 1) = false := beq_eq_false_iff_ne.mpr c59
        have c59b1 : (t691 != 1) = true := bne_iff_ne.mpr c59
        by_cases c76 : t691 = 2
        ·rw [if_pos c76] at H
         have c76x := c76
         have c76b0 : (t691 == 2) = true := beq_iff_eq.mpr c76
         have c76b1 : (t691 != 2) = false := bne_eq_false_iff_eq.mpr c76
         clear c76
         have hnb77 := NB697_680.out
         have hnc77 := NB680_697.out
         have hnb78 := NB697_681.out
         have hnc78 := NB681_697.out
         have hnb79 := NB697_682.out
         have hnc79 := NB682_697.out
         have hnb80 := NB697_689.out
         have hnc80 := NB689_697.out
         obtain ⟨hcz81_0, hfz81_0⟩ := Zy (v := (.string t690)) BK697.out 0
         obtain ⟨hcz81_1, hfz81_1⟩ := Zy (v := (.int .i64 t691)) BK697.out 1
         obtain ⟨hcz81_2, hfz81_2⟩ := Zy (v := (.int .i64 t692)) BK697.out 2
         obtain ⟨hcz81_3, hfz81_3⟩ := Zy (v := (.int .i64 t693)) BK697.out 3
         obtain ⟨hcz81_4, hfz81_4⟩ := Zy (v := (.int .i64 t694)) BK697.out 4
         obtain ⟨hcz81_5, hfz81_5⟩ := Zy (v := (.int .i64 t695)) BK697.out 5
         go_upto_region 12 with (first | (go_at_call 65; go_in) | ((with_reducible refine QaM (N := 3) rfl ?_); (refine gate_n (n := 12) rfl ?_); refine Zbx (N := 3) (cs := #[.string t690, .int .i64 t691, .int .i64 t692, .int .i64 t693, .int .i64 t694, .int .i64 t695]) (t := 84) ?_; intro gb700 hg w82 hbox hb; have BK700 := Aside0.mk (hbox); have GW700 := Aside0.mk (Zt w hg (Zc5 GE680.out GE681.out GE682.out GE689.out GE697.out)); have GE700 := GW700; have NB680_700 := Aside0.mk (Zn hg BK680.out); have NB700_680 := Aside0.mk NB680_700.out.symm; have NB681_700 := Aside0.mk (Zn hg BK681.out); have NB700_681 := Aside0.mk NB681_700.out.symm; have NB682_700 := Aside0.mk (Zn hg BK682.out); have NB700_682 := Aside0.mk NB682_700.out.symm; have NB689_700 := Aside0.mk (Zn hg BK689.out); have NB700_689 := Aside0.mk NB689_700.out.symm; have NB697_700 := Aside0.mk (Zn hg BK697.out); have NB700_697 := Aside0.mk NB697_700.out.symm; replace HO_332 := Aside0.mk (Kd.R_below (Zr HO_332.out) hb); replace BK680 := Aside0.mk (Zi BK680.out hb); replace BK681 := Aside0.mk (Zi BK681.out hb); replace BK682 := Aside0.mk (Zi BK682.out hb); replace BK689 := Aside0.mk (Zi BK689.out hb); replace BK697 := Aside0.mk (Zi BK697.out hb); replace HB := Aside0.mk (Qan (Zc5 GE680.out GE681.out GE682.out GE689.out GE697.out) hb); clear hb hbox hg; have hnb83 := NB700_680.out; have hnc83 := NB680_700.out; have hnb84 := NB700_681.out; have hnc84 := NB681_700.out; have hnb85 := NB700_682.out; have hnc85 := NB682_700.out; have hnb86 := NB700_689.out; have hnc86 := NB689_700.out; have hnb87 := NB700_697.out; have hnc87 := NB697_700.out; obtain ⟨hcz88_0, hfz88_0⟩ := Zy (v := (.string t690)) BK700.out 0; obtain ⟨hcz88_1, hfz88_1⟩ := Zy (v := (.int .i64 t691)) BK700.out 1; obtain ⟨hcz88_2, hfz88_2⟩ := Zy (v := (.int .i64 t692)) BK700.out 2; obtain ⟨hcz88_3, hfz88_3⟩ := Zy (v := (.int .i64 t693)) BK700.out 3; obtain ⟨hcz88_4, hfz88_4⟩ := Zy (v := (.int .i64 t694)) BK700.out 4; obtain ⟨hcz88_5, hfz88_5⟩ := Zy (v := (.int .i64 t695)) BK700.out 5; have hnb89 := NB681_680.out; have hnc89 := NB680_681.out; have hnb90 := NB681_682.out; have hnc90 := NB682_681.out; have hnb91 := NB681_689.out; have hnc91 := NB689_681.out; obtain ⟨hcz92_0, hfz92_0⟩ := Zy (v := (.int .i64 x682000_1)) BK681.out 0; obtain ⟨hcz92_1, hfz92_1⟩ := Zy (v := (.int .i64 x682001_1)) BK681.out 1; obtain ⟨hcz92_2, hfz92_2⟩ := Zy (v := (.int .i64 x682002_1)) BK681.out 2; obtain ⟨hcz92_3, hfz92_3⟩ := Zy (v := (.int .i64 x682003_1)) BK681.out 3) | ((first | go_end0 | (refine bodyPost_ret (results_none rfl _ _ _) rfl ?_))))
         (try simp only [Act.put, Zj, Zk, Zm])
         have H' := Aside0.mk H
         clear H
         go_wp2
         go_roundg k1
         case measure => have := HK1.out; omega
         case rel => exact ⟨(wrap64 (x334_1 + 1)), (x682000_1), (x682001_1), (wrap64 (x682002_1 + t698)), (x682003_1), (Zs), H', ⟨by have := HK1.out; omega⟩, ⟨by (with_reducible repeat (first | apply Kd.R_alloc | apply Kd.R_drewN | apply Kd.R_drew)); exact Kd.R_mono (Zf gb681 2 (Kd.R_types HO_332.out BK681.out (by decide)) (.int .i64 (wrap64 (x682002_1 + t698)))) (fun _ hk => trivial)⟩, ⟨Zg1 BK680.out NB680_681.out⟩, ⟨Zp2 BK681.out⟩, ⟨Zg1 BK682.out NB682_681.out⟩, ⟨Zc6 GE680.out GE681.out GE682.out GE689.out GE697.out GE700.out⟩⟩
        rw [if_neg c76] at H
        have c76b0 : (t691 == 2) = false := beq_eq_false_iff_ne.mpr c76
        have c76b1 : (t691 != 2) = true := bne_iff_ne.mpr c76
        by_cases c93 : t691 = 3
        ·rw [if_pos c93] at H
         have c93x := c93
         have c93b0 : (t691 == 3) = true := beq_iff_eq.mpr c93
         have c93b1 : (t691 != 3) = false := bne_eq_false_iff_eq.mpr c93
         clear c93
         have hnb94 := NB697_680.out
         have hnc94 := NB680_697.out
         have hnb95 := NB697_681.out
         have hnc95 := NB681_697.out
         have hnb96 := NB697_682.out
         have hnc96 := NB682_697.out
         have hnb97 := NB697_689.out
         have hnc97 := NB689_697.out
         obtain ⟨hcz98_0, hfz98_0⟩ := Zy (v := (.string t690)) BK697.out 0
         obtain ⟨hcz98_1, hfz98_1⟩ := Zy (v := (.int .i64 t691)) BK697.out 1
         obtain ⟨hcz98_2, hfz98_2⟩ := Zy (v := (.int .i64 t692)) BK697.out 2
         obtain ⟨hcz98_3, hfz98_3⟩ := Zy (v := (.int .i64 t693)) BK697.out 3
         obtain ⟨hcz98_4, hfz98_4⟩ := Zy (v := (.int .i64 t694)) BK697.out 4
         obtain ⟨hcz98_5, hfz98_5⟩ := Zy (v := (.int .i64 t695)) BK697.out 5
         go_upto_region 12 with (first | (go_at_call 65; go_in) | ((with_reducible refine QaM (N := 3) rfl ?_); (refine gate_n (n := 12) rfl ?_); refine Zbx (N := 3) (cs := #[.string t690, .int .i64 t691, .int .i64 t692, .int .i64 t693, .int .i64 t694, .int .i64 t695]) (t := 84) ?_; intro gb700 hg w99 hbox hb; have BK700 := Aside0.mk (hbox); have GW700 := Aside0.mk (Zt w hg (Zc5 GE680.out GE681.out GE682.out GE689.out GE697.out)); have GE700 := GW700; have NB680_700 := Aside0.mk (Zn hg BK680.out); have NB700_680 := Aside0.mk NB680_700.out.symm; have NB681_700 := Aside0.mk (Zn hg BK681.out); have NB700_681 := Aside0.mk NB681_700.out.symm; have NB682_700 := Aside0.mk (Zn hg BK682.out); have NB700_682 := Aside0.mk NB682_700.out.symm; have NB689_700 := Aside0.mk (Zn hg BK689.out); have NB700_689 := Aside0.mk NB689_700.out.symm; have NB697_700 := Aside0.mk (Zn hg BK697.out); have NB700_697 := Aside0.mk NB697_700.out.symm; replace HO_332 := Aside0.mk (Kd.R_below (Zr HO_332.out) hb); replace BK680 := Aside0.mk (Zi BK680.out hb); replace BK681 := Aside0.mk (Zi BK681.out hb); replace BK682 := Aside0.mk (Zi BK682.out hb); replace BK689 := Aside0.mk (Zi BK689.out hb); replace BK697 := Aside0.mk (Zi BK697.out hb); replace HB := Aside0.mk (Qan (Zc5 GE680.out GE681.out GE682.out GE689.out GE697.out) hb); clear hb hbox hg; have hnb100 := NB700_680.out; have hnc100 := NB680_700.out; have hnb101 := NB700_681.out; have hnc101 := NB681_700.out; have hnb102 := NB700_682.out; have hnc102 := NB682_700.out; have hnb103 := NB700_689.out; have hnc103 := NB689_700.out; have hnb104 := NB700_697.out; have hnc104 := NB697_700.out; obtain ⟨hcz105_0, hfz105_0⟩ := Zy (v := (.string t690)) BK700.out 0; obtain ⟨hcz105_1, hfz105_1⟩ := Zy (v := (.int .i64 t691)) BK700.out 1; obtain ⟨hcz105_2, hfz105_2⟩ := Zy (v := (.int .i64 t692)) BK700.out 2; obtain ⟨hcz105_3, hfz105_3⟩ := Zy (v := (.int .i64 t693)) BK700.out 3; obtain ⟨hcz105_4, hfz105_4⟩ := Zy (v := (.int .i64 t694)) BK700.out 4; obtain ⟨hcz105_5, hfz105_5⟩ := Zy (v := (.int .i64 t695)) BK700.out 5; have hnb106 := NB681_680.out; have hnc106 := NB680_681.out; have hnb107 := NB681_682.out; have hnc107 := NB682_681.out; have hnb108 := NB681_689.out; have hnc108 := NB689_681.out; obtain ⟨hcz109_0, hfz109_0⟩ := Zy (v := (.int .i64 x682000_1)) BK681.out 0; obtain ⟨hcz109_1, hfz109_1⟩ := Zy (v := (.int .i64 x682001_1)) BK681.out 1; obtain ⟨hcz109_2, hfz109_2⟩ := Zy (v := (.int .i64 x682002_1)) BK681.out 2; obtain ⟨hcz109_3, hfz109_3⟩ := Zy (v := (.int .i64 x682003_1)) BK681.out 3) | ((first | go_end0 | (refine bodyPost_ret (results_none rfl _ _ _) rfl ?_))))
         (try simp only [Act.put, Zj, Zk, Zm])
         have H' := Aside0.mk H
         clear H
         go_wp2
         go_roundg k1
         case measure => have := HK1.out; omega
         case rel => exact ⟨(wrap64 (x334_1 + 1)), (x682000_1), (x682001_1), (x682002_1), (wrap64 (x682003_1 + t698)), (Zs), H', ⟨by have := HK1.out; omega⟩, ⟨by (with_reducible repeat (first | apply Kd.R_alloc | apply Kd.R_drewN | apply Kd.R_drew)); exact Kd.R_mono (Zf gb681 3 (Kd.R_types HO_332.out BK681.out (by decide)) (.int .i64 (wrap64 (x682003_1 + t698)))) (fun _ hk => trivial)⟩, ⟨Zg1 BK680.out NB680_681.out⟩, ⟨Zp2 BK681.out⟩, ⟨Zg1 BK682.out NB682_681.out⟩, ⟨Zc6 GE680.out GE681.out GE682.out GE689.out GE697.out GE700.out⟩⟩
        rw [if_neg c93] at H
        exact absurd H (by simp)
       rw [if_neg c41] at H
       have c41b0 : (t699 == 0) = false := beq_eq_false_iff_ne.mpr c41
       have c41b1 : (t699 != 0) = true := bne_iff_ne.mpr c41
       (try simp only [c41b0, c41b1])
       go_upto_region 2 with (fail)
       simp only [Option.some.injEq, Prod.mk.injEq] at H
       obtain ⟨rfl, rfl, rfl, rfl, rfl⟩ := H
       have hnb110 := NB681_680.out
       have hnc110 := NB680_681.out
       have hnb111 := NB681_682.out
       have hnc111 := NB682_681.out
       have hnb112 := NB681_689.out
       have hnc112 := NB689_681.out
       have hnb113 := NB681_697.out
       have hnc113 := NB697_681.out
       obtain ⟨hcz114_0, hfz114_0⟩ := Zy (v := (.int .i64 x682000_1)) BK681.out 0
       obtain ⟨hcz114_1, hfz114_1⟩ := Zy (v := (.int .i64 x682001_1)) BK681.out 1
       obtain ⟨hcz114_2, hfz114_2⟩ := Zy (v := (.int .i64 x682002_1)) BK681.out 2
       obtain ⟨hcz114_3, hfz114_3⟩ := Zy (v := (.int .i64 x682003_1)) BK681.out 3
       go_wp2
       refine bodyPost_ret (Qb7 rfl _ _ gb681 74 #[.int .i64 0, .int .i64 0, .int .i64 0, .int .i64 0] (0, 0) _ rfl (Zp2 BK681.out) Try.underlying74 rfl (by kernel_rfl)) rfl ?_
       exact ⟨Zq, Zc5 GE680.out GE681.out GE682.out GE689.out GE697.out⟩
      rw [if_neg c24] at H
      exact absurd H (by simp)
     rw [if_neg c23] at H
     exact absurd H (by simp)
    rw [if_neg c22] at H
    have c22b0 : decide (x334_1 < (t685.length : Int)) = false := decide_eq_false c22
    clear c22
    (try simp only [c22b0])
    go_upto_region 2 with (fail)
    simp only [Option.some.injEq, Prod.mk.injEq] at H
    obtain ⟨rfl, rfl, rfl, rfl, rfl⟩ := H
    have hnb115 := NB681_680.out
    have hnc115 := NB680_681.out
    have hnb116 := NB681_682.out
    have hnc116 := NB682_681.out
    obtain ⟨hcz117_0, hfz117_0⟩ := Zy (v := (.int .i64 x682000_1)) BK681.out 0
    obtain ⟨hcz117_1, hfz117_1⟩ := Zy (v := (.int .i64 x682001_1)) BK681.out 1
    obtain ⟨hcz117_2, hfz117_2⟩ := Zy (v := (.int .i64 x682002_1)) BK681.out 2
    obtain ⟨hcz117_3, hfz117_3⟩ := Zy (v := (.int .i64 x682003_1)) BK681.out 3
    go_wp2
    refine bodyPost_ret (Qb7 rfl _ _ gb681 74 #[.int .i64 x682000_1, .int .i64 x682001_1, .int .i64 x682002_1, .int .i64 x682003_1] (0, 0) _ rfl (Zp2 BK681.out) Try.underlying74 rfl (by kernel_rfl)) rfl ?_
    exact ⟨Zq, Zc3 GE680.out GE681.out GE682.out⟩
 rw [if_neg c15] at H
 have c15b0 : (t684 == 0) = false := beq_eq_false_iff_ne.mpr c15
 have c15b1 : (t684 != 0) = true := bne_iff_ne.mpr c15
 (try simp only [c15b0, c15b1])
 simp only [Option.some.injEq, Prod.mk.injEq] at H
 obtain ⟨rfl, rfl, rfl, rfl, rfl⟩ := H
 have hnb118 := NB681_680.out
 have hnc118 := NB680_681.out
 have hnb119 := NB681_682.out
 have hnc119 := NB682_681.out
 obtain ⟨hcz120_0, hfz120_0⟩ := Zy (v := (.int .i64 0)) BK681.out 0
 obtain ⟨hcz120_1, hfz120_1⟩ := Zy (v := (.int .i64 0)) BK681.out 1
 obtain ⟨hcz120_2, hfz120_2⟩ := Zy (v := (.int .i64 0)) BK681.out 2
 obtain ⟨hcz120_3, hfz120_3⟩ := Zy (v := (.int .i64 0)) BK681.out 3
 go_wp2
 refine bodyPost_ret (Qb7 rfl _ _ gb681 74 #[.int .i64 0, .int .i64 0, .int .i64 0, .int .i64 0] (0, 0) _ rfl (Zp2 BK681.out) Try.underlying74 rfl (by kernel_rfl)) rfl ?_
 exact ⟨Zq, Zc3 GE680.out GE681.out GE682.out⟩
end Go.Proofs.Ytfcaaefdmabkhaa.Pr
