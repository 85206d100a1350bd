/- Functions' values and contracts, as the print wrote them. -/
import Derived.Test.YtfcaaefdmabkhaaQ283P0
import Derived.Test.YtfcaaefdmabkhaaQ283P1
import Derived.Test.YtfcaaefdmabkhaaQ283P2
namespace Go.Proofs.Ytfcaaefdmabkhaa.Pr
open Bool renaming true → T
open Bool renaming false → F
open Go.RowKit Go.Proofs.YtfcaaefdmabkhaaW.PrintWords Go.Proofs.YtfcaaefdmabkhaaW.PrintLast Go.Proofs.YtfcaaefdmabkhaaW.PrintMore
attribute [local go_sem] QaS QaU Qa2 Qa3 QaK QaL QaT QaV   -- for this text's walks alone
set_option linter.unusedVariables false
set_option linter.unusedSimpArgs false
set_option maxRecDepth 100000
def Qay.l0 : Nat → List (S84) → List (S98) → List Int → List (S46) → Int → Option (Int × Int)
 | 0, _, _, _, _, _ => none
 | k + 1, x2, x3, x11, x12, x13 => if x13 < (x12.length : Int) then (if 0 ≤ x13 then ((QaP.f k x2 ((rd_T46 x12 x13).f1)).bind fun bt417 => (if bt417.2.2.2.2.2.2 = T then ((Qa9.f k bt417.1 bt417.2.1 bt417.2.2.1 bt417.2.2.2.1 bt417.2.2.2.2.1 bt417.2.2.2.2.2.1 ((rd_T46 x12 x13).f2) x3).bind fun bt426 => (if bt426.2 = 0 then (if x11.length < 17592186044416 then (Qay.l0 k x2 x3 (x11 ++ [bt426.1]) x12 (wrap64 (x13 + 1))) else (none)) else (some (0, bt426.2)))) else (some (0, 11)))) else (none)) else ((Qa1.f k x11).bind fun bt414 => (some (bt414.1, bt414.2)))
def Qay.f (k : Nat) (l0 : List (S46)) (a1_0 : ByteArray) (a1_1 : ByteArray) (l2 : List (S84)) (l3 : List (S98)) : Option (Int × Int) := (Qaq.f k l0).bind fun t406 => (if t406 = 0 then ((QaG.f k l2).bind fun t407 => (if t407 = 0 then ((QaI.f k l0 a1_0 a1_1).bind fun t411 => (Qay.l0 k l2 l3 (([] : List Int)) t411 0)) else (some (0, t407)))) else (some (0, t406)))
theorem Qay.mono_l : ∀ k, (∀ y0 y1 y2 y3 y4, LeO (Qay.l0 k y0 y1 y2 y3 y4) (Qay.l0 (k + 1) y0 y1 y2 y3 y4))
 | 0 => fun _ _ _ _ _ r h => by simp [Qay.l0] at h
 | k + 1 => by
  have ih0 := Qay.mono_l k
  intro y0 y1 y2 y3 y4
  unfold Qay.l0
  exact ZM7 ih0 Qa1.mono QaG.mono QaP.mono Qa9.mono Qaq.mono QaI.mono
theorem Qay.mono : ∀ a0 a1 a2 a3 a4 k, LeO (Qay.f k a0 a1 a2 a3 a4) (Qay.f (k + 1) a0 a1 a2 a3 a4) := by
 intro a0 a1 a2 a3 a4 k
 have ih0 := Qay.mono_l k
 unfold Qay.f
 exact ZM7 ih0 Qa1.mono QaG.mono QaP.mono Qa9.mono Qaq.mono QaI.mono
def Qay.T15 : Bool × List (List Nat × List Nat) := (T, [([], []), ([], []), ([], []), ([1, 2], [1, 2]), ([3], [3]), ([4], [4]), ([], []), ([0, 5, 6], [0, 5, 6]), ([7], [7]), ([8], [8]), ([8], [8]), ([9, 7, 0, 1, 2, 3, 4, 5, 6, 7, 8, 9], [9]), ([10, 11, 0, 1, 2, 3, 4, 5, 6, 7, 8, 9, 10, 11], [10])])
def Qay.B15 : List Nat := [0, 0, 0, 6, 14, 30, 0, 127, 255, 511, 511, 1023, 4095]
theorem Qay.tab15 : rtab .any (opsOf Try.f37 15) = Qay.T15 := by kernel_rfl
theorem Qay.bits15 : Qb0 Qay.T15.2 Qay.B15 = T := by kernel_rfl
set_option maxHeartbeats 8000000 in
theorem Qay.calls (k : Nat) (A0 : Option Addr) (c0 : Nat) (l0 : List (S46)) (a1_0 : ByteArray) (a1_1 : ByteArray) (A2 : Option Addr) (c2 : Nat) (l2 : List (S84)) (A3 : Option Addr) (c3 : Nat) (l3 : List (S98)) (r1 : Int) (r2 : Int) (w : World) (hr0 : Kd.C k46 w A0 l0.length l0) (hc0 : l0.length ≤ c0) (hr2 : Kd.C k84 w A2 l2.length l2) (hc2 : l2.length ≤ c2) (hr3 : Kd.C k98 w A3 l3.length l3) (hc3 : l3.length ≤ c3) (h : Qay.f k l0 a1_0 a1_1 l2 l3 = some (r1, r2)) :
  Calls Try.prog 37 #[.slice A0 l0.length c0, .agg #[.string a1_0, .string a1_1], .slice A2 l2.length c2, .slice A3 l3.length c3] w fun e w' => e = .returned (.tuple #[.int .i64 r1, .int .i64 r2]) ∧ Below w.heap.size w w' := by
 have hu44 := Try.underlying44
 have hu84 := Try.underlying84
 have HR0 := Aside0.mk hr0
 have HC0 := Aside0.mk hc0
 clear hr0 hc0
 have HR2 := Aside0.mk hr2
 have HC2 := Aside0.mk hc2
 clear hr2 hc2
 have HR3 := Aside0.mk hr3
 have HC3 := Aside0.mk hc3
 clear hr3 hc3
 have HB := Aside0.mk (Below.refl w.heap.size w)
 have H : ((Qaq.f k l0).bind fun t406 => (if t406 = 0 then ((QaG.f k l2).bind fun t407 => (if t407 = 0 then ((QaI.f k l0 a1_0 a1_1).bind fun t411 => (Qay.l0 k l2 l3 (([] : List Int)) t411 0)) else (some (0, t407)))) else (some (0, t406)))) = some (r1, r2) := h
 clear h
 replace H := Option.bind_eq_some_iff.mp H
 obtain ⟨t406, A50, H⟩ := H
 replace H : (if t406 = 0 then ((QaG.f k l2).bind fun t407 => (if t407 = 0 then ((QaI.f k l0 a1_0 a1_1).bind fun t411 => (Qay.l0 k l2 l3 (([] : List Int)) t411 0)) else (some (0, t407)))) else (some (0, t406))) = some (r1, r2) := H
 have A5 := Aside0.mk A50
 clear A50
 go_enter Try.func37, Try.ntmps37
 go_upto_if 21 with (first | ((with_reducible refine QaJ (N := 5) rfl ?_); refine Zbx (N := 5) (cs := #[.string a1_0, .string a1_1]) (t := 44) ?_; intro gb405 hg w6 hbox hb; have BK405 := Aside0.mk (hbox); have GW405 := Aside0.mk (Zt w hg (Zb)); have GE405 := GW405; replace HB := Aside0.mk (Qao (Zb) hb); clear hb hbox hg) | ((with_reducible refine Qax (f := 66) rfl ?_); refine goesL_ (some 19) rfl rfl Try.func66 (by kernel_rfl) rfl #[.slice A0 l0.length c0] rfl (Zl) ?_; (with_reducible refine (Qaq.calls k _ _ l0 t406 _ ?side1 ?side2 A5.out).mono ?_); (case side1 => exact Zv (Kd.C_below HR0.out HB.out)); (case side2 => exact HC0.out); rintro e w7 ⟨rfl, hb⟩; refine ⟨_, rfl, ?_⟩; replace BK405 := Aside0.mk (Zi BK405.out hb); replace HB := Aside0.mk (Qao (Zc1 GE405.out) hb); (try clear hb); (try clear hb2); (try clear hk); (try clear hi)))
 (try simp only [Act.put, Zj, Zk, Zm])
 by_cases c8 : t406 = 0
 ·rw [if_pos c8] at H
  have c8b0 : (t406 == 0) = T := beq_iff_eq.mpr c8
  have c8b1 : (t406 != 0) = F := bne_eq_false_iff_eq.mpr c8
  clear c8
  (try simp only [c8b0, c8b1])
  replace H := Option.bind_eq_some_iff.mp H
  obtain ⟨t407, A90, H⟩ := H
  replace H : (if t407 = 0 then ((QaI.f k l0 a1_0 a1_1).bind fun t411 => (Qay.l0 k l2 l3 (([] : List Int)) t411 0)) else (some (0, t407))) = some (r1, r2) := H
  have A9 := Aside0.mk A90
  clear A90
  go_upto_if 26 with (first | ((with_reducible refine Qax (f := 67) rfl ?_); refine goesL_ (some 24) rfl rfl Try.func67 (by kernel_rfl) rfl #[.slice A2 l2.length c2] rfl (Zl) ?_; (with_reducible refine (QaG.calls k _ _ l2 t407 _ ?side1 ?side2 A9.out).mono ?_); (case side1 => exact Zv (Kd.C_below HR2.out HB.out)); (case side2 => exact HC2.out); rintro e w10 ⟨rfl, hb⟩; refine ⟨_, rfl, ?_⟩; replace BK405 := Aside0.mk (Zi BK405.out hb); replace HB := Aside0.mk (Qao (Zc1 GE405.out) hb); (try clear hb); (try clear hb2); (try clear hk); (try clear hi)))
  (try simp only [Act.put, Zj, Zk, Zm])
  by_cases c11 : t407 = 0
  ·rw [if_pos c11] at H
   have c11b0 : (t407 == 0) = T := beq_iff_eq.mpr c11
   have c11b1 : (t407 != 0) = F := bne_eq_false_iff_eq.mpr c11
   clear c11
   (try simp only [c11b0, c11b1])
   obtain ⟨y408, hy408⟩ : ∃ y_ : List Int, y_ = (([] : List Int)) := ⟨_, rfl⟩
   replace H : ((QaI.f k l0 a1_0 a1_1).bind fun t411 => (Qay.l0 k l2 l3 y408 t411 0)) = some (r1, r2) := by first | (rw [hy408]; with_reducible exact H) | (have H2_ := (Option.bind_some _ _).symm.trans H; rw [hy408]; with_reducible exact H2_) | (have H2_ := (Option.bind_some _ _).symm.trans H; with_reducible exact H2_) | with_reducible exact H | (rw [hy408]; exact H) | exact H
   have Ny408 := Aside0.mk hy408
   clear hy408
   replace H := Option.bind_eq_some_iff.mp H
   obtain ⟨t411, A120, H⟩ := H
   replace H : (Qay.l0 k l2 l3 y408 t411 0) = some (r1, r2) := H
   have A12 := Aside0.mk A120
   clear A120
   have H' := Aside0.mk H
   clear H
   go_wp2_with (first | ((with_reducible refine QaJ (N := 28) rfl ?_); refine Kd.R_lit (Kd.int .i64) _ 3 ?hg (N := 28) ?hd (xs := ([] : List Int)) (inner := []) (ok := fun _ => True) (okp := fun _ => True) ?hr ?hp (fun _ hk => hk) trivial (Below.refl _ _) (Nat.le_refl _) (by simp) ?_; (case hd => rfl); (case hg => rfl); (case hr => first | (go_simp; done) | (go_simp; rfl)); (case hp => exact (Reps.none _ _)); intro v409 w13 ho14 hb hg_ hnew_; clear hg_ hnew_; (first | rw [← Ny408.out] at ho14 | (simp only [Int.reduceToNat] at ho14; rw [← Ny408.out] at ho14)); have HO410 := Aside0.mk (Kd.R_lower ho14 (Qam (Zc1 GE405.out))); replace BK405 := Aside0.mk (Zi BK405.out hb); replace HB := Aside0.mk (Qao (Zc1 GE405.out) hb); clear hb ho14; obtain ⟨hcz15_0, hfz15_0⟩ := Zy (v := (.string a1_0)) BK405.out 0; obtain ⟨hcz15_1, hfz15_1⟩ := Zy (v := (.string a1_1)) BK405.out 1) | ((with_reducible refine Qax (f := 40) rfl ?_); refine goesL_ (some 31) rfl rfl Try.func40 (by kernel_rfl) rfl #[.slice A0 l0.length c0, .agg #[.string a1_0, .string a1_1]] rfl (Zl) ?_; (with_reducible refine (QaI.calls k _ _ l0 a1_0 a1_1 t411 _ ?side1 ?side2 A12.out).mono ?_); (case side1 => exact Zv (Kd.C_below HR0.out HB.out)); (case side2 => exact HC0.out); rintro e w16 ⟨v412, rfl, ho0, hb⟩; refine ⟨_, rfl, ?_⟩; have HO413 := Aside0.mk (Kd.R_lower ho0 (Qam (Zc1 GE405.out))); replace HO410 := Aside0.mk (Kd.R_below (Zr HO410.out) hb); replace BK405 := Aside0.mk (Zi BK405.out hb); replace HB := Aside0.mk (Qao (Zc1 GE405.out) hb); (try clear hb); (try clear hb2); (try clear hk); (try clear hi); (try clear ho0)))
   go_loopg [11, 13] k (fun kq v11 v13 w' => ∃ (x11_1 : List Int) (x13_1 : Int), v13 = .int .i64 x13_1 ∧ Aside0 (Qay.l0 kq l2 l3 x11_1 t411 x13_1 = some (r1, r2)) ∧ Aside0 (kq ≤ k) ∧ Aside0 (Kd.R (Kd.int .i64) 3 w' w.heap.size (fun _ => True) v11 x11_1) ∧ Aside0 (Kd.R k46 46 w' w.heap.size (fun _ => True) v412 t411) ∧ Aside0 (w'.heap[gb405]? = some (.cells #[.string a1_0, .string a1_1] 44 (0, 0))) ∧ Aside0 (Below w.heap.size w w'))
   case atStart => exact ⟨(y408), (0), (Zs), H', ⟨Nat.le_refl _⟩, ⟨Zr HO410.out⟩, ⟨Zr HO413.out⟩, ⟨Zu BK405.out⟩, ⟨Zc1 GE405.out⟩⟩
   case round =>
    clear H'
    try clear c1
    try clear c2
    try clear p2
    try clear c3
    try clear c4
    try clear c6
    try clear c8
    try clear c8b0
    try clear c8b1
    try clear c11
    try clear c11b0
    try clear c11b1
    try clear hcz15_0
    try clear hcz15_1
    try clear hfz15_0
    try clear hfz15_1
    obtain ⟨x11_1, x13_1, rfl, HA, HK1, HO_11, HO_12, BK405, HB⟩ := hrel
    cases gk with
    | zero => exact absurd HA.out (by simp [Qay.l0])
    | succ k1 =>
     have H := HA.out
     clear HA
     simp only [Qay.l0] at H
     obtain ⟨Ao17, co17, eo17⟩ := Kd.R_slice HO_12.out
     subst eo17
     go_upto_if 35 with (fail)
     by_cases c18 : x13_1 < (t411.length : Int)
     ·rw [if_pos c18] at H
      have c18b0 : decide (x13_1 < (t411.length : Int)) = T := decide_eq_true c18
      clear c18
      (try simp only [c18b0])
      by_cases c19 : 0 ≤ x13_1
      ·rw [if_pos c19] at H
       have c19b0 : decide (0 ≤ x13_1) = T := decide_eq_true c19
       clear c19
       replace H := Option.bind_eq_some_iff.mp H
       obtain ⟨⟨t417, t418, t419, t420, t421, t422, t423⟩, A200, H⟩ := H
       replace H : (if t423 = T then ((Qa9.f k1 t417 t418 t419 t420 t421 t422 ((rd_T46 t411 x13_1).f2) l3).bind fun bt426 => (if bt426.2 = 0 then (if x11_1.length < 17592186044416 then (Qay.l0 k1 l2 l3 (x11_1 ++ [bt426.1]) t411 (wrap64 (x13_1 + 1))) else (none)) else (some (0, bt426.2)))) else (some (0, 11))) = some (r1, r2) := H
       have A20 := Aside0.mk A200
       clear A200
       have p416 : 0 ≤ (x13_1 : Int) := Ze
       have q416 : x13_1 < (t411.length : Int) := Ze
       obtain ⟨ad416, e416, hx416_0, hx416_1, hx416_2, hx416_3⟩ := at_T46 (Kd.R_reads' HO_12.out).2.2 x13_1 p416 q416
       cases e416
       replace p416 := eq_true p416
       replace q416 := eq_true q416
       go_upto_if 49 with (first | ((with_reducible refine Qax (f := 41) rfl ?_); refine goesL_ (some 45) rfl rfl Try.func41 (by kernel_rfl) rfl #[.slice A2 l2.length c2, .string ((rd_T46 t411 x13_1).f1)] rfl (Zl) ?_; (with_reducible refine (QaP.calls k1 _ _ l2 ((rd_T46 t411 x13_1).f1) t417 t418 t419 t420 t421 t422 t423 _ ?side1 ?side2 A20.out).mono ?_); (case side1 => exact Zv (Kd.C_below HR2.out HB.out)); (case side2 => exact HC2.out); rintro e w21 ⟨rfl, hb⟩; refine ⟨_, rfl, ?_⟩; replace HO_11 := Aside0.mk (Kd.R_below (Zr HO_11.out) hb); replace HO_12 := Aside0.mk (Kd.R_below (Zr HO_12.out) hb); replace BK405 := Aside0.mk (Zi BK405.out hb); replace HB := Aside0.mk (Qao (Zc1 GE405.out) hb); (try clear hb); (try clear hb2); (try clear hk); (try clear hi)) | ((with_reducible refine QaJ (N := 14) rfl ?_); refine Zbx (N := 14) (cs := #[.string (⟨#[]⟩ : ByteArray), .int .i64 0, .int .i64 0, .int .i64 0, .int .i64 0, .int .i64 0]) (t := 84) ?_; intro gb424 hg w22 hbox hb; have BK424 := Aside0.mk (hbox); have GW424 := Aside0.mk (Zt w hg (Zc1 GE405.out)); have GE424 := GW424; have NB405_424 := Aside0.mk (Zn hg BK405.out); have NB424_405 := Aside0.mk NB405_424.out.symm; replace HO_11 := Aside0.mk (Kd.R_below (Zr HO_11.out) hb); replace HO_12 := Aside0.mk (Kd.R_below (Zr HO_12.out) hb); replace BK405 := Aside0.mk (Zi BK405.out hb); replace HB := Aside0.mk (Qao (Zc1 GE405.out) hb); clear hb hbox hg; have hnb23 := NB424_405.out; have hnc23 := NB405_424.out; obtain ⟨hcz24_0, hfz24_0⟩ := Zy (v := (.string (⟨#[]⟩ : ByteArray))) BK424.out 0; obtain ⟨hcz24_1, hfz24_1⟩ := Zy (v := (.int .i64 0)) BK424.out 1; obtain ⟨hcz24_2, hfz24_2⟩ := Zy (v := (.int .i64 0)) BK424.out 2; obtain ⟨hcz24_3, hfz24_3⟩ := Zy (v := (.int .i64 0)) BK424.out 3; obtain ⟨hcz24_4, hfz24_4⟩ := Zy (v := (.int .i64 0)) BK424.out 4; obtain ⟨hcz24_5, hfz24_5⟩ := Zy (v := (.int .i64 0)) BK424.out 5))
       (try simp only [Act.put, Zj, Zk, Zm])
       by_cases c25 : t423 = T
       ·subst c25
        have H1 : ((Qa9.f k1 t417 t418 t419 t420 t421 t422 ((rd_T46 t411 x13_1).f2) l3).bind fun bt426 => (if bt426.2 = 0 then (if x11_1.length < 17592186044416 then (Qay.l0 k1 l2 l3 (x11_1 ++ [bt426.1]) t411 (wrap64 (x13_1 + 1))) else (none)) else (some (0, bt426.2)))) = some (r1, r2) := by rw [if_pos rfl] at H; exact H
        clear H
        have H := H1
        clear H1
        replace H := Option.bind_eq_some_iff.mp H
        obtain ⟨⟨t426, t427⟩, A260, H⟩ := H
        replace H : (if t427 = 0 then (if x11_1.length < 17592186044416 then (Qay.l0 k1 l2 l3 (x11_1 ++ [t426]) t411 (wrap64 (x13_1 + 1))) else (none)) else (some (0, t427))) = some (r1, r2) := H
        have A26 := Aside0.mk A260
        clear A260
        try go_wp2
        have n0_ : Aside0 (Kd.R (Kd.int .i64) 3 ((((((w22.setCell ⟨gb424, 0, none⟩ (.string t417)).setCell ⟨gb424, 1, none⟩ (.int .i64 t418)).setCell ⟨gb424, 2, none⟩ (.int .i64 t419)).setCell ⟨gb424, 3, none⟩ (.int .i64 t420)).setCell ⟨gb424, 4, none⟩ (.int .i64 t421)).setCell ⟨gb424, 5, none⟩ (.int .i64 t422)) w.heap.size (fun _ => True) u11 x11_1) := ⟨by (with_reducible repeat (first | apply Kd.R_alloc | apply Kd.R_drewN | apply Kd.R_drew)); exact Kd.R_mono (Zf gb424 5 (Zf gb424 4 (Zf gb424 3 (Zf gb424 2 (Zf gb424 1 (Zf gb424 0 (Kd.R_types HO_11.out BK424.out (by decide)) (.string t417)) (.int .i64 t418)) (.int .i64 t419)) (.int .i64 t420)) (.int .i64 t421)) (.int .i64 t422)) (fun _ hk => trivial)⟩
        have n1_ : Aside0 (Kd.R k46 46 ((((((w22.setCell ⟨gb424, 0, none⟩ (.string t417)).setCell ⟨gb424, 1, none⟩ (.int .i64 t418)).setCell ⟨gb424, 2, none⟩ (.int .i64 t419)).setCell ⟨gb424, 3, none⟩ (.int .i64 t420)).setCell ⟨gb424, 4, none⟩ (.int .i64 t421)).setCell ⟨gb424, 5, none⟩ (.int .i64 t422)) w.heap.size (fun _ => True) (.slice (some ad416) t411.length co17) t411) := ⟨by (with_reducible repeat (first | apply Kd.R_alloc | apply Kd.R_drewN | apply Kd.R_drew)); exact Kd.R_mono (Zf gb424 5 (Zf gb424 4 (Zf gb424 3 (Zf gb424 2 (Zf gb424 1 (Zf gb424 0 (Kd.R_types HO_12.out BK424.out (by decide)) (.string t417)) (.int .i64 t418)) (.int .i64 t419)) (.int .i64 t420)) (.int .i64 t421)) (.int .i64 t422)) (fun _ hk => trivial)⟩
        have n2_ : Aside0 (((((((w22.setCell ⟨gb424, 0, none⟩ (.string t417)).setCell ⟨gb424, 1, none⟩ (.int .i64 t418)).setCell ⟨gb424, 2, none⟩ (.int .i64 t419)).setCell ⟨gb424, 3, none⟩ (.int .i64 t420)).setCell ⟨gb424, 4, none⟩ (.int .i64 t421)).setCell ⟨gb424, 5, none⟩ (.int .i64 t422)).heap[gb405]? = some (.cells #[.string a1_0, .string a1_1] 44 (0, 0))) := ⟨Zg6 BK405.out NB405_424.out NB405_424.out NB405_424.out NB405_424.out NB405_424.out NB405_424.out⟩
        have n3_ : Aside0 (((((((w22.setCell ⟨gb424, 0, none⟩ (.string t417)).setCell ⟨gb424, 1, none⟩ (.int .i64 t418)).setCell ⟨gb424, 2, none⟩ (.int .i64 t419)).setCell ⟨gb424, 3, none⟩ (.int .i64 t420)).setCell ⟨gb424, 4, none⟩ (.int .i64 t421)).setCell ⟨gb424, 5, none⟩ (.int .i64 t422)).heap[gb424]? = some (.cells #[.string t417, .int .i64 t418, .int .i64 t419, .int .i64 t420, .int .i64 t421, .int .i64 t422] 84 (0, 0))) := ⟨Zp2 BK424.out⟩
        have n4_ : Aside0 (Below w.heap.size w ((((((w22.setCell ⟨gb424, 0, none⟩ (.string t417)).setCell ⟨gb424, 1, none⟩ (.int .i64 t418)).setCell ⟨gb424, 2, none⟩ (.int .i64 t419)).setCell ⟨gb424, 3, none⟩ (.int .i64 t420)).setCell ⟨gb424, 4, none⟩ (.int .i64 t421)).setCell ⟨gb424, 5, none⟩ (.int .i64 t422))) := ⟨Zc2 GE405.out GE424.out⟩
        (try clear HO_11)
        (try clear HO_12)
        (try clear BK405)
        (try clear BK424)
        (try clear HB)
        generalize ((((((w22.setCell ⟨gb424, 0, none⟩ (.string t417)).setCell ⟨gb424, 1, none⟩ (.int .i64 t418)).setCell ⟨gb424, 2, none⟩ (.int .i64 t419)).setCell ⟨gb424, 3, none⟩ (.int .i64 t420)).setCell ⟨gb424, 4, none⟩ (.int .i64 t421)).setCell ⟨gb424, 5, none⟩ (.int .i64 t422)) = w27 at n0_ n1_ n2_ n3_ n4_ ⊢
        have HO_11 := n0_
        have HO_12 := n1_
        have BK405 := n2_
        have BK424 := n3_
        have HB := n4_
        clear n0_ n1_ n2_ n3_ n4_
        replace HO_11 := Aside0.mk (Kd.R_drew HO_11.out)
        replace HO_12 := Aside0.mk (Kd.R_drew HO_12.out)
        replace BK405 := Aside0.mk (Qad BK405.out)
        replace BK424 := Aside0.mk (Qad BK424.out)
        replace HB := Aside0.mk (Qah HB.out)
        have p425 : 0 ≤ (x13_1 : Int) := Ze
        have q425 : x13_1 < (t411.length : Int) := Ze
        obtain ⟨ad425, e425, hx425_0, hx425_1, hx425_2, hx425_3⟩ := at_T46 (Kd.R_reads' HO_12.out).2.2 x13_1 p425 q425
        obtain rfl : ad416 = ad425 := (by injection e425)
        replace p425 := eq_true p425
        replace q425 := eq_true q425
        refine start_ (n := 13) (S := fun w' => w'.cell? ⟨gb424, 0, none⟩ = some (.string t417) ∧ w'.cell? ⟨gb424, 1, none⟩ = some (.int .i64 t418) ∧ w'.cell? ⟨gb424, 2, none⟩ = some (.int .i64 t419) ∧ w'.cell? ⟨gb424, 3, none⟩ = some (.int .i64 t420) ∧ w'.cell? ⟨gb424, 4, none⟩ = some (.int .i64 t421) ∧ w'.cell? ⟨gb424, 5, none⟩ = some (.int .i64 t422) ∧ w'.cell? (ad416.add ((x13_1).toNat * 4)) = some (.string ((rd_T46 t411 x13_1).f0.f0)) ∧ w'.cell? ⟨(ad416.add ((x13_1).toNat * 4)).block, (ad416.add ((x13_1).toNat * 4)).off + 1, none⟩ = some (.string ((rd_T46 t411 x13_1).f0.f1)) ∧ w'.cell? ⟨(ad416.add ((x13_1).toNat * 4)).block, (ad416.add ((x13_1).toNat * 4)).off + 2, none⟩ = some (.string ((rd_T46 t411 x13_1).f1)) ∧ w'.cell? ⟨(ad416.add ((x13_1).toNat * 4)).block, (ad416.add ((x13_1).toNat * 4)).off + 3, none⟩ = some (.int .i64 ((rd_T46 t411 x13_1).f2))) (ds := []) #[F, F, F, F, F, F, F, F, F, F, F, F, F] (by kernel_rfl) rfl rfl ⟨(Qai BK424.out 0).trans rfl, (Qai BK424.out 1).trans rfl, (Qai BK424.out 2).trans rfl, (Qai BK424.out 3).trans rfl, (Qai BK424.out 4).trans rfl, (Qai BK424.out 5).trans rfl, hx425_0, hx425_1, hx425_2, hx425_3⟩ (fun hHeld => ?_); refine QbV Qay.tab15 Qay.bits15 (fun HT_ HW_ => ?_)
        generalize w27.drew = w28 at HO_11 HO_12 BK405 BK424 HB hx425_0 hx425_1 hx425_2 hx425_3 hHeld ⊢
        refine pure_ (i := 1) (N := some 52) (v := ?_) (a' := ?_) #[F, T, F, F, F, F, F, F, F, F, F, F, F] rfl rfl (any_of HT_.out (by kernel_rfl)) (fun _ _ _ h => h) (Or.inl ⟨by rfl, ?_⟩) ?_ ?_
        rotate_left
        ·intro w'
         go_simp
         with_reducible rfl
        rotate_left
        ·simp only [Act.put, Zj, Zk, Zm, i64_w, i32_w]
         rfl
        refine pure_ (i := 2) (N := some 53) (v := ?_) (a' := ?_) #[F, T, T, F, F, F, F, F, F, F, F, F, F] rfl rfl (any_of HT_.out (by kernel_rfl)) (fun _ _ _ h => h) (Or.inl ⟨by rfl, ?_⟩) ?_ ?_
        rotate_left
        ·intro w'
         go_simp
         with_reducible rfl
        rotate_left
        ·simp only [Act.put, Zj, Zk, Zm, i64_w, i32_w]
         rfl
        refine pure_ (i := 3) (N := some 54) (v := ?_) (a' := ?_) #[F, T, T, T, F, F, F, F, F, F, F, F, F] rfl rfl (any_of HT_.out (by kernel_rfl)) (fun _ _ _ h => h) (Or.inl ⟨by rfl, ?_⟩) ?_ ?_
        rotate_left
        ·intro w'
         go_simp
         with_reducible rfl
        rotate_left
        ·simp only [Act.put, Zj, Zk, Zm, i64_w, i32_w]
         rfl
        refine pure_ (i := 4) (N := some 55) (v := ?_) (a' := ?_) #[F, T, T, T, T, F, F, F, F, F, F, F, F] rfl rfl (any_of HT_.out (by kernel_rfl)) (fun _ _ _ h => h) (Or.inl ⟨by rfl, ?_⟩) ?_ ?_
        rotate_left
        ·intro w'
         go_simp
         with_reducible rfl
        rotate_left
        ·simp only [Act.put, Zj, Zk, Zm, i64_w, i32_w]
         rfl
        refine pure_ (i := 6) (N := some 57) (v := ?_) (a' := ?_) #[F, T, T, T, T, F, T, F, F, F, F, F, F] rfl rfl (any_of HT_.out (by kernel_rfl)) (fun _ _ _ h => h) (Or.inl ⟨by rfl, ?_⟩) ?_ ?_
        rotate_left
        ·intro w'
         go_simp
         with_reducible rfl
        rotate_left
        ·simp only [Act.put, Zj, Zk, Zm, i64_w, i32_w]
         rfl
        refine take_ (i := 0) (N := some 51) (v := ?_) (a' := ?_) #[T, T, T, T, T, F, T, F, F, F, F, F, F] rfl rfl (QbI HT_.out HW_.out (by kernel_rfl)) (fun _ _ _ h => h) (Or.inl ⟨by rfl, ?_⟩) hHeld ?_ ?_
        rotate_left
        ·rintro w' ⟨s0, s1, s2, s3, s4, s5, s6, s7, s8, s9⟩
         go_simp
         with_reducible rfl
        rotate_left
        ·simp only [Act.put, Zj, Zk, Zm, i64_w, i32_w]
         rfl
        refine take_ (i := 5) (N := some 56) (v := ?_) (a' := ?_) #[T, T, T, T, T, T, T, F, F, F, F, F, F] rfl rfl (QbI HT_.out HW_.out (by kernel_rfl)) (fun _ _ _ h => h) (Or.inl ⟨by rfl, ?_⟩) hHeld ?_ ?_
        rotate_left
        ·rintro w' ⟨s0, s1, s2, s3, s4, s5, s6, s7, s8, s9⟩
         go_simp
         with_reducible rfl
        rotate_left
        ·simp only [Act.put, Zj, Zk, Zm, i64_w, i32_w]
         rfl
        refine one_ (i := 7) (N := some 58) #[T, T, T, T, T, T, T, T, F, F, F, F, F] rfl rfl (one_of HT_.out (by kernel_rfl)) (by decide) (fun K hK => ?_)
        refine goes_ Try.func42 (by kernel_rfl) rfl #[.agg #[.string t417, .int .i64 t418, .int .i64 t419, .int .i64 t420, .int .i64 t421, .int .i64 t422], .int .i64 ((rd_T46 t411 x13_1).f2), .slice A3 l3.length c3] (by rfl) rfl rfl (Zl) ?_
        with_reducible refine (Qa9.calls k1 t417 t418 t419 t420 t421 t422 ((rd_T46 t411 x13_1).f2) _ _ l3 t426 t427 _ ?side1 ?side2 A26.out).mono ?_
        (case side1 => exact Zv (Kd.C_below HR3.out HB.out))
        (case side2 => exact HC3.out)
        rintro e w29 ⟨rfl, hb⟩
        have HS6_ := (hb.cell (World.block_lt_of_cell? _ _ (hHeld.2.2.2.2.2.2.1))).trans (hHeld.2.2.2.2.2.2.1)
        have HS7_ := (hb.cell (World.block_lt_of_cell? _ _ (hHeld.2.2.2.2.2.2.2.1))).trans (hHeld.2.2.2.2.2.2.2.1)
        have HS8_ := (hb.cell (World.block_lt_of_cell? _ _ (hHeld.2.2.2.2.2.2.2.2.1))).trans (hHeld.2.2.2.2.2.2.2.2.1)
        have HS9_ := (hb.cell (World.block_lt_of_cell? _ _ (hHeld.2.2.2.2.2.2.2.2.2))).trans (hHeld.2.2.2.2.2.2.2.2.2)
        refine ⟨_, rfl, ?_⟩
        replace HO_11 := Aside0.mk (Kd.R_below (Zr HO_11.out) hb)
        replace HO_12 := Aside0.mk (Kd.R_below (Zr HO_12.out) hb)
        replace BK405 := Aside0.mk (Zi BK405.out hb)
        replace BK424 := Aside0.mk (Zi BK424.out hb)
        replace HB := Aside0.mk (Qao (Zc2 GE405.out GE424.out) hb)
        (try clear hb)
        (try clear hb2)
        (try clear hk)
        (try clear hi)
        refine hK.out _ _ ⟨(Qai BK424.out 0).trans rfl, (Qai BK424.out 1).trans rfl, (Qai BK424.out 2).trans rfl, (Qai BK424.out 3).trans rfl, (Qai BK424.out 4).trans rfl, (Qai BK424.out 5).trans rfl, HS6_, HS7_, HS8_, HS9_⟩ (fun hHeld => ?_)
        clear hK K
        refine norm_ (a' := ?_) ?_ ?_
        rotate_left
        ·show Act.put _ (some 58) _ = _
         simp only [Act.put, Zj, Zk, Zm, i64_w, i32_w]
         rfl
        refine pure_ (i := 8) (N := some 50) (v := ?_) (a' := ?_) #[T, T, T, T, T, T, T, T, T, F, F, F, F] rfl rfl (any_of HT_.out (by kernel_rfl)) (fun _ _ _ h => h) (Or.inl ⟨by rfl, ?_⟩) ?_ ?_
        rotate_left
        ·intro w'
         go_simp
         with_reducible rfl
        rotate_left
        ·simp only [Act.put, Zj, Zk, Zm, i64_w, i32_w]
         rfl
        refine pure_ (i := 9) (N := some 59) (v := ?_) (a' := ?_) #[T, T, T, T, T, T, T, T, T, T, F, F, F] rfl rfl (any_of HT_.out (by kernel_rfl)) (fun _ _ _ h => h) (Or.inl ⟨by rfl, ?_⟩) ?_ ?_
        rotate_left
        ·intro w'
         go_simp
         with_reducible rfl
        rotate_left
        ·simp only [Act.put, Zj, Zk, Zm, i64_w, i32_w]
         rfl
        refine pure_ (i := 10) (N := some 60) (v := ?_) (a' := ?_) #[T, T, T, T, T, T, T, T, T, T, T, F, F] rfl rfl (any_of HT_.out (by kernel_rfl)) (fun _ _ _ h => h) (Or.inl ⟨by rfl, ?_⟩) ?_ ?_
        rotate_left
        ·intro w'
         go_simp
         with_reducible rfl
        rotate_left
        ·simp only [Act.put, Zj, Zk, Zm, i64_w, i32_w]
         rfl
        refine pure_ (i := 11) (N := some 16) (v := ?_) (a' := ?_) #[T, T, T, T, T, T, T, T, T, T, T, T, F] rfl rfl (any_of HT_.out (by kernel_rfl)) (fun _ _ _ h => h) (Or.inl ⟨by rfl, ?_⟩) ?_ ?_
        rotate_left
        ·intro w'
         go_simp
         with_reducible rfl
        rotate_left
        ·simp only [Act.put, Zj, Zk, Zm, i64_w, i32_w]
         rfl
        refine pure_ (i := 12) (N := some 17) (v := ?_) (a' := ?_) #[T, T, T, T, T, T, T, T, T, T, T, T, T] rfl rfl (any_of HT_.out (by kernel_rfl)) (fun _ _ _ h => h) (Or.inl ⟨by rfl, ?_⟩) ?_ ?_
        rotate_left
        ·intro w'
         go_simp
         with_reducible rfl
        rotate_left
        ·simp only [Act.put, Zj, Zk, Zm, i64_w, i32_w]
         rfl
        refine done_ (Qb4 HT_.out (by kernel_rfl)) ?_
        go_upto_if 62 with (fail)
        by_cases c30 : t427 = 0
        ·rw [if_pos c30] at H
         have c30b0 : (t427 == 0) = T := beq_iff_eq.mpr c30
         have c30b1 : (t427 != 0) = F := bne_eq_false_iff_eq.mpr c30
         clear c30
         (try simp only [c30b0, c30b1])
         by_cases c31 : x11_1.length < 17592186044416
         ·rw [if_pos c31] at H
          have LMc31 := Aside0.mk c31
          clear c31
          obtain ⟨y428, hy428⟩ : ∃ y_ : List Int, y_ = (x11_1 ++ [t426]) := ⟨_, rfl⟩
          replace H : (Qay.l0 k1 l2 l3 y428 t411 (wrap64 (x13_1 + 1))) = some (r1, r2) := by first | (rw [hy428]; with_reducible exact H) | (have H2_ := (Option.bind_some _ _).symm.trans H; rw [hy428]; with_reducible exact H2_) | (have H2_ := (Option.bind_some _ _).symm.trans H; with_reducible exact H2_) | with_reducible exact H | (rw [hy428]; exact H) | exact H
          have Ny428 := Aside0.mk hy428
          clear hy428
          have H' := Aside0.mk H
          clear H
          go_wp2_with (first | ((with_reducible refine QbT (b := .append) (xs := #[.tmp 64, .tmp 66]) rfl ?_); at_builtin; refine Kd.R_append (Kd.int .i64) (w0 := w) w.heap.size rfl (.tmp 64) (.tmp 66) 63 3 (.int .i64 0) 8 rfl Try.underlying63 info3 rfl (by decide) (by omega) u11 x11_1 t426 [.int .i64 t426] (fun _ => True) (fun _ => False) rfl rfl ?aP (fun _ hk => hk.elim) ?aF ?aO ?aB ?aS ?aL ?_; (case aP => exact rfl); (case aB => exact (Zc2 GE405.out GE424.out)); (case aF => exact (fun _ _ => trivial)); (case aO => exact (Zr HO_11.out)); (case aS => exact (Qam (Zc2 GE405.out GE424.out))); (case aL => have := LMc31.out; omega); intro v429 w32 ho hb hg hat; rw [← Ny428.out] at ho; have HO430 := Aside0.mk (ho); replace HO_12 := Aside0.mk (Kd.R_over' (Zr HO_12.out) (Kd.R_typed (Zr HO_11.out)) (by decide) hg); replace BK405 := Aside0.mk (Qbk (g := gb405) (o := .cells #[.string a1_0, .string a1_1] 44 (0, 0)) (Zu BK405.out) hg (Kd.R_ne HO_11.out BK405.out (by decide))); replace BK424 := Aside0.mk (Qbk (g := gb424) (o := .cells #[.string t417, .int .i64 t418, .int .i64 t419, .int .i64 t420, .int .i64 t421, .int .i64 t422] 84 (0, 0)) (Zu BK424.out) hg (Kd.R_ne HO_11.out BK424.out (by decide))); replace HB := Aside0.mk (hb); clear HO_11; clear ho hb hg hat))
          go_roundg k1
          case measure => have := HK1.out; omega
          case rel => exact ⟨(y428), (wrap64 (x13_1 + 1)), (Zs), H', ⟨by have := HK1.out; omega⟩, ⟨Zr HO430.out⟩, ⟨Zr HO_12.out⟩, ⟨Zu BK405.out⟩, ⟨Zc2 GE405.out GE424.out⟩⟩
         rw [if_neg c31] at H
         exact absurd H (by simp)
        rw [if_neg c30] at H
        have c30b0 : (t427 == 0) = F := beq_eq_false_iff_ne.mpr c30
        have c30b1 : (t427 != 0) = T := bne_iff_ne.mpr c30
        (try simp only [c30b0, c30b1])
        simp only [Option.some.injEq, Prod.mk.injEq] at H
        obtain ⟨rfl, rfl⟩ := H
        go_wp2
        go_ret2
        exact ⟨Zq, Zc2 GE405.out GE424.out⟩
       replace c25 := Bool.eq_false_iff.mpr c25
       subst c25
       have H1 : (some (0, 11)) = some (r1, r2) := by rw [if_neg (show ¬ (F = T) by decide)] at H; exact H
       clear H
       have H := H1
       clear H1
       simp only [Option.some.injEq, Prod.mk.injEq] at H
       obtain ⟨rfl, rfl⟩ := H
       go_wp2
       go_ret2
       exact ⟨Zq, Zc2 GE405.out GE424.out⟩
      rw [if_neg c19] at H
      exact absurd H (by simp)
     rw [if_neg c18] at H
     have c18b0 : decide (x13_1 < (t411.length : Int)) = F := decide_eq_false c18
     clear c18
     (try simp only [c18b0])
     replace H := Option.bind_eq_some_iff.mp H
     obtain ⟨⟨t414, t415⟩, A330, H⟩ := H
     replace H : (some (t414, t415)) = some (r1, r2) := H
     have A33 := Aside0.mk A330
     clear A330
     simp only [Option.some.injEq, Prod.mk.injEq] at H
     obtain ⟨rfl, rfl⟩ := H
     obtain ⟨Ao34, co34, eo34⟩ := Kd.R_slice HO_11.out
     subst eo34
     go_wp2_with (first | ((with_reducible refine Qax (f := 60) rfl ?_); refine goesL_ (some 69) rfl rfl Try.func60 (by kernel_rfl) rfl #[.slice Ao34 x11_1.length co34] rfl (Zl) ?_; (with_reducible refine (Qa1.calls k1 _ _ x11_1 t414 t415 _ ?side1 ?side2 A33.out).mono ?_); (case side1 => exact Zv (Kd.R_reads' HO_11.out).2.2); (case side2 => exact (Kd.R_reads' HO_11.out).2.1); rintro e w' ⟨rfl, ⟨nd, rfl⟩⟩; refine ⟨_, rfl, ?_⟩))
     go_ret2
     exact ⟨Zq, Zc1 GE405.out⟩
  rw [if_neg c11] at H
  have c11b0 : (t407 == 0) = F := beq_eq_false_iff_ne.mpr c11
  have c11b1 : (t407 != 0) = T := bne_iff_ne.mpr c11
  (try simp only [c11b0, c11b1])
  simp only [Option.some.injEq, Prod.mk.injEq] at H
  obtain ⟨rfl, rfl⟩ := H
  go_wp2
  go_ret2
  exact ⟨Zq, Zc1 GE405.out⟩
 rw [if_neg c8] at H
 have c8b0 : (t406 == 0) = F := beq_eq_false_iff_ne.mpr c8
 have c8b1 : (t406 != 0) = T := bne_iff_ne.mpr c8
 (try simp only [c8b0, c8b1])
 simp only [Option.some.injEq, Prod.mk.injEq] at H
 obtain ⟨rfl, rfl⟩ := H
 go_wp2
 go_ret2
 exact ⟨Zq, Zc1 GE405.out⟩
def QaR.l0 : Nat → ByteArray → List (S84) → Int → Int → Option (ByteArray × Int × Int × Int × Int × Int × Bool)
 | 0, _, _, _, _ => none
 | k + 1, x1, x11, x12, x13 => if x13 < x12 then (if 0 ≤ x13 then (if x13 < (x11.length : Int) then ((Qca.f ((rd_T84 x11 x13).f0) ((rd_T84 x11 x13).f1) ((rd_T84 x11 x13).f2) ((rd_T84 x11 x13).f3) ((rd_T84 x11 x13).f4) ((rd_T84 x11 x13).f5)).bind fun t107 => (if t107.toList = x1.toList then (some ((rd_T84 x11 x13).f0, (rd_T84 x11 x13).f1, (rd_T84 x11 x13).f2, (rd_T84 x11 x13).f3, (rd_T84 x11 x13).f4, (rd_T84 x11 x13).f5, T)) else (QaR.l0 k x1 x11 x12 (wrap64 (x13 + 1))))) else (none)) else (none)) else (some ((⟨#[]⟩ : ByteArray), 0, 0, 0, 0, 0, F))
def QaR.f (k : Nat) (l0 : List (S84)) (a1 : ByteArray)  : Option (ByteArray × Int × Int × Int × Int × Int × Bool) := QaR.l0 k a1 l0 (l0.length : Int) 0
theorem QaR.mono_l : ∀ k, (∀ y0 y1 y2 y3, LeO (QaR.l0 k y0 y1 y2 y3) (QaR.l0 (k + 1) y0 y1 y2 y3))
 | 0 => fun _ _ _ _ r h => by simp [QaR.l0] at h
 | k + 1 => by
  have ih0 := QaR.mono_l k
  intro y0 y1 y2 y3
  unfold QaR.l0
  exact ZM1 ih0
theorem QaR.mono : ∀ a0 a1 k, LeO (QaR.f k a0 a1) (QaR.f (k + 1) a0 a1) := by
 intro a0 a1 k
 have ih0 := QaR.mono_l k
 unfold QaR.f
 exact ZM1 ih0
set_option maxHeartbeats 8000000 in
theorem QaR.calls (k : Nat) (A0 : Option Addr) (c0 : Nat) (l0 : List (S84)) (a1 : ByteArray)  (r1 : ByteArray) (r2 : Int) (r3 : Int) (r4 : Int) (r5 : Int) (r6 : Int) (r7 : Bool) (w : World) (hr0 : Kd.C k84 w A0 l0.length l0) (hc0 : l0.length ≤ c0) (h : QaR.f k l0 a1 = some (r1, r2, r3, r4, r5, r6, r7)) :
  Calls Try.prog 76 #[.slice A0 l0.length c0, .string a1, .func (.func 77) #[] #[]] w fun e w' => e = .returned (.tuple #[.agg #[.string r1, .int .i64 r2, .int .i64 r3, .int .i64 r4, .int .i64 r5, .int .i64 r6], .bool r7]) ∧ Below w.heap.size w w' := by
 have hu84 := Try.underlying84
 have HR0 := Aside0.mk hr0
 have HC0 := Aside0.mk hc0
 clear hr0 hc0
 have HB := Aside0.mk (Below.refl w.heap.size w)
 have H : (QaR.l0 k a1 l0 (l0.length : Int) 0) = some (r1, r2, r3, r4, r5, r6, r7) := h
 clear h
 have H' := Aside0.mk H
 clear H
 go_enter Try.func76, Try.ntmps76
 go_wp2_with (first | ((with_reducible refine QaJ (N := 6) rfl ?_); refine Zbx (N := 6) (cs := #[.string (⟨#[]⟩ : ByteArray), .int .i64 0, .int .i64 0, .int .i64 0, .int .i64 0, .int .i64 0]) (t := 84) ?_; intro gb104 hg w4 hbox hb; have BK104 := Aside0.mk (hbox); have GW104 := Aside0.mk (Zt w hg (Zb)); have GE104 := GW104; replace HB := Aside0.mk (Qao (Zb) hb); clear hb hbox hg))
 go_loopg [13] k (fun kq v13 w' => ∃ (x13_1 : Int) (x105000_1 : ByteArray) (x105001_1 : Int) (x105002_1 : Int) (x105003_1 : Int) (x105004_1 : Int) (x105005_1 : Int), v13 = .int .i64 x13_1 ∧ Aside0 (QaR.l0 kq a1 l0 (l0.length : Int) x13_1 = some (r1, r2, r3, r4, r5, r6, r7)) ∧ Aside0 (kq ≤ k) ∧ Aside0 (w'.heap[gb104]? = some (.cells #[.string x105000_1, .int .i64 x105001_1, .int .i64 x105002_1, .int .i64 x105003_1, .int .i64 x105004_1, .int .i64 x105005_1] 84 (0, 0))) ∧ Aside0 (Below w.heap.size w w'))
 case atStart => exact ⟨(0), ((⟨#[]⟩ : ByteArray)), (0), (0), (0), (0), (0), (Zs), H', ⟨Nat.le_refl _⟩, ⟨Zu BK104.out⟩, ⟨Zc1 GE104.out⟩⟩
 case round =>
  clear H'
  try clear p2
  obtain ⟨x13_1, x105000_1, x105001_1, x105002_1, x105003_1, x105004_1, x105005_1, rfl, HA, HK1, BK104, HB⟩ := hrel
  cases gk with
  | zero => exact absurd HA.out (by simp [QaR.l0])
  | succ k1 =>
   have H := HA.out
   clear HA
   simp only [QaR.l0] at H
   by_cases c5 : x13_1 < (l0.length : Int)
   ·rw [if_pos c5] at H
    have c5b0 : decide (x13_1 < (l0.length : Int)) = T := decide_eq_true c5
    clear c5
    (try simp only [c5b0])
    by_cases c6 : 0 ≤ x13_1
    ·rw [if_pos c6] at H
     have c6b0 : decide (0 ≤ x13_1) = T := decide_eq_true c6
     clear c6
     by_cases c7 : x13_1 < (l0.length : Int)
     ·rw [if_pos c7] at H
      have c7b0 : decide (x13_1 < (l0.length : Int)) = T := decide_eq_true c7
      clear c7
      replace H := Option.bind_eq_some_iff.mp H
      obtain ⟨t107, A80, H⟩ := H
      replace H : (if t107.toList = a1.toList then (some ((rd_T84 l0 x13_1).f0, (rd_T84 l0 x13_1).f1, (rd_T84 l0 x13_1).f2, (rd_T84 l0 x13_1).f3, (rd_T84 l0 x13_1).f4, (rd_T84 l0 x13_1).f5, T)) else (QaR.l0 k1 a1 l0 (l0.length : Int) (wrap64 (x13_1 + 1)))) = some (r1, r2, r3, r4, r5, r6, r7) := H
      have A8 := Aside0.mk A80
      clear A80
      have p105 : 0 ≤ (x13_1 : Int) := Ze
      have q105 : x13_1 < (l0.length : Int) := Ze
      obtain ⟨ad105, e105, hx105_0, hx105_1, hx105_2, hx105_3, hx105_4, hx105_5⟩ := at_T84 HR0.out x13_1 p105 q105
      cases e105
      replace hx105_0 := Zx HB.out hx105_0
      replace hx105_1 := Zx HB.out hx105_1
      replace hx105_2 := Zx HB.out hx105_2
      replace hx105_3 := Zx HB.out hx105_3
      replace hx105_4 := Zx HB.out hx105_4
      replace hx105_5 := Zx HB.out hx105_5
      replace p105 := eq_true p105
      replace q105 := eq_true q105
      go_upto_if 21 with (first | ((with_reducible refine QaJ (N := 9) rfl ?_); refine Zbx (N := 9) (cs := #[.string (⟨#[]⟩ : ByteArray), .int .i64 0, .int .i64 0, .int .i64 0, .int .i64 0, .int .i64 0]) (t := 84) ?_; intro gb106 hg w9 hbox hb; have BK106 := Aside0.mk (hbox); have GW106 := Aside0.mk (Zt w hg (Zc1 GE104.out)); have GE106 := GW106; have NB104_106 := Aside0.mk (Zn hg BK104.out); have NB106_104 := Aside0.mk NB104_106.out.symm; replace BK104 := Aside0.mk (Zi BK104.out hb); replace HB := Aside0.mk (Qao (Zc1 GE104.out) hb); clear hb hbox hg; have hnb10 := NB106_104.out; have hnc10 := NB104_106.out; obtain ⟨hcz11_0, hfz11_0⟩ := Zy (v := (.string (⟨#[]⟩ : ByteArray))) BK106.out 0; obtain ⟨hcz11_1, hfz11_1⟩ := Zy (v := (.int .i64 0)) BK106.out 1; obtain ⟨hcz11_2, hfz11_2⟩ := Zy (v := (.int .i64 0)) BK106.out 2; obtain ⟨hcz11_3, hfz11_3⟩ := Zy (v := (.int .i64 0)) BK106.out 3; obtain ⟨hcz11_4, hfz11_4⟩ := Zy (v := (.int .i64 0)) BK106.out 4; obtain ⟨hcz11_5, hfz11_5⟩ := Zy (v := (.int .i64 0)) BK106.out 5) | (go_at_call 77; (with_reducible refine (Qca.calls ((rd_T84 l0 x13_1).f0) ((rd_T84 l0 x13_1).f1) ((rd_T84 l0 x13_1).f2) ((rd_T84 l0 x13_1).f3) ((rd_T84 l0 x13_1).f4) ((rd_T84 l0 x13_1).f5) t107 _ A8.out).mono ?_); rintro e w12 ⟨rfl, hb⟩; replace BK104 := Aside0.mk (Qal (g := gb104) (o := .cells #[.string x105000_1, .int .i64 x105001_1, .int .i64 x105002_1, .int .i64 x105003_1, .int .i64 x105004_1, .int .i64 x105005_1] 84 (0, 0)) (Zg6 BK104.out NB104_106.out NB104_106.out NB104_106.out NB104_106.out NB104_106.out NB104_106.out) hb); replace BK106 := Aside0.mk (Zpi #[.string ((rd_T84 l0 x13_1).f0), .int .i64 ((rd_T84 l0 x13_1).f1), .int .i64 ((rd_T84 l0 x13_1).f2), .int .i64 ((rd_T84 l0 x13_1).f3), .int .i64 ((rd_T84 l0 x13_1).f4), .int .i64 ((rd_T84 l0 x13_1).f5)] BK106.out hb); replace HB := Aside0.mk (Qao (Zc2 GE104.out GE106.out) hb); (try clear hb); (try clear hb2); (try clear hk); (try clear hi)))
      (try simp only [Act.put, Zj, Zk, Zm])
      by_cases c13 : t107.toList = a1.toList
      ·rw [if_pos c13] at H
       have c13b0 : (t107.toList == a1.toList) = T := beq_iff_eq.mpr c13
       have c13b1 : (t107.toList != a1.toList) = F := bne_eq_false_iff_eq.mpr c13
       clear c13
       (try simp only [c13b0, c13b1])
       simp only [Option.some.injEq, Prod.mk.injEq] at H
       obtain ⟨rfl, rfl, rfl, rfl, rfl, rfl, rfl⟩ := H
       have hnb14 := NB106_104.out
       have hnc14 := NB104_106.out
       obtain ⟨hcz15_0, hfz15_0⟩ := Zy (v := (.string ((rd_T84 l0 x13_1).f0))) BK106.out 0
       obtain ⟨hcz15_1, hfz15_1⟩ := Zy (v := (.int .i64 ((rd_T84 l0 x13_1).f1))) BK106.out 1
       obtain ⟨hcz15_2, hfz15_2⟩ := Zy (v := (.int .i64 ((rd_T84 l0 x13_1).f2))) BK106.out 2
       obtain ⟨hcz15_3, hfz15_3⟩ := Zy (v := (.int .i64 ((rd_T84 l0 x13_1).f3))) BK106.out 3
       obtain ⟨hcz15_4, hfz15_4⟩ := Zy (v := (.int .i64 ((rd_T84 l0 x13_1).f4))) BK106.out 4
       obtain ⟨hcz15_5, hfz15_5⟩ := Zy (v := (.int .i64 ((rd_T84 l0 x13_1).f5))) BK106.out 5
       obtain ⟨hcz16_0, hfz16_0⟩ := Zy (v := (.string x105000_1)) BK104.out 0
       obtain ⟨hcz16_1, hfz16_1⟩ := Zy (v := (.int .i64 x105001_1)) BK104.out 1
       obtain ⟨hcz16_2, hfz16_2⟩ := Zy (v := (.int .i64 x105002_1)) BK104.out 2
       obtain ⟨hcz16_3, hfz16_3⟩ := Zy (v := (.int .i64 x105003_1)) BK104.out 3
       obtain ⟨hcz16_4, hfz16_4⟩ := Zy (v := (.int .i64 x105004_1)) BK104.out 4
       obtain ⟨hcz16_5, hfz16_5⟩ := Zy (v := (.int .i64 x105005_1)) BK104.out 5
       go_wp2
       refine bodyPost_ret (QbX rfl _ _ gb104 84 #[.string ((rd_T84 l0 x13_1).f0), .int .i64 ((rd_T84 l0 x13_1).f1), .int .i64 ((rd_T84 l0 x13_1).f2), .int .i64 ((rd_T84 l0 x13_1).f3), .int .i64 ((rd_T84 l0 x13_1).f4), .int .i64 ((rd_T84 l0 x13_1).f5)] (0, 0) _ rfl (Zp2 BK104.out) Try.underlying84 rfl (by kernel_rfl)) rfl ?_
       exact ⟨Zq, Zc2 GE104.out GE106.out⟩
      rw [if_neg c13] at H
      have c13b0 : (t107.toList == a1.toList) = F := beq_eq_false_iff_ne.mpr c13
      have c13b1 : (t107.toList != a1.toList) = T := bne_iff_ne.mpr c13
      (try simp only [c13b0, c13b1])
      have H' := Aside0.mk H
      clear H
      go_wp2
      go_roundg k1
      case measure => have := HK1.out; omega
      case rel => exact ⟨(wrap64 (x13_1 + 1)), (x105000_1), (x105001_1), (x105002_1), (x105003_1), (x105004_1), (x105005_1), (Zs), H', ⟨by have := HK1.out; omega⟩, ⟨Zu BK104.out⟩, ⟨Zc2 GE104.out GE106.out⟩⟩
     rw [if_neg c7] at H
     exact absurd H (by simp)
    rw [if_neg c6] at H
    exact absurd H (by simp)
   rw [if_neg c5] at H
   have c5b0 : decide (x13_1 < (l0.length : Int)) = F := decide_eq_false c5
   clear c5
   (try simp only [c5b0])
   simp only [Option.some.injEq, Prod.mk.injEq] at H
   obtain ⟨rfl, rfl, rfl, rfl, rfl, rfl, rfl⟩ := H
   go_wp2_with (first | ((with_reducible refine QaJ (N := 10) rfl ?_); refine Zbx (N := 10) (cs := #[.string (⟨#[]⟩ : ByteArray), .int .i64 0, .int .i64 0, .int .i64 0, .int .i64 0, .int .i64 0]) (t := 84) ?_; intro gb108 hg w17 hbox hb; have BK108 := Aside0.mk (hbox); have GW108 := Aside0.mk (Zt w hg (Zc1 GE104.out)); have GE108 := GW108; have NB104_108 := Aside0.mk (Zn hg BK104.out); have NB108_104 := Aside0.mk NB104_108.out.symm; replace BK104 := Aside0.mk (Zi BK104.out hb); replace HB := Aside0.mk (Qao (Zc1 GE104.out) hb); clear hb hbox hg; have hnb18 := NB108_104.out; have hnc18 := NB104_108.out; obtain ⟨hcz19_0, hfz19_0⟩ := Zy (v := (.string (⟨#[]⟩ : ByteArray))) BK108.out 0; obtain ⟨hcz19_1, hfz19_1⟩ := Zy (v := (.int .i64 0)) BK108.out 1; obtain ⟨hcz19_2, hfz19_2⟩ := Zy (v := (.int .i64 0)) BK108.out 2; obtain ⟨hcz19_3, hfz19_3⟩ := Zy (v := (.int .i64 0)) BK108.out 3; obtain ⟨hcz19_4, hfz19_4⟩ := Zy (v := (.int .i64 0)) BK108.out 4; obtain ⟨hcz19_5, hfz19_5⟩ := Zy (v := (.int .i64 0)) BK108.out 5; obtain ⟨hcz20_0, hfz20_0⟩ := Zy (v := (.string x105000_1)) BK104.out 0; obtain ⟨hcz20_1, hfz20_1⟩ := Zy (v := (.int .i64 x105001_1)) BK104.out 1; obtain ⟨hcz20_2, hfz20_2⟩ := Zy (v := (.int .i64 x105002_1)) BK104.out 2; obtain ⟨hcz20_3, hfz20_3⟩ := Zy (v := (.int .i64 x105003_1)) BK104.out 3; obtain ⟨hcz20_4, hfz20_4⟩ := Zy (v := (.int .i64 x105004_1)) BK104.out 4; obtain ⟨hcz20_5, hfz20_5⟩ := Zy (v := (.int .i64 x105005_1)) BK104.out 5))
   refine bodyPost_ret (QbX rfl _ _ gb104 84 #[.string (⟨#[]⟩ : ByteArray), .int .i64 0, .int .i64 0, .int .i64 0, .int .i64 0, .int .i64 0] (0, 0) _ rfl (Zp2 BK104.out) Try.underlying84 rfl (by kernel_rfl)) rfl ?_
   exact ⟨Zq, Zc2 GE104.out GE108.out⟩
def Qbe.f (k : Nat) (l0 : List (S84)) (a1 : ByteArray) : Option (ByteArray × Int × Int × Int × Int × Int × Bool) := (QaR.f k l0 a1).bind fun bt110 => (some (bt110.1, bt110.2.1, bt110.2.2.1, bt110.2.2.2.1, bt110.2.2.2.2.1, bt110.2.2.2.2.2.1, bt110.2.2.2.2.2.2))
theorem Qbe.mono : ∀ a0 a1 k, LeO (Qbe.f k a0 a1) (Qbe.f (k + 1) a0 a1) := by
 intro a0 a1 k
 unfold Qbe.f
 exact ZM1 QaR.mono
set_option maxHeartbeats 8000000 in
theorem Qbe.calls (k : Nat) (A0 : Option Addr) (c0 : Nat) (l0 : List (S84)) (a1 : ByteArray) (r1 : ByteArray) (r2 : Int) (r3 : Int) (r4 : Int) (r5 : Int) (r6 : Int) (r7 : Bool) (w : World) (hr0 : Kd.C k84 w A0 l0.length l0) (hc0 : l0.length ≤ c0) (h : Qbe.f k l0 a1 = some (r1, r2, r3, r4, r5, r6, r7)) :
  Calls Try.prog 48 #[.slice A0 l0.length c0, .string a1] w fun e w' => e = .returned (.tuple #[.agg #[.string r1, .int .i64 r2, .int .i64 r3, .int .i64 r4, .int .i64 r5, .int .i64 r6], .bool r7]) ∧ Below w.heap.size w w' := by
 have hu84 := Try.underlying84
 have HR0 := Aside0.mk hr0
 have HC0 := Aside0.mk hc0
 clear hr0 hc0
 have HB := Aside0.mk (Below.refl w.heap.size w)
 have H : ((QaR.f k l0 a1).bind fun bt110 => (some (bt110.1, bt110.2.1, bt110.2.2.1, bt110.2.2.2.1, bt110.2.2.2.2.1, bt110.2.2.2.2.2.1, bt110.2.2.2.2.2.2))) = some (r1, r2, r3, r4, r5, r6, r7) := h
 clear h
 replace H := Option.bind_eq_some_iff.mp H
 obtain ⟨⟨t110, t111, t112, t113, t114, t115, t116⟩, A30, H⟩ := H
 replace H : (some (t110, t111, t112, t113, t114, t115, t116)) = some (r1, r2, r3, r4, r5, r6, r7) := H
 have A3 := Aside0.mk A30
 clear A30
 simp only [Option.some.injEq, Prod.mk.injEq] at H
 obtain ⟨rfl, rfl, rfl, rfl, rfl, rfl, rfl⟩ := H
 go_enter Try.func48, Try.ntmps48
 go_wp2_with (first | ((with_reducible refine QaJ (N := 4) rfl ?_); refine Zbx (N := 4) (cs := #[.string (⟨#[]⟩ : ByteArray), .int .i64 0, .int .i64 0, .int .i64 0, .int .i64 0, .int .i64 0]) (t := 84) ?_; intro gb109 hg w4 hbox hb; have BK109 := Aside0.mk (hbox); have GW109 := Aside0.mk (Zt w hg (Zb)); have GE109 := GW109; replace HB := Aside0.mk (Qao (Zb) hb); clear hb hbox hg) | ((with_reducible refine Qax (f := 76) rfl ?_); refine goesL_ (some 8) rfl rfl Try.func76 (by kernel_rfl) rfl #[.slice A0 l0.length c0, .string a1, .func (.func 77) #[] #[]] rfl (Zl) ?_; (with_reducible refine (QaR.calls k _ _ l0 a1  t110 t111 t112 t113 t114 t115 t116 _ ?side1 ?side2 A3.out).mono ?_); (case side1 => exact Zv (Kd.C_below HR0.out HB.out)); (case side2 => exact HC0.out); rintro e w5 ⟨rfl, hb⟩; refine ⟨_, rfl, ?_⟩; replace BK109 := Aside0.mk (Zi BK109.out hb); replace HB := Aside0.mk (Qao (Zc1 GE109.out) hb); (try clear hb); (try clear hb2); (try clear hk); (try clear hi); obtain ⟨hcz6_0, hfz6_0⟩ := Zy (v := (.string (⟨#[]⟩ : ByteArray))) BK109.out 0; obtain ⟨hcz6_1, hfz6_1⟩ := Zy (v := (.int .i64 0)) BK109.out 1; obtain ⟨hcz6_2, hfz6_2⟩ := Zy (v := (.int .i64 0)) BK109.out 2; obtain ⟨hcz6_3, hfz6_3⟩ := Zy (v := (.int .i64 0)) BK109.out 3; obtain ⟨hcz6_4, hfz6_4⟩ := Zy (v := (.int .i64 0)) BK109.out 4; obtain ⟨hcz6_5, hfz6_5⟩ := Zy (v := (.int .i64 0)) BK109.out 5))
 refine bodyPost_ret (QbX rfl _ _ gb109 84 #[.string t110, .int .i64 t111, .int .i64 t112, .int .i64 t113, .int .i64 t114, .int .i64 t115] (0, 0) _ rfl (Zp2 BK109.out) Try.underlying84 rfl (by kernel_rfl)) rfl ?_
 exact ⟨Zq, Zc1 GE109.out⟩
mutual
def QaM.j0 : Nat → ByteArray → Bool → Option (Bool)
 | 0, _, _ => none
 | k + 1, x0, x16 => if x16 = T then (some F) else (QaM.l0 k x0 (x0.size : Int) 0)
def QaM.l0 : Nat → ByteArray → Int → Int → Option (Bool)
 | 0, _, _, _ => none
 | k + 1, x0, x18, x19 => if x19 < x18 then (if 0 ≤ x19 then (if x19 < (x0.size : Int) then ((QbS.f (bt x0 x19)).bind fun t120 => (if t120 = T then (QaM.l0 k x0 x18 (wrap64 (x19 + 1))) else ((QbZ.f (bt x0 x19)).bind fun t121 => (if t121 = T then (QaM.l0 k x0 x18 (wrap64 (x19 + 1))) else (some F))))) else (none)) else (none)) else (some T)
end
def QaM.f (k : Nat) (a0 : ByteArray) : Option (Bool) := if a0.toList = ([] : List UInt8) then (QaM.j0 k a0 T) else (if (a0.size : Int) > 12 then (QaM.j0 k a0 T) else (if 0 < (a0.size : Int) then ((QbS.f (bt a0 0)).bind fun t119 => (QaM.j0 k a0 (!t119))) else (none)))
theorem QaM.mono_l : ∀ k, (∀ y0 y1, LeO (QaM.j0 k y0 y1) (QaM.j0 (k + 1) y0 y1)) ∧ (∀ y0 y1 y2, LeO (QaM.l0 k y0 y1 y2) (QaM.l0 (k + 1) y0 y1 y2))
 | 0 => ⟨fun _ _ r h => by simp [QaM.j0] at h, fun _ _ _ r h => by simp [QaM.l0] at h⟩
 | k + 1 => by
  obtain ⟨ih0, ih1⟩ := QaM.mono_l k
  refine ⟨?_, ?_⟩
  ·intro y0 y1
   unfold QaM.j0
   exact ZM2 ih0 ih1
  intro y0 y1 y2
  unfold QaM.l0
  exact ZM2 ih0 ih1
theorem QaM.mono : ∀ a0 k, LeO (QaM.f k a0) (QaM.f (k + 1) a0) := by
 intro a0 k
 obtain ⟨ih0, ih1⟩ := QaM.mono_l k
 unfold QaM.f
 exact ZM2 ih0 ih1
set_option maxHeartbeats 8000000 in
theorem QaM.calls (k : Nat) (a0 : ByteArray) (r : Bool) (w : World) (h : QaM.f k a0 = some r) :
  Calls Try.prog 108 #[.string a0] w fun e w' => e = .returned (.bool r) ∧ Drawn0 w w' := by
 have H : (if a0.toList = ([] : List UInt8) then (QaM.j0 k a0 T) else (if (a0.size : Int) > 12 then (QaM.j0 k a0 T) else (if 0 < (a0.size : Int) then ((QbS.f (bt a0 0)).bind fun t119 => (QaM.j0 k a0 (!t119))) else (none)))) = some r := h
 clear h
 have HC2 := Aside0.mk H
 clear H
 go_enter Try.func108, Try.ntmps108
 go_upto_region 1 with (fail)
 go_cut [16] (fun v16 wc => ∃ (kq : Nat) (x16_1 : Bool), v16 = .bool x16_1 ∧ Aside0 (QaM.j0 kq a0 x16_1 = some r) ∧ Aside0 (kq ≤ k) ∧ Drawn0 w wc)
 case first =>
  have H := HC2.out
  clear HC2
  by_cases c3 : a0.toList = ([] : List UInt8)
  ·rw [if_pos c3] at H
   have c3b0 : (a0.toList == ([] : List UInt8)) = T := beq_iff_eq.mpr c3
   have c3b1 : (a0.toList != ([] : List UInt8)) = F := bne_eq_false_iff_eq.mpr c3
   clear c3
   have H' := Aside0.mk H
   clear H
   go_wp2
   go_meet
   case rel => exact ⟨_, (T), (Zs), H', ⟨by first | omega | exact Nat.le_refl _⟩, Zd⟩
  rw [if_neg c3] at H
  have c3b0 : (a0.toList == ([] : List UInt8)) = F := beq_eq_false_iff_ne.mpr c3
  have c3b1 : (a0.toList != ([] : List UInt8)) = T := bne_iff_ne.mpr c3
  by_cases c4 : (a0.size : Int) > 12
  ·rw [if_pos c4] at H
   have c4b0 : decide (12 < (a0.size : Int)) = T := decide_eq_true c4
   have c4b1 : decide (12 < a0.size) = T := decide_eq_true (by omega)
   clear c4
   have H' := Aside0.mk H
   clear H
   go_wp2
   go_meet
   case rel => exact ⟨_, (T), (Zs), H', ⟨by first | omega | exact Nat.le_refl _⟩, Zd⟩
  rw [if_neg c4] at H
  have c4b0 : decide (12 < (a0.size : Int)) = F := decide_eq_false c4
  have c4b1 : decide (12 < a0.size) = F := decide_eq_false (by omega)
  clear c4
  by_cases c5 : 0 < (a0.size : Int)
  ·rw [if_pos c5] at H
   have c5b0 : decide (0 < (a0.size : Int)) = T := decide_eq_true c5
   have c5b1 : decide (0 < a0.size) = T := decide_eq_true (by omega)
   clear c5
   replace H := Option.bind_eq_some_iff.mp H
   obtain ⟨t119, A70, H⟩ := H
   replace H : (QaM.j0 k a0 (!t119)) = some r := H
   have A7 := Aside0.mk A70
   clear A70
   have H' := Aside0.mk H
   clear H
   have p6 : 0 ≤ (0 : Int) := (by omega)
   have q6 : 0 < a0.size := (by have : (0 : Int) < (a0.size : Int) := Ze; omega)
   have hx6 : ∀ h : 0 < a0.size, ((a0[0]'h).toNat : Int) = bt a0 0 := bt_at a0 0
   clear p6
   have qi6 : (0 < (a0.size : Int)) = True := eq_true (Ze)
   replace q6 := eq_true q6
   go_wp2_with (first | (go_at_call 121; (with_reducible refine (QbS.calls (bt a0 0) t119 _ A7.out).mono ?_); rintro e w' ⟨rfl, ⟨nd, rfl⟩⟩))
   go_meet
   case rel => exact ⟨_, (!t119), (Zs), H', ⟨by first | omega | exact Nat.le_refl _⟩, Zd⟩
  rw [if_neg c5] at H
  exact absurd H (by simp)
 case rest =>
  clear HC2
  try clear c1
  try clear p2
  try clear c3
  try clear c3b0
  try clear c3b1
  try clear c4
  try clear c4b0
  try clear c4b1
  try clear c5
  try clear c5b0
  try clear c5b1
  try clear p6
  try clear q6
  try clear hx6
  try clear qi6
  try clear p6
  try clear q6
  obtain ⟨kq, x16_1, rfl, HA, HJ1, ⟨mc1, rfl⟩⟩ := hcut
  cases kq with
  | zero => exact absurd HA.out (by simp [QaM.j0])
  | succ kj1 =>
   have H := HA.out
   clear HA
   simp only [QaM.j0] at H
   by_cases c8 : x16_1 = T
   ·subst c8
    have H1 : (some F) = some r := by rw [if_pos rfl] at H; exact H
    clear H
    have H := H1
    clear H1
    obtain rfl := Option.some.inj H
    go_wp2
    go_ret
    exact ⟨Zs, Zd⟩
   replace c8 := Bool.eq_false_iff.mpr c8
   subst c8
   have H1 : (QaM.l0 kj1 a0 (a0.size : Int) 0) = some r := by rw [if_neg (show ¬ (F = T) by decide)] at H; exact H
   clear H
   have H := H1
   clear H1
   have H' := Aside0.mk H
   clear H
   go_wp2
   go_loopg [19] kj1 (fun kq v19 w' => ∃ (x19_2 : Int), v19 = .int .i64 x19_2 ∧ Aside0 (QaM.l0 kq a0 (a0.size : Int) x19_2 = some r) ∧ Aside0 (kq ≤ kj1) ∧ Drawn0 w w')
   case atStart => exact ⟨(0), (Zs), H', ⟨Nat.le_refl _⟩, Zd⟩
   case round =>
    clear H'
    try clear c1
    try clear p2
    try clear c3
    try clear c3b0
    try clear c3b1
    try clear c4
    try clear c4b0
    try clear c4b1
    try clear c5
    try clear c5b0
    try clear c5b1
    try clear p6
    try clear q6
    try clear hx6
    try clear qi6
    try clear c8
    try clear p2
    try clear p6
    try clear q6
    obtain ⟨x19_2, rfl, HA, HK2, ⟨m2, rfl⟩⟩ := hrel
    cases gk with
    | zero => exact absurd HA.out (by simp [QaM.l0])
    | succ k2 =>
     have H := HA.out
     clear HA
     simp only [QaM.l0] at H
     by_cases c9 : x19_2 < (a0.size : Int)
     ·rw [if_pos c9] at H
      have c9b0 : decide (x19_2 < (a0.size : Int)) = T := decide_eq_true c9
      clear c9
      (try simp only [c9b0])
      by_cases c10 : 0 ≤ x19_2
      ·rw [if_pos c10] at H
       have c10b0 : decide (0 ≤ x19_2) = T := decide_eq_true c10
       clear c10
       by_cases c11 : x19_2 < (a0.size : Int)
       ·rw [if_pos c11] at H
        have c11b0 : decide (x19_2 < (a0.size : Int)) = T := decide_eq_true c11
        clear c11
        replace H := Option.bind_eq_some_iff.mp H
        obtain ⟨t120, A130, H⟩ := H
        replace H : (if t120 = T then (QaM.l0 k2 a0 (a0.size : Int) (wrap64 (x19_2 + 1))) else ((QbZ.f (bt a0 x19_2)).bind fun t121 => (if t121 = T then (QaM.l0 k2 a0 (a0.size : Int) (wrap64 (x19_2 + 1))) else (some F)))) = some r := H
        have A13 := Aside0.mk A130
        clear A130
        by_cases c14 : t120 = T
        ·subst c14
         have H1 : (QaM.l0 k2 a0 (a0.size : Int) (wrap64 (x19_2 + 1))) = some r := by rw [if_pos rfl] at H; exact H
         clear H
         have H := H1
         clear H1
         have H' := Aside0.mk H
         clear H
         have p12 : 0 ≤ (x19_2 : Int) := Ze
         have q12 : x19_2 < (a0.size : Int) := Ze
         have hx12 := bt_at a0 x19_2
         replace p12 := eq_true p12
         replace q12 := eq_true q12
         go_wp2_with (first | ((with_reducible refine Qax (f := 121) rfl ?_); refine goesL_ (some 25) rfl rfl Try.func121 (by kernel_rfl) rfl #[.int .u8 (bt a0 x19_2)] rfl (Zl) ?_; (with_reducible refine (QbS.calls (bt a0 x19_2) T _ A13.out).mono ?_); rintro e w' ⟨rfl, ⟨nd, rfl⟩⟩; refine ⟨_, rfl, ?_⟩))
         go_roundg k2
         case measure => have := HJ1.out; have := HK2.out; omega
         case rel => exact ⟨(wrap64 (x19_2 + 1)), (Zs), H', ⟨by have := HJ1.out; have := HK2.out; omega⟩, Zd⟩
        replace c14 := Bool.eq_false_iff.mpr c14
        subst c14
        have H1 : ((QbZ.f (bt a0 x19_2)).bind fun t121 => (if t121 = T then (QaM.l0 k2 a0 (a0.size : Int) (wrap64 (x19_2 + 1))) else (some F))) = some r := by rw [if_neg (show ¬ (F = T) by decide)] at H; exact H
        clear H
        have H := H1
        clear H1
        replace H := Option.bind_eq_some_iff.mp H
        obtain ⟨t121, A160, H⟩ := H
        replace H : (if t121 = T then (QaM.l0 k2 a0 (a0.size : Int) (wrap64 (x19_2 + 1))) else (some F)) = some r := H
        have A16 := Aside0.mk A160
        clear A160
        have p12 : 0 ≤ (x19_2 : Int) := Ze
        have q12 : x19_2 < (a0.size : Int) := Ze
        have hx12 := bt_at a0 x19_2
        replace p12 := eq_true p12
        replace q12 := eq_true q12
        go_upto_if 33 with (first | ((with_reducible refine Qax (f := 121) rfl ?_); refine goesL_ (some 25) rfl rfl Try.func121 (by kernel_rfl) rfl #[.int .u8 (bt a0 x19_2)] rfl (Zl) ?_; (with_reducible refine (QbS.calls (bt a0 x19_2) F _ A13.out).mono ?_); rintro e w' ⟨rfl, ⟨nd, rfl⟩⟩; refine ⟨_, rfl, ?_⟩; have p15 : 0 ≤ (x19_2 : Int) := Ze; have q15 : x19_2 < (a0.size : Int) := Ze; have hx15 := bt_at a0 x19_2; replace p15 := eq_true p15; replace q15 := eq_true q15) | (go_at_call 122; (with_reducible refine (QbZ.calls (bt a0 x19_2) t121 _ A16.out).mono ?_); rintro e w' ⟨rfl, ⟨nd, rfl⟩⟩))
        (try simp only [Act.put, Zj, Zk, Zm])
        by_cases c17 : t121 = T
        ·subst c17
         have H1 : (QaM.l0 k2 a0 (a0.size : Int) (wrap64 (x19_2 + 1))) = some r := by rw [if_pos rfl] at H; exact H
         clear H
         have H := H1
         clear H1
         have H' := Aside0.mk H
         clear H
         go_wp2
         go_roundg k2
         case measure => have := HJ1.out; have := HK2.out; omega
         case rel => exact ⟨(wrap64 (x19_2 + 1)), (Zs), H', ⟨by have := HJ1.out; have := HK2.out; omega⟩, Zd⟩
        replace c17 := Bool.eq_false_iff.mpr c17
        subst c17
        have H1 : (some F) = some r := by rw [if_neg (show ¬ (F = T) by decide)] at H; exact H
        clear H
        have H := H1
        clear H1
        obtain rfl := Option.some.inj H
        go_wp2
        go_ret
        exact ⟨Zs, Zd⟩
       rw [if_neg c11] at H
       exact absurd H (by simp)
      rw [if_neg c10] at H
      exact absurd H (by simp)
     rw [if_neg c9] at H
     have c9b0 : decide (x19_2 < (a0.size : Int)) = F := decide_eq_false c9
     clear c9
     (try simp only [c9b0])
     obtain rfl := Option.some.inj H
     go_wp2
     go_ret
     exact ⟨Zs, Zd⟩
mutual
def QaY.j0 : Nat → Bool → ByteArray → Int → Int → Int → Int → Int → Option (Int)
 | 0, _, _, _, _, _, _, _ => none
 | k + 1, x8, x123000, x123001, x123002, x123003, x123004, x123005 => if x8 = T then (some 2) else (if x123002 < 0 then (QaY.j1 k T x123000 x123001 x123002 x123003 x123004 x123005) else (QaY.j1 k (decide (x123002 ≥ 8)) x123000 x123001 x123002 x123003 x123004 x123005))
def QaY.j1 : Nat → Bool → ByteArray → Int → Int → Int → Int → Int → Option (Int)
 | 0, _, _, _, _, _, _, _ => none
 | k + 1, x17, x123000, x123001, x123002, x123003, x123004, x123005 => if x17 = T then (some 25) else (if x123003 < 1 then (some 2) else (if x123003 > 68719476736 then (some 2) else (if x123001 = 1 then (if x123003 = 1 then ((Qbx.f x123004).bind fun t124 => (if t124 = T then ((Qbx.f x123005).bind fun t125 => (if t125 = T then (some 0) else (some 2))) else (some 2))) else (some 2)) else ((Qbx.f x123004).bind fun t126 => (if t126 = T then ((Qbx.f x123005).bind fun t127 => (if t127 = T then (some 0) else (some 2))) else (some 2))))))
end
def QaY.f (k : Nat) (a0_0 : ByteArray) (a0_1 : Int) (a0_2 : Int) (a0_3 : Int) (a0_4 : Int) (a0_5 : Int) : Option (Int) := (QaM.f k a0_0).bind fun t123 => (if t123 = T then (if a0_1 < 1 then (QaY.j0 k T a0_0 a0_1 a0_2 a0_3 a0_4 a0_5) else (QaY.j0 k (decide (a0_1 > 3)) a0_0 a0_1 a0_2 a0_3 a0_4 a0_5)) else (some 10))
theorem QaY.mono_l : ∀ k, (∀ y0 y1 y2 y3 y4 y5 y6, LeO (QaY.j0 k y0 y1 y2 y3 y4 y5 y6) (QaY.j0 (k + 1) y0 y1 y2 y3 y4 y5 y6)) ∧ (∀ y0 y1 y2 y3 y4 y5 y6, LeO (QaY.j1 k y0 y1 y2 y3 y4 y5 y6) (QaY.j1 (k + 1) y0 y1 y2 y3 y4 y5 y6))
 | 0 => ⟨fun _ _ _ _ _ _ _ r h => by simp [QaY.j0] at h, fun _ _ _ _ _ _ _ r h => by simp [QaY.j1] at h⟩
 | k + 1 => by
  obtain ⟨ih0, ih1⟩ := QaY.mono_l k
  refine ⟨?_, ?_⟩
  ·intro y0 y1 y2 y3 y4 y5 y6
   unfold QaY.j0
   exact ZM3 ih0 ih1 QaM.mono
  intro y0 y1 y2 y3 y4 y5 y6
  unfold QaY.j1
  exact ZM3 ih0 ih1 QaM.mono
theorem QaY.mono : ∀ a0 a1 a2 a3 a4 a5 k, LeO (QaY.f k a0 a1 a2 a3 a4 a5) (QaY.f (k + 1) a0 a1 a2 a3 a4 a5) := by
 intro a0 a1 a2 a3 a4 a5 k
 obtain ⟨ih0, ih1⟩ := QaY.mono_l k
 unfold QaY.f
 exact ZM3 ih0 ih1 QaM.mono
set_option maxHeartbeats 8000000 in
theorem QaY.calls (k : Nat) (a0_0 : ByteArray) (a0_1 : Int) (a0_2 : Int) (a0_3 : Int) (a0_4 : Int) (a0_5 : Int) (r : Int) (w : World) (h : QaY.f k a0_0 a0_1 a0_2 a0_3 a0_4 a0_5 = some r) :
  Calls Try.prog 78 #[.agg #[.string a0_0, .int .i64 a0_1, .int .i64 a0_2, .int .i64 a0_3, .int .i64 a0_4, .int .i64 a0_5]] w fun e w' => e = .returned (.int .i64 r) ∧ Below w.heap.size w w' := by
 have hu84 := Try.underlying84
 have HB := Aside0.mk (Below.refl w.heap.size w)
 have H : ((QaM.f k a0_0).bind fun t123 => (if t123 = T then (if a0_1 < 1 then (QaY.j0 k T a0_0 a0_1 a0_2 a0_3 a0_4 a0_5) else (QaY.j0 k (decide (a0_1 > 3)) a0_0 a0_1 a0_2 a0_3 a0_4 a0_5)) else (some 10))) = some r := h
 clear h
 replace H := Option.bind_eq_some_iff.mp H
 obtain ⟨t123, A20, H⟩ := H
 replace H : (if t123 = T then (if a0_1 < 1 then (QaY.j0 k T a0_0 a0_1 a0_2 a0_3 a0_4 a0_5) else (QaY.j0 k (decide (a0_1 > 3)) a0_0 a0_1 a0_2 a0_3 a0_4 a0_5)) else (some 10)) = some r := H
 have A2 := Aside0.mk A20
 clear A20
 go_enter Try.func78, Try.ntmps78
 go_upto_if 3 with (first | ((with_reducible refine QaJ (N := 1) rfl ?_); refine Zbx (N := 1) (cs := #[.string a0_0, .int .i64 a0_1, .int .i64 a0_2, .int .i64 a0_3, .int .i64 a0_4, .int .i64 a0_5]) (t := 84) ?_; intro gb122 hg w3 hbox hb; have BK122 := Aside0.mk (hbox); have GW122 := Aside0.mk (Zt w hg (Zb)); have GE122 := GW122; replace HB := Aside0.mk (Qao (Zb) hb); clear hb hbox hg; obtain ⟨hcz4_0, hfz4_0⟩ := Zy (v := (.string a0_0)) BK122.out 0; obtain ⟨hcz4_1, hfz4_1⟩ := Zy (v := (.int .i64 a0_1)) BK122.out 1; obtain ⟨hcz4_2, hfz4_2⟩ := Zy (v := (.int .i64 a0_2)) BK122.out 2; obtain ⟨hcz4_3, hfz4_3⟩ := Zy (v := (.int .i64 a0_3)) BK122.out 3; obtain ⟨hcz4_4, hfz4_4⟩ := Zy (v := (.int .i64 a0_4)) BK122.out 4; obtain ⟨hcz4_5, hfz4_5⟩ := Zy (v := (.int .i64 a0_5)) BK122.out 5) | ((with_reducible refine Qax (f := 108) rfl ?_); refine goesL_ (some 6) rfl rfl Try.func108 (by kernel_rfl) rfl #[.string a0_0] rfl (Zl) ?_; (with_reducible refine (QaM.calls k a0_0 t123 _ A2.out).mono ?_); rintro e w' ⟨rfl, ⟨nd, rfl⟩⟩; refine ⟨_, rfl, ?_⟩))
 (try simp only [Act.put, Zj, Zk, Zm])
 by_cases c5 : t123 = T
 ·subst c5
  have H1 : (if a0_1 < 1 then (QaY.j0 k T a0_0 a0_1 a0_2 a0_3 a0_4 a0_5) else (QaY.j0 k (decide (a0_1 > 3)) a0_0 a0_1 a0_2 a0_3 a0_4 a0_5)) = some r := by rw [if_pos rfl] at H; exact H
  clear H
  have H := H1
  clear H1
  have HC6 := Aside0.mk H
  clear H
  go_upto_region 3 with (fail)
  go_cut [8] (fun v8 wc => ∃ (kq : Nat) (x8_5 : Bool), v8 = .bool x8_5 ∧ Aside0 (QaY.j0 kq x8_5 a0_0 a0_1 a0_2 a0_3 a0_4 a0_5 = some r) ∧ Aside0 (kq ≤ k) ∧ Aside0 (wc.heap[gb122]? = some (.cells #[.string a0_0, .int .i64 a0_1, .int .i64 a0_2, .int .i64 a0_3, .int .i64 a0_4, .int .i64 a0_5] 84 (0, 0))) ∧ Aside0 (Below w.heap.size w wc))
  case first =>
   have H := HC6.out
   clear HC6
   by_cases c7 : a0_1 < 1
   ·rw [if_pos c7] at H
    have c7b0 : decide (a0_1 < 1) = T := decide_eq_true c7
    clear c7
    have H' := Aside0.mk H
    clear H
    obtain ⟨hcz8_0, hfz8_0⟩ := Zy (v := (.string a0_0)) BK122.out 0
    obtain ⟨hcz8_1, hfz8_1⟩ := Zy (v := (.int .i64 a0_1)) BK122.out 1
    obtain ⟨hcz8_2, hfz8_2⟩ := Zy (v := (.int .i64 a0_2)) BK122.out 2
    obtain ⟨hcz8_3, hfz8_3⟩ := Zy (v := (.int .i64 a0_3)) BK122.out 3
    obtain ⟨hcz8_4, hfz8_4⟩ := Zy (v := (.int .i64 a0_4)) BK122.out 4
    obtain ⟨hcz8_5, hfz8_5⟩ := Zy (v := (.int .i64 a0_5)) BK122.out 5
    go_wp2
    go_meet
    case rel => exact ⟨_, (T), (Zs), H', ⟨by first | omega | exact Nat.le_refl _⟩, ⟨Zu BK122.out⟩, ⟨Zc1 GE122.out⟩⟩
   rw [if_neg c7] at H
   have c7b0 : decide (a0_1 < 1) = F := decide_eq_false c7
   clear c7
   have H' := Aside0.mk H
   clear H
   obtain ⟨hcz9_0, hfz9_0⟩ := Zy (v := (.string a0_0)) BK122.out 0
   obtain ⟨hcz9_1, hfz9_1⟩ := Zy (v := (.int .i64 a0_1)) BK122.out 1
   obtain ⟨hcz9_2, hfz9_2⟩ := Zy (v := (.int .i64 a0_2)) BK122.out 2
   obtain ⟨hcz9_3, hfz9_3⟩ := Zy (v := (.int .i64 a0_3)) BK122.out 3
   obtain ⟨hcz9_4, hfz9_4⟩ := Zy (v := (.int .i64 a0_4)) BK122.out 4
   obtain ⟨hcz9_5, hfz9_5⟩ := Zy (v := (.int .i64 a0_5)) BK122.out 5
   go_wp2
   go_meet
   case rel => exact ⟨_, (decide (a0_1 > 3)), (Zs), H', ⟨by first | omega | exact Nat.le_refl _⟩, ⟨Zu BK122.out⟩, ⟨Zc1 GE122.out⟩⟩
  case rest =>
   clear HC6
   try clear c1
   try clear p2
   try clear c5
   try clear c7
   try clear c7b0
   try clear hcz4_0
   try clear hcz4_1
   try clear hcz4_2
   try clear hcz4_3
   try clear hcz4_4
   try clear hcz4_5
   try clear hcz8_0
   try clear hcz8_1
   try clear hcz8_2
   try clear hcz8_3
   try clear hcz8_4
   try clear hcz8_5
   try clear hcz9_0
   try clear hcz9_1
   try clear hcz9_2
   try clear hcz9_3
   try clear hcz9_4
   try clear hcz9_5
   try clear hfz4_0
   try clear hfz4_1
   try clear hfz4_2
   try clear hfz4_3
   try clear hfz4_4
   try clear hfz4_5
   try clear hfz8_0
   try clear hfz8_1
   try clear hfz8_2
   try clear hfz8_3
   try clear hfz8_4
   try clear hfz8_5
   try clear hfz9_0
   try clear hfz9_1
   try clear hfz9_2
   try clear hfz9_3
   try clear hfz9_4
   try clear hfz9_5
   obtain ⟨kq, x8_5, rfl, HA, HJ5, BK122, HB⟩ := hcut
   cases kq with
   | zero => exact absurd HA.out (by simp [QaY.j0])
   | succ kj5 =>
    have H := HA.out
    clear HA
    simp only [QaY.j0] at H
    by_cases c10 : x8_5 = T
    ·subst c10
     have H1 : (some 2) = some r := by rw [if_pos rfl] at H; exact H
     clear H
     have H := H1
     clear H1
     obtain rfl := Option.some.inj H
     go_wp2
     go_ret
     exact ⟨Zq, Zc1 GE122.out⟩
    replace c10 := Bool.eq_false_iff.mpr c10
    subst c10
    have H1 : (if a0_2 < 0 then (QaY.j1 kj5 T a0_0 a0_1 a0_2 a0_3 a0_4 a0_5) else (QaY.j1 kj5 (decide (a0_2 ≥ 8)) a0_0 a0_1 a0_2 a0_3 a0_4 a0_5)) = some r := by rw [if_neg (show ¬ (F = T) by decide)] at H; exact H
    clear H
    have H := H1
    clear H1
    have HC11 := Aside0.mk H
    clear H
    go_upto_region 5 with (fail)
    go_cut [17] (fun v17 wc => ∃ (kq : Nat) (x17_10 : Bool), v17 = .bool x17_10 ∧ Aside0 (QaY.j1 kq x17_10 a0_0 a0_1 a0_2 a0_3 a0_4 a0_5 = some r) ∧ Aside0 (kq ≤ kj5) ∧ Aside0 (wc.heap[gb122]? = some (.cells #[.string a0_0, .int .i64 a0_1, .int .i64 a0_2, .int .i64 a0_3, .int .i64 a0_4, .int .i64 a0_5] 84 (0, 0))) ∧ Aside0 (Below w.heap.size w wc))
    case first =>
     have H := HC11.out
     clear HC11
     by_cases c12 : a0_2 < 0
     ·rw [if_pos c12] at H
      have c12b0 : decide (a0_2 < 0) = T := decide_eq_true c12
      clear c12
      have H' := Aside0.mk H
      clear H
      obtain ⟨hcz13_0, hfz13_0⟩ := Zy (v := (.string a0_0)) BK122.out 0
      obtain ⟨hcz13_1, hfz13_1⟩ := Zy (v := (.int .i64 a0_1)) BK122.out 1
      obtain ⟨hcz13_2, hfz13_2⟩ := Zy (v := (.int .i64 a0_2)) BK122.out 2
      obtain ⟨hcz13_3, hfz13_3⟩ := Zy (v := (.int .i64 a0_3)) BK122.out 3
      obtain ⟨hcz13_4, hfz13_4⟩ := Zy (v := (.int .i64 a0_4)) BK122.out 4
      obtain ⟨hcz13_5, hfz13_5⟩ := Zy (v := (.int .i64 a0_5)) BK122.out 5
      go_wp2
      go_meet
      case rel => exact ⟨_, (T), (Zs), H', ⟨by have := HJ5.out; first | omega | exact Nat.le_refl _⟩, ⟨Zu BK122.out⟩, ⟨Zc1 GE122.out⟩⟩
     rw [if_neg c12] at H
     have c12b0 : decide (a0_2 < 0) = F := decide_eq_false c12
     clear c12
     have H' := Aside0.mk H
     clear H
     obtain ⟨hcz14_0, hfz14_0⟩ := Zy (v := (.string a0_0)) BK122.out 0
     obtain ⟨hcz14_1, hfz14_1⟩ := Zy (v := (.int .i64 a0_1)) BK122.out 1
     obtain ⟨hcz14_2, hfz14_2⟩ := Zy (v := (.int .i64 a0_2)) BK122.out 2
     obtain ⟨hcz14_3, hfz14_3⟩ := Zy (v := (.int .i64 a0_3)) BK122.out 3
     obtain ⟨hcz14_4, hfz14_4⟩ := Zy (v := (.int .i64 a0_4)) BK122.out 4
     obtain ⟨hcz14_5, hfz14_5⟩ := Zy (v := (.int .i64 a0_5)) BK122.out 5
     go_wp2
     go_meet
     case rel => exact ⟨_, (decide (a0_2 ≥ 8)), (Zs), H', ⟨by have := HJ5.out; first | omega | exact Nat.le_refl _⟩, ⟨Zu BK122.out⟩, ⟨Zc1 GE122.out⟩⟩
    case rest =>
     clear HC11
     try clear c1
     try clear p2
     try clear c5
     try clear c7
     try clear c7b0
     try clear c10
     try clear c12
     try clear c12b0
     try clear hcz13_0
     try clear hcz13_1
     try clear hcz13_2
     try clear hcz13_3
     try clear hcz13_4
     try clear hcz13_5
     try clear hcz14_0
     try clear hcz14_1
     try clear hcz14_2
     try clear hcz14_3
     try clear hcz14_4
     try clear hcz14_5
     try clear hcz4_0
     try clear hcz4_1
     try clear hcz4_2
     try clear hcz4_3
     try clear hcz4_4
     try clear hcz4_5
     try clear hcz8_0
     try clear hcz8_1
     try clear hcz8_2
     try clear hcz8_3
     try clear hcz8_4
     try clear hcz8_5
     try clear hcz9_0
     try clear hcz9_1
     try clear hcz9_2
     try clear hcz9_3
     try clear hcz9_4
     try clear hcz9_5
     try clear hfz13_0
     try clear hfz13_1
     try clear hfz13_2
     try clear hfz13_3
     try clear hfz13_4
     try clear hfz13_5
     try clear hfz14_0
     try clear hfz14_1
     try clear hfz14_2
     try clear hfz14_3
     try clear hfz14_4
     try clear hfz14_5
     try clear hfz4_0
     try clear hfz4_1
     try clear hfz4_2
     try clear hfz4_3
     try clear hfz4_4
     try clear hfz4_5
     try clear hfz8_0
     try clear hfz8_1
     try clear hfz8_2
     try clear hfz8_3
     try clear hfz8_4
     try clear hfz8_5
     try clear hfz9_0
     try clear hfz9_1
     try clear hfz9_2
     try clear hfz9_3
     try clear hfz9_4
     try clear hfz9_5
     try clear p2
     obtain ⟨kq, x17_10, rfl, HA, HJ10, BK122, HB⟩ := hcut
     cases kq with
     | zero => exact absurd HA.out (by simp [QaY.j1])
     | succ kj10 =>
      have H := HA.out
      clear HA
      simp only [QaY.j1] at H
      by_cases c15 : x17_10 = T
      ·subst c15
       have H1 : (some 25) = some r := by rw [if_pos rfl] at H; exact H
       clear H
       have H := H1
       clear H1
       obtain rfl := Option.some.inj H
       go_wp2
       go_ret
       exact ⟨Zq, Zc1 GE122.out⟩
      replace c15 := Bool.eq_false_iff.mpr c15
      subst c15
      have H1 : (if a0_3 < 1 then (some 2) else (if a0_3 > 68719476736 then (some 2) else (if a0_1 = 1 then (if a0_3 = 1 then ((Qbx.f a0_4).bind fun t124 => (if t124 = T then ((Qbx.f a0_5).bind fun t125 => (if t125 = T then (some 0) else (some 2))) else (some 2))) else (some 2)) else ((Qbx.f a0_4).bind fun t126 => (if t126 = T then ((Qbx.f a0_5).bind fun t127 => (if t127 = T then (some 0) else (some 2))) else (some 2)))))) = some r := by rw [if_neg (show ¬ (F = T) by decide)] at H; exact H
      clear H
      have H := H1
      clear H1
      by_cases c16 : a0_3 < 1
      ·rw [if_pos c16] at H
       have c16b0 : decide (a0_3 < 1) = T := decide_eq_true c16
       clear c16
       obtain rfl := Option.some.inj H
       obtain ⟨hcz17_0, hfz17_0⟩ := Zy (v := (.string a0_0)) BK122.out 0
       obtain ⟨hcz17_1, hfz17_1⟩ := Zy (v := (.int .i64 a0_1)) BK122.out 1
       obtain ⟨hcz17_2, hfz17_2⟩ := Zy (v := (.int .i64 a0_2)) BK122.out 2
       obtain ⟨hcz17_3, hfz17_3⟩ := Zy (v := (.int .i64 a0_3)) BK122.out 3
       obtain ⟨hcz17_4, hfz17_4⟩ := Zy (v := (.int .i64 a0_4)) BK122.out 4
       obtain ⟨hcz17_5, hfz17_5⟩ := Zy (v := (.int .i64 a0_5)) BK122.out 5
       go_wp2
       go_ret
       exact ⟨Zq, Zc1 GE122.out⟩
      rw [if_neg c16] at H
      have c16b0 : decide (a0_3 < 1) = F := decide_eq_false c16
      clear c16
      by_cases c18 : a0_3 > 68719476736
      ·rw [if_pos c18] at H
       have c18b0 : decide (68719476736 < a0_3) = T := decide_eq_true c18
       clear c18
       obtain rfl := Option.some.inj H
       obtain ⟨hcz19_0, hfz19_0⟩ := Zy (v := (.string a0_0)) BK122.out 0
       obtain ⟨hcz19_1, hfz19_1⟩ := Zy (v := (.int .i64 a0_1)) BK122.out 1
       obtain ⟨hcz19_2, hfz19_2⟩ := Zy (v := (.int .i64 a0_2)) BK122.out 2
       obtain ⟨hcz19_3, hfz19_3⟩ := Zy (v := (.int .i64 a0_3)) BK122.out 3
       obtain ⟨hcz19_4, hfz19_4⟩ := Zy (v := (.int .i64 a0_4)) BK122.out 4
       obtain ⟨hcz19_5, hfz19_5⟩ := Zy (v := (.int .i64 a0_5)) BK122.out 5
       go_wp2
       go_ret
       exact ⟨Zq, Zc1 GE122.out⟩
      rw [if_neg c18] at H
      have c18b0 : decide (68719476736 < a0_3) = F := decide_eq_false c18
      clear c18
      by_cases c20 : a0_1 = 1
      ·rw [if_pos c20] at H
       have c20b0 : (a0_1 == 1) = T := beq_iff_eq.mpr c20
       have c20b1 : (a0_1 != 1) = F := bne_eq_false_iff_eq.mpr c20
       clear c20
       by_cases c21 : a0_3 = 1
       ·rw [if_pos c21] at H
        have c21b0 : (a0_3 == 1) = T := beq_iff_eq.mpr c21
        have c21b1 : (a0_3 != 1) = F := bne_eq_false_iff_eq.mpr c21
        clear c21
        replace H := Option.bind_eq_some_iff.mp H
        obtain ⟨t124, A220, H⟩ := H
        replace H : (if t124 = T then ((Qbx.f a0_5).bind fun t125 => (if t125 = T then (some 0) else (some 2))) else (some 2)) = some r := H
        have A22 := Aside0.mk A220
        clear A220
        by_cases c23 : t124 = T
        ·subst c23
         have H1 : ((Qbx.f a0_5).bind fun t125 => (if t125 = T then (some 0) else (some 2))) = some r := by rw [if_pos rfl] at H; exact H
         clear H
         have H := H1
         clear H1
         replace H := Option.bind_eq_some_iff.mp H
         obtain ⟨t125, A240, H⟩ := H
         replace H : (if t125 = T then (some 0) else (some 2)) = some r := H
         have A24 := Aside0.mk A240
         clear A240
         obtain ⟨hcz25_0, hfz25_0⟩ := Zy (v := (.string a0_0)) BK122.out 0
         obtain ⟨hcz25_1, hfz25_1⟩ := Zy (v := (.int .i64 a0_1)) BK122.out 1
         obtain ⟨hcz25_2, hfz25_2⟩ := Zy (v := (.int .i64 a0_2)) BK122.out 2
         obtain ⟨hcz25_3, hfz25_3⟩ := Zy (v := (.int .i64 a0_3)) BK122.out 3
         obtain ⟨hcz25_4, hfz25_4⟩ := Zy (v := (.int .i64 a0_4)) BK122.out 4
         obtain ⟨hcz25_5, hfz25_5⟩ := Zy (v := (.int .i64 a0_5)) BK122.out 5
         go_upto_if 26 with (first | (go_at_call 109; (with_reducible refine (Qbx.calls a0_4 T _ A22.out).mono ?_); rintro e w' ⟨rfl, ⟨nd, rfl⟩⟩) | (go_at_call 109; (with_reducible refine (Qbx.calls a0_5 t125 _ A24.out).mono ?_); rintro e w' ⟨rfl, ⟨nd, rfl⟩⟩))
         (try simp only [Act.put, Zj, Zk, Zm])
         by_cases c26 : t125 = T
         ·subst c26
          have H1 : (some 0) = some r := by rw [if_pos rfl] at H; exact H
          clear H
          have H := H1
          clear H1
          obtain rfl := Option.some.inj H
          go_wp2
          go_ret
          exact ⟨Zq, Zc1 GE122.out⟩
         replace c26 := Bool.eq_false_iff.mpr c26
         subst c26
         have H1 : (some 2) = some r := by rw [if_neg (show ¬ (F = T) by decide)] at H; exact H
         clear H
         have H := H1
         clear H1
         obtain rfl := Option.some.inj H
         go_wp2
         go_ret
         exact ⟨Zq, Zc1 GE122.out⟩
        replace c23 := Bool.eq_false_iff.mpr c23
        subst c23
        have H1 : (some 2) = some r := by rw [if_neg (show ¬ (F = T) by decide)] at H; exact H
        clear H
        have H := H1
        clear H1
        obtain rfl := Option.some.inj H
        obtain ⟨hcz27_0, hfz27_0⟩ := Zy (v := (.string a0_0)) BK122.out 0
        obtain ⟨hcz27_1, hfz27_1⟩ := Zy (v := (.int .i64 a0_1)) BK122.out 1
        obtain ⟨hcz27_2, hfz27_2⟩ := Zy (v := (.int .i64 a0_2)) BK122.out 2
        obtain ⟨hcz27_3, hfz27_3⟩ := Zy (v := (.int .i64 a0_3)) BK122.out 3
        obtain ⟨hcz27_4, hfz27_4⟩ := Zy (v := (.int .i64 a0_4)) BK122.out 4
        obtain ⟨hcz27_5, hfz27_5⟩ := Zy (v := (.int .i64 a0_5)) BK122.out 5
        go_wp2_with (first | (go_at_call 109; (with_reducible refine (Qbx.calls a0_4 F _ A22.out).mono ?_); rintro e w' ⟨rfl, ⟨nd, rfl⟩⟩))
        go_ret
        exact ⟨Zq, Zc1 GE122.out⟩
       rw [if_neg c21] at H
       have c21b0 : (a0_3 == 1) = F := beq_eq_false_iff_ne.mpr c21
       have c21b1 : (a0_3 != 1) = T := bne_iff_ne.mpr c21
       obtain rfl := Option.some.inj H
       obtain ⟨hcz28_0, hfz28_0⟩ := Zy (v := (.string a0_0)) BK122.out 0
       obtain ⟨hcz28_1, hfz28_1⟩ := Zy (v := (.int .i64 a0_1)) BK122.out 1
       obtain ⟨hcz28_2, hfz28_2⟩ := Zy (v := (.int .i64 a0_2)) BK122.out 2
       obtain ⟨hcz28_3, hfz28_3⟩ := Zy (v := (.int .i64 a0_3)) BK122.out 3
       obtain ⟨hcz28_4, hfz28_4⟩ := Zy (v := (.int .i64 a0_4)) BK122.out 4
       obtain ⟨hcz28_5, hfz28_5⟩ := Zy (v := (.int .i64 a0_5)) BK122.out 5
       go_wp2
       go_ret
       exact ⟨Zq, Zc1 GE122.out⟩
      rw [if_neg c20] at H
      have c20b0 : (a0_1 == 1) = F := beq_eq_false_iff_ne.mpr c20
      have c20b1 : (a0_1 != 1) = T := bne_iff_ne.mpr c20
      replace H := Option.bind_eq_some_iff.mp H
      obtain ⟨t126, A290, H⟩ := H
      replace H : (if t126 = T then ((Qbx.f a0_5).bind fun t127 => (if t127 = T then (some 0) else (some 2))) else (some 2)) = some r := H
      have A29 := Aside0.mk A290
      clear A290
      by_cases c30 : t126 = T
      ·subst c30
       have H1 : ((Qbx.f a0_5).bind fun t127 => (if t127 = T then (some 0) else (some 2))) = some r := by rw [if_pos rfl] at H; exact H
       clear H
       have H := H1
       clear H1
       replace H := Option.bind_eq_some_iff.mp H
       obtain ⟨t127, A310, H⟩ := H
       replace H : (if t127 = T then (some 0) else (some 2)) = some r := H
       have A31 := Aside0.mk A310
       clear A310
       obtain ⟨hcz32_0, hfz32_0⟩ := Zy (v := (.string a0_0)) BK122.out 0
       obtain ⟨hcz32_1, hfz32_1⟩ := Zy (v := (.int .i64 a0_1)) BK122.out 1
       obtain ⟨hcz32_2, hfz32_2⟩ := Zy (v := (.int .i64 a0_2)) BK122.out 2
       obtain ⟨hcz32_3, hfz32_3⟩ := Zy (v := (.int .i64 a0_3)) BK122.out 3
       obtain ⟨hcz32_4, hfz32_4⟩ := Zy (v := (.int .i64 a0_4)) BK122.out 4
       obtain ⟨hcz32_5, hfz32_5⟩ := Zy (v := (.int .i64 a0_5)) BK122.out 5
       go_upto_if 26 with (first | (go_at_call 109; (with_reducible refine (Qbx.calls a0_4 T _ A29.out).mono ?_); rintro e w' ⟨rfl, ⟨nd, rfl⟩⟩) | (go_at_call 109; (with_reducible refine (Qbx.calls a0_5 t127 _ A31.out).mono ?_); rintro e w' ⟨rfl, ⟨nd, rfl⟩⟩))
       (try simp only [Act.put, Zj, Zk, Zm])
       by_cases c33 : t127 = T
       ·subst c33
        have H1 : (some 0) = some r := by rw [if_pos rfl] at H; exact H
        clear H
        have H := H1
        clear H1
        obtain rfl := Option.some.inj H
        go_wp2
        go_ret
        exact ⟨Zq, Zc1 GE122.out⟩
       replace c33 := Bool.eq_false_iff.mpr c33
       subst c33
       have H1 : (some 2) = some r := by rw [if_neg (show ¬ (F = T) by decide)] at H; exact H
       clear H
       have H := H1
       clear H1
       obtain rfl := Option.some.inj H
       go_wp2
       go_ret
       exact ⟨Zq, Zc1 GE122.out⟩
      replace c30 := Bool.eq_false_iff.mpr c30
      subst c30
      have H1 : (some 2) = some r := by rw [if_neg (show ¬ (F = T) by decide)] at H; exact H
      clear H
      have H := H1
      clear H1
      obtain rfl := Option.some.inj H
      obtain ⟨hcz34_0, hfz34_0⟩ := Zy (v := (.string a0_0)) BK122.out 0
      obtain ⟨hcz34_1, hfz34_1⟩ := Zy (v := (.int .i64 a0_1)) BK122.out 1
      obtain ⟨hcz34_2, hfz34_2⟩ := Zy (v := (.int .i64 a0_2)) BK122.out 2
      obtain ⟨hcz34_3, hfz34_3⟩ := Zy (v := (.int .i64 a0_3)) BK122.out 3
      obtain ⟨hcz34_4, hfz34_4⟩ := Zy (v := (.int .i64 a0_4)) BK122.out 4
      obtain ⟨hcz34_5, hfz34_5⟩ := Zy (v := (.int .i64 a0_5)) BK122.out 5
      go_wp2_with (first | (go_at_call 109; (with_reducible refine (Qbx.calls a0_4 F _ A29.out).mono ?_); rintro e w' ⟨rfl, ⟨nd, rfl⟩⟩))
      go_ret
      exact ⟨Zq, Zc1 GE122.out⟩
 replace c5 := Bool.eq_false_iff.mpr c5
 subst c5
 have H1 : (some 10) = some r := by rw [if_neg (show ¬ (F = T) by decide)] at H; exact H
 clear H
 have H := H1
 clear H1
 obtain rfl := Option.some.inj H
 go_wp2
 go_ret
 exact ⟨Zq, Zc1 GE122.out⟩
def Qbh.j0 : Nat → Int → Int → Bool → Option (Int × Int)
 | 0, _, _, _ => none
 | k + 1, x0, x1, x15 => if x15 = T then (some (0, 2)) else ((Qbv.f x0).bind fun t130 => ((Qbv.f x1).bind fun t131 => ((QbA.f t130 t131).bind fun bt132 => (if bt132.1 > 0 then (some (0, 3)) else ((Qbr.f bt132.2 (!((decide (x0 < 0)) == (decide (x1 < 0))))).bind fun bt134 => (some (bt134.1, bt134.2)))))))
def Qbh.f (k : Nat) (a0 : Int) (a1 : Int) : Option (Int × Int) := (QbB.f a0).bind fun t128 => (if t128 = T then ((QbB.f a1).bind fun t129 => (Qbh.j0 k a0 a1 (!t129))) else (Qbh.j0 k a0 a1 T))
theorem Qbh.mono_l : ∀ k, (∀ y0 y1 y2, LeO (Qbh.j0 k y0 y1 y2) (Qbh.j0 (k + 1) y0 y1 y2))
 | 0 => fun _ _ _ r h => by simp [Qbh.j0] at h
 | k + 1 => by
  have ih0 := Qbh.mono_l k
  intro y0 y1 y2
  unfold Qbh.j0
  exact ZM1 ih0
theorem Qbh.mono : ∀ a0 a1 k, LeO (Qbh.f k a0 a1) (Qbh.f (k + 1) a0 a1) := by
 intro a0 a1 k
 have ih0 := Qbh.mono_l k
 unfold Qbh.f
 exact ZM1 ih0
set_option maxHeartbeats 8000000 in
theorem Qbh.calls (k : Nat) (a0 : Int) (a1 : Int) (r1 : Int) (r2 : Int) (w : World) (h : Qbh.f k a0 a1 = some (r1, r2)) :
  Calls Try.prog 125 #[.int .i64 a0, .int .i64 a1] w fun e w' => e = .returned (.tuple #[.int .i64 r1, .int .i64 r2]) ∧ Drawn0 w w' := by
 have H : ((QbB.f a0).bind fun t128 => (if t128 = T then ((QbB.f a1).bind fun t129 => (Qbh.j0 k a0 a1 (!t129))) else (Qbh.j0 k a0 a1 T))) = some (r1, r2) := h
 clear h
 have HC3 := Aside0.mk H
 clear H
 go_enter Try.func125, Try.ntmps125
 go_upto_region 1 with (fail)
 go_cut [15] (fun v15 wc => ∃ (kq : Nat) (x15_2 : Bool), v15 = .bool x15_2 ∧ Aside0 (Qbh.j0 kq a0 a1 x15_2 = some (r1, r2)) ∧ Aside0 (kq ≤ k) ∧ Drawn0 w wc)
 case first =>
  have H := HC3.out
  clear HC3
  replace H := Option.bind_eq_some_iff.mp H
  obtain ⟨t128, A40, H⟩ := H
  replace H : (if t128 = T then ((QbB.f a1).bind fun t129 => (Qbh.j0 k a0 a1 (!t129))) else (Qbh.j0 k a0 a1 T)) = some (r1, r2) := H
  have A4 := Aside0.mk A40
  clear A40
  by_cases c5 : t128 = T
  ·subst c5
   have H1 : ((QbB.f a1).bind fun t129 => (Qbh.j0 k a0 a1 (!t129))) = some (r1, r2) := by rw [if_pos rfl] at H; exact H
   clear H
   have H := H1
   clear H1
   replace H := Option.bind_eq_some_iff.mp H
   obtain ⟨t129, A60, H⟩ := H
   replace H : (Qbh.j0 k a0 a1 (!t129)) = some (r1, r2) := H
   have A6 := Aside0.mk A60
   clear A60
   have H' := Aside0.mk H
   clear H
   go_wp2_with (first | ((with_reducible refine Qax (f := 87) rfl ?_); refine goesL_ (some 9) rfl rfl Try.func87 (by kernel_rfl) rfl #[.int .i64 a0] rfl (Zl) ?_; (with_reducible refine (QbB.calls a0 T _ A4.out).mono ?_); rintro e w' ⟨rfl, ⟨nd, rfl⟩⟩; refine ⟨_, rfl, ?_⟩) | (go_at_call 87; (with_reducible refine (QbB.calls a1 t129 _ A6.out).mono ?_); rintro e w' ⟨rfl, ⟨nd, rfl⟩⟩))
   go_meet
   case rel => exact ⟨_, (!t129), (Zs), H', ⟨by first | omega | exact Nat.le_refl _⟩, Zd⟩
  replace c5 := Bool.eq_false_iff.mpr c5
  subst c5
  have H1 : (Qbh.j0 k a0 a1 T) = some (r1, r2) := by rw [if_neg (show ¬ (F = T) by decide)] at H; exact H
  clear H
  have H := H1
  clear H1
  have H' := Aside0.mk H
  clear H
  go_wp2_with (first | ((with_reducible refine Qax (f := 87) rfl ?_); refine goesL_ (some 9) rfl rfl Try.func87 (by kernel_rfl) rfl #[.int .i64 a0] rfl (Zl) ?_; (with_reducible refine (QbB.calls a0 F _ A4.out).mono ?_); rintro e w' ⟨rfl, ⟨nd, rfl⟩⟩; refine ⟨_, rfl, ?_⟩))
  go_meet
  case rel => exact ⟨_, (T), (Zs), H', ⟨by first | omega | exact Nat.le_refl _⟩, Zd⟩
 case rest =>
  clear HC3
  try clear c1
  try clear p2
  try clear c5
  obtain ⟨kq, x15_2, rfl, HA, HJ2, ⟨mc2, rfl⟩⟩ := hcut
  cases kq with
  | zero => exact absurd HA.out (by simp [Qbh.j0])
  | succ kj2 =>
   have H := HA.out
   clear HA
   simp only [Qbh.j0] at H
   by_cases c7 : x15_2 = T
   ·subst c7
    have H1 : (some (0, 2)) = some (r1, r2) := by rw [if_pos rfl] at H; exact H
    clear H
    have H := H1
    clear H1
    simp only [Option.some.injEq, Prod.mk.injEq] at H
    obtain ⟨rfl, rfl⟩ := H
    go_wp2
    go_ret2
    exact ⟨Zs, Zd⟩
   replace c7 := Bool.eq_false_iff.mpr c7
   subst c7
   have H1 : ((Qbv.f a0).bind fun t130 => ((Qbv.f a1).bind fun t131 => ((QbA.f t130 t131).bind fun bt132 => (if bt132.1 > 0 then (some (0, 3)) else ((Qbr.f bt132.2 (!((decide (a0 < 0)) == (decide (a1 < 0))))).bind fun bt134 => (some (bt134.1, bt134.2))))))) = some (r1, r2) := by rw [if_neg (show ¬ (F = T) by decide)] at H; exact H
   clear H
   have H := H1
   clear H1
   replace H := Option.bind_eq_some_iff.mp H
   obtain ⟨t130, A80, H⟩ := H
   replace H : ((Qbv.f a1).bind fun t131 => ((QbA.f t130 t131).bind fun bt132 => (if bt132.1 > 0 then (some (0, 3)) else ((Qbr.f bt132.2 (!((decide (a0 < 0)) == (decide (a1 < 0))))).bind fun bt134 => (some (bt134.1, bt134.2)))))) = some (r1, r2) := H
   have A8 := Aside0.mk A80
   clear A80
   replace H := Option.bind_eq_some_iff.mp H
   obtain ⟨t131, A90, H⟩ := H
   replace H : ((QbA.f t130 t131).bind fun bt132 => (if bt132.1 > 0 then (some (0, 3)) else ((Qbr.f bt132.2 (!((decide (a0 < 0)) == (decide (a1 < 0))))).bind fun bt134 => (some (bt134.1, bt134.2))))) = some (r1, r2) := H
   have A9 := Aside0.mk A90
   clear A90
   replace H := Option.bind_eq_some_iff.mp H
   obtain ⟨⟨t132, t133⟩, A100, H⟩ := H
   replace H : (if t132 > 0 then (some (0, 3)) else ((Qbr.f t133 (!((decide (a0 < 0)) == (decide (a1 < 0))))).bind fun bt134 => (some (bt134.1, bt134.2)))) = some (r1, r2) := H
   have A10 := Aside0.mk A100
   clear A100
   go_upto_if 25 with (first | ((with_reducible refine Qax (f := 89) rfl ?_); refine goesL_ (some 18) rfl rfl Try.func89 (by kernel_rfl) rfl #[.int .i64 a0] rfl (Zl) ?_; (with_reducible refine (Qbv.calls a0 t130 _ A8.out).mono ?_); rintro e w' ⟨rfl, ⟨nd, rfl⟩⟩; refine ⟨_, rfl, ?_⟩) | ((with_reducible refine Qax (f := 89) rfl ?_); refine goesL_ (some 20) rfl rfl Try.func89 (by kernel_rfl) rfl #[.int .i64 a1] rfl (Zl) ?_; (with_reducible refine (Qbv.calls a1 t131 _ A9.out).mono ?_); rintro e w' ⟨rfl, ⟨nd, rfl⟩⟩; refine ⟨_, rfl, ?_⟩) | ((with_reducible refine Qax (f := 88) rfl ?_); refine goesL_ (some 21) rfl rfl Try.func88 (by kernel_rfl) rfl #[.int .u64 t130, .int .u64 t131] rfl (Zl) ?_; (with_reducible refine (QbA.calls t130 t131 t132 t133 _ A10.out).mono ?_); rintro e w' ⟨rfl, ⟨nd, rfl⟩⟩; refine ⟨_, rfl, ?_⟩))
   (try simp only [Act.put, Zj, Zk, Zm])
   by_cases c11 : t132 > 0
   ·rw [if_pos c11] at H
    have c11b0 : decide (0 < t132) = T := decide_eq_true c11
    clear c11
    (try simp only [c11b0])
    simp only [Option.some.injEq, Prod.mk.injEq] at H
    obtain ⟨rfl, rfl⟩ := H
    go_wp2
    go_ret2
    exact ⟨Zs, Zd⟩
   rw [if_neg c11] at H
   have c11b0 : decide (0 < t132) = F := decide_eq_false c11
   clear c11
   (try simp only [c11b0])
   replace H := Option.bind_eq_some_iff.mp H
   obtain ⟨⟨t134, t135⟩, A120, H⟩ := H
   replace H : (some (t134, t135)) = some (r1, r2) := H
   have A12 := Aside0.mk A120
   clear A120
   simp only [Option.some.injEq, Prod.mk.injEq] at H
   obtain ⟨rfl, rfl⟩ := H
   go_wp2_with (first | ((with_reducible refine Qax (f := 92) rfl ?_); refine goesL_ (some 32) rfl rfl Try.func92 (by kernel_rfl) rfl #[.int .u64 t133, .bool (!((decide (a0 < 0)) == (decide (a1 < 0))))] rfl (Zl) ?_; (with_reducible refine (Qbr.calls t133 (!((decide (a0 < 0)) == (decide (a1 < 0)))) t134 t135 _ A12.out).mono ?_); rintro e w' ⟨rfl, ⟨nd, rfl⟩⟩; refine ⟨_, rfl, ?_⟩))
   go_ret2
   exact ⟨Zs, Zd⟩
def QbJ.f (k : Nat) (a0_0 : ByteArray) (a0_1 : Int) (a0_2 : Int) (a0_3 : Int) (a0_4 : Int) (a0_5 : Int) (a1 : Int) : Option (Int × Int) := (QaY.f k a0_0 a0_1 a0_2 a0_3 a0_4 a0_5).bind fun t137 => (if t137 = 0 then ((QbY.f a1).bind fun t138 => (if t138 = T then ((Qbh.f k a1 a0_3).bind fun bt139 => (some (bt139.1, bt139.2))) else (some (0, 18)))) else (some (0, t137)))
theorem QbJ.mono : ∀ a0 a1 a2 a3 a4 a5 a6 k, LeO (QbJ.f k a0 a1 a2 a3 a4 a5 a6) (QbJ.f (k + 1) a0 a1 a2 a3 a4 a5 a6) := by
 intro a0 a1 a2 a3 a4 a5 a6 k
 unfold QbJ.f
 exact ZM2 QaY.mono Qbh.mono
set_option maxHeartbeats 8000000 in
theorem QbJ.calls (k : Nat) (a0_0 : ByteArray) (a0_1 : Int) (a0_2 : Int) (a0_3 : Int) (a0_4 : Int) (a0_5 : Int) (a1 : Int) (r1 : Int) (r2 : Int) (w : World) (h : QbJ.f k a0_0 a0_1 a0_2 a0_3 a0_4 a0_5 a1 = some (r1, r2)) :
  Calls Try.prog 114 #[.agg #[.string a0_0, .int .i64 a0_1, .int .i64 a0_2, .int .i64 a0_3, .int .i64 a0_4, .int .i64 a0_5], .int .i64 a1] w fun e w' => e = .returned (.tuple #[.int .i64 r1, .int .i64 r2]) ∧ Below w.heap.size w w' := by
 have hu84 := Try.underlying84
 have HB := Aside0.mk (Below.refl w.heap.size w)
 have H : ((QaY.f k a0_0 a0_1 a0_2 a0_3 a0_4 a0_5).bind fun t137 => (if t137 = 0 then ((QbY.f a1).bind fun t138 => (if t138 = T then ((Qbh.f k a1 a0_3).bind fun bt139 => (some (bt139.1, bt139.2))) else (some (0, 18)))) else (some (0, t137)))) = some (r1, r2) := h
 clear h
 replace H := Option.bind_eq_some_iff.mp H
 obtain ⟨t137, A30, H⟩ := H
 replace H : (if t137 = 0 then ((QbY.f a1).bind fun t138 => (if t138 = T then ((Qbh.f k a1 a0_3).bind fun bt139 => (some (bt139.1, bt139.2))) else (some (0, 18)))) else (some (0, t137))) = some (r1, r2) := H
 have A3 := Aside0.mk A30
 clear A30
 go_enter Try.func114, Try.ntmps114
 go_upto_if 10 with (first | ((with_reducible refine QaJ (N := 2) rfl ?_); refine Zbx (N := 2) (cs := #[.string a0_0, .int .i64 a0_1, .int .i64 a0_2, .int .i64 a0_3, .int .i64 a0_4, .int .i64 a0_5]) (t := 84) ?_; intro gb136 hg w4 hbox hb; have BK136 := Aside0.mk (hbox); have GW136 := Aside0.mk (Zt w hg (Zb)); have GE136 := GW136; replace HB := Aside0.mk (Qao (Zb) hb); clear hb hbox hg; obtain ⟨hcz5_0, hfz5_0⟩ := Zy (v := (.string a0_0)) BK136.out 0; obtain ⟨hcz5_1, hfz5_1⟩ := Zy (v := (.int .i64 a0_1)) BK136.out 1; obtain ⟨hcz5_2, hfz5_2⟩ := Zy (v := (.int .i64 a0_2)) BK136.out 2; obtain ⟨hcz5_3, hfz5_3⟩ := Zy (v := (.int .i64 a0_3)) BK136.out 3; obtain ⟨hcz5_4, hfz5_4⟩ := Zy (v := (.int .i64 a0_4)) BK136.out 4; obtain ⟨hcz5_5, hfz5_5⟩ := Zy (v := (.int .i64 a0_5)) BK136.out 5) | ((with_reducible refine Qax (f := 78) rfl ?_); refine goesL_ (some 8) rfl rfl Try.func78 (by kernel_rfl) rfl #[.agg #[.string a0_0, .int .i64 a0_1, .int .i64 a0_2, .int .i64 a0_3, .int .i64 a0_4, .int .i64 a0_5]] rfl (Zl) ?_; (with_reducible refine (QaY.calls k a0_0 a0_1 a0_2 a0_3 a0_4 a0_5 t137 _ A3.out).mono ?_); rintro e w6 ⟨rfl, hb⟩; refine ⟨_, rfl, ?_⟩; replace BK136 := Aside0.mk (Zi BK136.out hb); replace HB := Aside0.mk (Qao (Zc1 GE136.out) hb); (try clear hb); (try clear hb2); (try clear hk); (try clear hi)))
 (try simp only [Act.put, Zj, Zk, Zm])
 by_cases c7 : t137 = 0
 ·rw [if_pos c7] at H
  have c7b0 : (t137 == 0) = T := beq_iff_eq.mpr c7
  have c7b1 : (t137 != 0) = F := bne_eq_false_iff_eq.mpr c7
  clear c7
  (try simp only [c7b0, c7b1])
  replace H := Option.bind_eq_some_iff.mp H
  obtain ⟨t138, A80, H⟩ := H
  replace H : (if t138 = T then ((Qbh.f k a1 a0_3).bind fun bt139 => (some (bt139.1, bt139.2))) else (some (0, 18))) = some (r1, r2) := H
  have A8 := Aside0.mk A80
  clear A80
  go_upto_if 14 with (first | ((with_reducible refine Qax (f := 80) rfl ?_); refine goesL_ (some 13) rfl rfl Try.func80 (by kernel_rfl) rfl #[.int .i64 a1] rfl (Zl) ?_; (with_reducible refine (QbY.calls a1 t138 _ A8.out).mono ?_); rintro e w' ⟨rfl, ⟨nd, rfl⟩⟩; refine ⟨_, rfl, ?_⟩))
  (try simp only [Act.put, Zj, Zk, Zm])
  by_cases c9 : t138 = T
  ·subst c9
   have H1 : ((Qbh.f k a1 a0_3).bind fun bt139 => (some (bt139.1, bt139.2))) = some (r1, r2) := by rw [if_pos rfl] at H; exact H
   clear H
   have H := H1
   clear H1
   replace H := Option.bind_eq_some_iff.mp H
   obtain ⟨⟨t139, t140⟩, A100, H⟩ := H
   replace H : (some (t139, t140)) = some (r1, r2) := H
   have A10 := Aside0.mk A100
   clear A100
   simp only [Option.some.injEq, Prod.mk.injEq] at H
   obtain ⟨rfl, rfl⟩ := H
   obtain ⟨hcz11_0, hfz11_0⟩ := Zy (v := (.string a0_0)) BK136.out 0
   obtain ⟨hcz11_1, hfz11_1⟩ := Zy (v := (.int .i64 a0_1)) BK136.out 1
   obtain ⟨hcz11_2, hfz11_2⟩ := Zy (v := (.int .i64 a0_2)) BK136.out 2
   obtain ⟨hcz11_3, hfz11_3⟩ := Zy (v := (.int .i64 a0_3)) BK136.out 3
   obtain ⟨hcz11_4, hfz11_4⟩ := Zy (v := (.int .i64 a0_4)) BK136.out 4
   obtain ⟨hcz11_5, hfz11_5⟩ := Zy (v := (.int .i64 a0_5)) BK136.out 5
   go_wp2_with (first | ((with_reducible refine Qax (f := 125) rfl ?_); refine goesL_ (some 18) rfl rfl Try.func125 (by kernel_rfl) rfl #[.int .i64 a1, .int .i64 a0_3] rfl (Zl) ?_; (with_reducible refine (Qbh.calls k a1 a0_3 t139 t140 _ A10.out).mono ?_); rintro e w' ⟨rfl, ⟨nd, rfl⟩⟩; refine ⟨_, rfl, ?_⟩))
   go_ret2
   exact ⟨Zq, Zc1 GE136.out⟩
  replace c9 := Bool.eq_false_iff.mpr c9
  subst c9
  have H1 : (some (0, 18)) = some (r1, r2) := by rw [if_neg (show ¬ (F = T) by decide)] at H; exact H
  clear H
  have H := H1
  clear H1
  simp only [Option.some.injEq, Prod.mk.injEq] at H
  obtain ⟨rfl, rfl⟩ := H
  go_wp2
  go_ret2
  exact ⟨Zq, Zc1 GE136.out⟩
 rw [if_neg c7] at H
 have c7b0 : (t137 == 0) = F := beq_eq_false_iff_ne.mpr c7
 have c7b1 : (t137 != 0) = T := bne_iff_ne.mpr c7
 (try simp only [c7b0, c7b1])
 simp only [Option.some.injEq, Prod.mk.injEq] at H
 obtain ⟨rfl, rfl⟩ := H
 go_wp2
 go_ret2
 exact ⟨Zq, Zc1 GE136.out⟩
def Qb9.f (s a0 : ByteArray) : Option Bool := some (decide (a0.toList = s.toList))
set_option maxHeartbeats 1000000 in
theorem Qb9.calls (D : Addr) (s : ByteArray) (a0_0 : ByteArray) (a0_1 : Int) (r : Bool) (w : World) (hd : w.cell? D = some (.string s)) (h : Qb9.f s a0_0 = some r) :
  Calls Try.prog 124 #[.agg #[.string a0_0, .int .i64 a0_1], .pointer (some D)] w fun e w' => e = .returned (.bool r) ∧ Below w.heap.size w w' := by
 have hu87 := Try.underlying98
 have hd1 := hd
 have ld : D.block < w.heap.size := World.block_lt_of_cell? _ _ (by rw [hd])
 have H := Aside0.mk (Option.some.inj h)
 clear h
 by_cases c : a0_0.toList = s.toList
 all_goals
  go_enter Try.func124, Try.ntmps124
  go_wp2
  go_ret
  refine ⟨congrArg Ending.returned (congrArg Value.bool ?_), by repeat (first | exact Below.refl _ _ | apply Qag | apply Qae | apply Qb6)⟩
  rw [← H.out]
  simp [c]
def Qbj.l0 : Nat → List (S98) → ByteArray → Int → Int → Option (Int)
 | 0, _, _, _, _ => none
 | k + 1, x0, s, x7, x8 => if x8 < x7 then (if 0 ≤ x8 then (if x8 < (x0.length : Int) then ((Qb9.f s ((rd_T98 x0 x8).f0)).bind fun t109 => (if t109 = T then (some x8) else (Qbj.l0 k x0 s x7 (wrap64 (x8 + 1))))) else (none)) else (none)) else (some (-1))
def Qbj.f (k : Nat) (l0 : List (S98)) (s : ByteArray) : Option (Int) := Qbj.l0 k l0 s (l0.length : Int) 0
theorem Qbj.mono_l : ∀ k, (∀ y0 y1 y2 y3, LeO (Qbj.l0 k y0 y1 y2 y3) (Qbj.l0 (k + 1) y0 y1 y2 y3))
 | 0 => fun _ _ _ _ r h => by simp [Qbj.l0] at h
 | k + 1 => by
  have ih0 := Qbj.mono_l k
  intro y0 y1 y2 y3
  unfold Qbj.l0
  exact ZM1 ih0
theorem Qbj.mono : ∀ a0 a1 k, LeO (Qbj.f k a0 a1) (Qbj.f (k + 1) a0 a1) := by
 intro a0 a1 k
 have ih0 := Qbj.mono_l k
 unfold Qbj.f
 exact ZM1 ih0
set_option maxHeartbeats 8000000 in
theorem Qbj.calls (k : Nat) (D : Addr) (s : ByteArray) (A0 : Option Addr) (c0 : Nat) (l0 : List (S98)) (r : Int) (w : World) (hD : Aside0 (w.cell? D = some (.string s))) (hr0 : Kd.C k98 w A0 l0.length l0) (hc0 : l0.length ≤ c0) (h : Qbj.f k l0 s = some r) :
  Calls Try.prog 123 #[.slice A0 l0.length c0, .func (.func 124) #[] #[.pointer (some D)]] w fun e w' => e = .returned (.int .i64 r) ∧ Below w.heap.size w w' := by
 have hu87 := Try.underlying98
 have HR0 := Aside0.mk hr0
 have HC0 := Aside0.mk hc0
 clear hr0 hc0
 have HB := Aside0.mk (Below.refl w.heap.size w)
 have H : (Qbj.l0 k l0 s (l0.length : Int) 0) = some r := h
 clear h
 have H' := Aside0.mk H
 clear H
 go_enter Try.func123, Try.ntmps123
 go_wp2
 go_loopg [8] k (fun kq v8 w' => ∃ (x8_1 : Int), v8 = .int .i64 x8_1 ∧ Aside0 (Qbj.l0 kq l0 s (l0.length : Int) x8_1 = some r) ∧ Aside0 (kq ≤ k) ∧ Aside0 (Below w.heap.size w w'))
 case atStart => exact ⟨(0), (Zs), H', ⟨Nat.le_refl _⟩, ⟨Zb⟩⟩
 case round =>
  clear H'
  try clear p2
  obtain ⟨x8_1, rfl, HA, HK1, HB⟩ := hrel
  cases gk with
  | zero => exact absurd HA.out (by simp [Qbj.l0])
  | succ k1 =>
   have H := HA.out
   clear HA
   simp only [Qbj.l0] at H
   by_cases c3 : x8_1 < (l0.length : Int)
   ·rw [if_pos c3] at H
    have c3b0 : decide (x8_1 < (l0.length : Int)) = T := decide_eq_true c3
    clear c3
    by_cases c4 : 0 ≤ x8_1
    ·rw [if_pos c4] at H
     have c4b0 : decide (0 ≤ x8_1) = T := decide_eq_true c4
     clear c4
     by_cases c5 : x8_1 < (l0.length : Int)
     ·rw [if_pos c5] at H
      have c5b0 : decide (x8_1 < (l0.length : Int)) = T := decide_eq_true c5
      clear c5
      replace H := Option.bind_eq_some_iff.mp H
      obtain ⟨t109, A60, H⟩ := H
      replace H : (if t109 = T then (some x8_1) else (Qbj.l0 k1 l0 s (l0.length : Int) (wrap64 (x8_1 + 1)))) = some r := H
      have A6 := Aside0.mk A60
      clear A60
      by_cases c7 : t109 = T
      ·subst c7
       have H1 : (some x8_1) = some r := by rw [if_pos rfl] at H; exact H
       clear H
       have H := H1
       clear H1
       obtain rfl := Option.some.inj H
       have p108 : 0 ≤ (x8_1 : Int) := Ze
       have q108 : x8_1 < (l0.length : Int) := Ze
       obtain ⟨ad108, e108, hx108_0, hx108_1⟩ := at_T98 HR0.out x8_1 p108 q108
       cases e108
       replace hx108_0 := Zx HB.out hx108_0
       replace hx108_1 := Zx HB.out hx108_1
       replace p108 := eq_true p108
       replace q108 := eq_true q108
       go_wp2_with (first | (go_at_call 124; refine (Qb9.calls D s ((rd_T98 l0 x8_1).f0) ((rd_T98 l0 x8_1).f1) T _ ((HB.out.cell (World.block_lt_of_cell? w _ hD.out)).trans hD.out) A6.out).mono ?_; rintro e w8 ⟨rfl, hb⟩; replace HB := Aside0.mk (Qao (Zb) hb); (try clear hb); (try clear hb2); (try clear hk); (try clear hi)))
       go_ret
       exact ⟨Zq, Zb⟩
      replace c7 := Bool.eq_false_iff.mpr c7
      subst c7
      have H1 : (Qbj.l0 k1 l0 s (l0.length : Int) (wrap64 (x8_1 + 1))) = some r := by rw [if_neg (show ¬ (F = T) by decide)] at H; exact H
      clear H
      have H := H1
      clear H1
      have H' := Aside0.mk H
      clear H
      have p108 : 0 ≤ (x8_1 : Int) := Ze
      have q108 : x8_1 < (l0.length : Int) := Ze
      obtain ⟨ad108, e108, hx108_0, hx108_1⟩ := at_T98 HR0.out x8_1 p108 q108
      cases e108
      replace hx108_0 := Zx HB.out hx108_0
      replace hx108_1 := Zx HB.out hx108_1
      replace p108 := eq_true p108
      replace q108 := eq_true q108
      go_wp2_with (first | (go_at_call 124; refine (Qb9.calls D s ((rd_T98 l0 x8_1).f0) ((rd_T98 l0 x8_1).f1) F _ ((HB.out.cell (World.block_lt_of_cell? w _ hD.out)).trans hD.out) A6.out).mono ?_; rintro e w9 ⟨rfl, hb⟩; replace HB := Aside0.mk (Qao (Zb) hb); (try clear hb); (try clear hb2); (try clear hk); (try clear hi)))
      go_roundg k1
      case measure => have := HK1.out; omega
      case rel => exact ⟨(wrap64 (x8_1 + 1)), (Zs), H', ⟨by have := HK1.out; omega⟩, ⟨Zb⟩⟩
     rw [if_neg c5] at H
     exact absurd H (by simp)
    rw [if_neg c4] at H
    exact absurd H (by simp)
   rw [if_neg c3] at H
   have c3b0 : decide (x8_1 < (l0.length : Int)) = F := decide_eq_false c3
   clear c3
   obtain rfl := Option.some.inj H
   go_wp2
   go_ret
   exact ⟨Zq, Zb⟩
def QbM.f (k : Nat) (l0 : List S98) (a1 : ByteArray) : Option (Int × Bool) := (Qbj.f k l0 a1).bind fun t => some (mx t 0, decide (t ≥ 0))
theorem QbM.mono : ∀ a0 a1 k, LeO (QbM.f k a0 a1) (QbM.f (k + 1) a0 a1) := by
 intro a0 a1 k
 unfold QbM.f
 exact LeO.bind (Qbj.mono _ _ _) (fun _ => LeO.refl _)
set_option maxHeartbeats 8000000 in
theorem QbM.calls (k : Nat) (A0 : Option Addr) (c0 : Nat) (l0 : List S98) (a1 : ByteArray) (r1 : Int) (r2 : Bool) (w : World) (hr0 : Kd.C k98 w A0 l0.length l0) (hc0 : l0.length ≤ c0) (h : QbM.f k l0 a1 = some (r1, r2)) :
  Calls Try.prog 112 #[.slice A0 l0.length c0, .string a1] w fun e w' => e = .returned (.tuple #[.int .i64 r1, .bool r2]) ∧ Below w.heap.size w w' := by
 have HR := Aside0.mk hr0
 have HC := Aside0.mk hc0
 clear hr0 hc0
 obtain ⟨t, ht, h⟩ := Option.bind_eq_some_iff.1 h
 have HT := Aside0.mk ht
 clear ht
 simp only [Option.some.injEq, Prod.mk.injEq] at h
 obtain ⟨rfl, rfl⟩ := h
 go_enter Try.func112, Try.ntmps112
 go_wp2_with fail
 refine (Qbj.calls k ⟨w.heap.size, 0, none⟩ a1 A0 c0 l0 t _ ⟨?_⟩ (Kd.C_below HR.out ?_) HC.out HT.out).mono ?_
 ·go_simp
 ·repeat (first | exact Below.refl _ _ | apply Qag)
 rintro e w1 ⟨rfl, hb⟩
 have HB := Aside0.mk ((Qag (Below.refl w.heap.size w) (.cells #[.string a1] 9 (0, 0))).trans (hb.mono (by simp)))
 clear hb
 by_cases ht0 : t < 0
 ·go_wp2
  go_ret2
  refine ⟨?_, by repeat (first | exact HB.out | apply Qag | apply Qae | apply Qb6)⟩
  have h1 : mx t 0 = 0 := by unfold mx; rw [if_pos ht0]
  have h2 : ¬ t ≥ 0 := by omega
  simp [h1, h2]
 have ht1 : 0 ≤ t := by omega
 have h1 : mx t 0 = t := by unfold mx; rw [if_neg ht0]
 have h2 : t ≥ 0 := by omega
 go_wp2
 go_ret2
 refine ⟨?_, by repeat (first | exact HB.out | apply Qag | apply Qae | apply Qb6)⟩
 simp [h1, h2]
def QbG.f (k : Nat) (a0_0 : ByteArray) (a0_1 : Int) : Option (Bool) := (QaM.f k a0_0).bind fun t143 => (some (!t143))
theorem QbG.mono : ∀ a0 a1 k, LeO (QbG.f k a0 a1) (QbG.f (k + 1) a0 a1) := by
 intro a0 a1 k
 unfold QbG.f
 exact ZM1 QaM.mono
set_option maxHeartbeats 8000000 in
theorem QbG.calls (k : Nat) (a0_0 : ByteArray) (a0_1 : Int) (r : Bool) (w : World) (h : QbG.f k a0_0 a0_1 = some r) :
  Calls Try.prog 111 #[.agg #[.string a0_0, .int .i64 a0_1]] w fun e w' => e = .returned (.bool r) ∧ Below w.heap.size w w' := by
 have hu98 := Try.underlying98
 have HB := Aside0.mk (Below.refl w.heap.size w)
 have H : ((QaM.f k a0_0).bind fun t143 => (some (!t143))) = some r := h
 clear h
 replace H := Option.bind_eq_some_iff.mp H
 obtain ⟨t143, A20, H⟩ := H
 replace H : (some (!t143)) = some r := H
 have A2 := Aside0.mk A20
 clear A20
 obtain rfl := Option.some.inj H
 go_enter Try.func111, Try.ntmps111
 go_wp2_with (first | ((with_reducible refine QaJ (N := 1) rfl ?_); refine Zbx (N := 1) (cs := #[.string a0_0, .int .i64 a0_1]) (t := 98) ?_; intro gb142 hg w3 hbox hb; have BK142 := Aside0.mk (hbox); have GW142 := Aside0.mk (Zt w hg (Zb)); have GE142 := GW142; replace HB := Aside0.mk (Qao (Zb) hb); clear hb hbox hg; obtain ⟨hcz4_0, hfz4_0⟩ := Zy (v := (.string a0_0)) BK142.out 0; obtain ⟨hcz4_1, hfz4_1⟩ := Zy (v := (.int .i64 a0_1)) BK142.out 1) | ((with_reducible refine Qax (f := 108) rfl ?_); refine goesL_ (some 5) rfl rfl Try.func108 (by kernel_rfl) rfl #[.string a0_0] rfl (Zl) ?_; (with_reducible refine (QaM.calls k a0_0 t143 _ A2.out).mono ?_); rintro e w' ⟨rfl, ⟨nd, rfl⟩⟩; refine ⟨_, rfl, ?_⟩))
 go_ret
 exact ⟨Zq, Zc1 GE142.out⟩
def Qar.l0 : Nat → List (S98) → Int → Int → Option (Int)
 | 0, _, _, _ => none
 | k + 1, x0, x7, x8 => if x8 < x7 then (if 0 ≤ x8 then (if x8 < (x0.length : Int) then ((QbG.f k ((rd_T98 x0 x8).f0) ((rd_T98 x0 x8).f1)).bind fun t145 => (if t145 = T then (some x8) else (Qar.l0 k x0 x7 (wrap64 (x8 + 1))))) else (none)) else (none)) else (some (-1))
def Qar.f (k : Nat) (l0 : List (S98))  : Option (Int) := Qar.l0 k l0 (l0.length : Int) 0
theorem Qar.mono_l : ∀ k, (∀ y0 y1 y2, LeO (Qar.l0 k y0 y1 y2) (Qar.l0 (k + 1) y0 y1 y2))
 | 0 => fun _ _ _ r h => by simp [Qar.l0] at h
 | k + 1 => by
  have ih0 := Qar.mono_l k
  intro y0 y1 y2
  unfold Qar.l0
  exact ZM2 ih0 QbG.mono
theorem Qar.mono : ∀ a0 k, LeO (Qar.f k a0) (Qar.f (k + 1) a0) := by
 intro a0 k
 have ih0 := Qar.mono_l k
 unfold Qar.f
 exact ZM2 ih0 QbG.mono
set_option maxHeartbeats 8000000 in
theorem Qar.calls (k : Nat) (A0 : Option Addr) (c0 : Nat) (l0 : List (S98))  (r : Int) (w : World) (hr0 : Kd.C k98 w A0 l0.length l0) (hc0 : l0.length ≤ c0) (h : Qar.f k l0 = some r) :
  Calls Try.prog 123 #[.slice A0 l0.length c0, .func (.func 111) #[] #[]] w fun e w' => e = .returned (.int .i64 r) ∧ Below w.heap.size w w' := by
 have hu98 := Try.underlying98
 have HR0 := Aside0.mk hr0
 have HC0 := Aside0.mk hc0
 clear hr0 hc0
 have HB := Aside0.mk (Below.refl w.heap.size w)
 have H : (Qar.l0 k l0 (l0.length : Int) 0) = some r := h
 clear h
 have H' := Aside0.mk H
 clear H
 go_enter Try.func123, Try.ntmps123
 go_wp2
 go_loopg [8] k (fun kq v8 w' => ∃ (x8_1 : Int), v8 = .int .i64 x8_1 ∧ Aside0 (Qar.l0 kq l0 (l0.length : Int) x8_1 = some r) ∧ Aside0 (kq ≤ k) ∧ Aside0 (Below w.heap.size w w'))
 case atStart => exact ⟨(0), (Zs), H', ⟨Nat.le_refl _⟩, ⟨Zb⟩⟩
 case round =>
  clear H'
  try clear p2
  obtain ⟨x8_1, rfl, HA, HK1, HB⟩ := hrel
  cases gk with
  | zero => exact absurd HA.out (by simp [Qar.l0])
  | succ k1 =>
   have H := HA.out
   clear HA
   simp only [Qar.l0] at H
   by_cases c3 : x8_1 < (l0.length : Int)
   ·rw [if_pos c3] at H
    have c3b0 : decide (x8_1 < (l0.length : Int)) = T := decide_eq_true c3
    clear c3
    (try simp only [c3b0])
    by_cases c4 : 0 ≤ x8_1
    ·rw [if_pos c4] at H
     have c4b0 : decide (0 ≤ x8_1) = T := decide_eq_true c4
     clear c4
     by_cases c5 : x8_1 < (l0.length : Int)
     ·rw [if_pos c5] at H
      have c5b0 : decide (x8_1 < (l0.length : Int)) = T := decide_eq_true c5
      clear c5
      replace H := Option.bind_eq_some_iff.mp H
      obtain ⟨t145, A60, H⟩ := H
      replace H : (if t145 = T then (some x8_1) else (Qar.l0 k1 l0 (l0.length : Int) (wrap64 (x8_1 + 1)))) = some r := H
      have A6 := Aside0.mk A60
      clear A60
      have p144 : 0 ≤ (x8_1 : Int) := Ze
      have q144 : x8_1 < (l0.length : Int) := Ze
      obtain ⟨ad144, e144, hx144_0, hx144_1⟩ := at_T98 HR0.out x8_1 p144 q144
      cases e144
      replace hx144_0 := Zx HB.out hx144_0
      replace hx144_1 := Zx HB.out hx144_1
      replace p144 := eq_true p144
      replace q144 := eq_true q144
      go_upto_if 16 with (first | (go_at_call 111; (with_reducible refine (QbG.calls k1 ((rd_T98 l0 x8_1).f0) ((rd_T98 l0 x8_1).f1) t145 _ A6.out).mono ?_); rintro e w7 ⟨rfl, hb⟩; replace HB := Aside0.mk (Qao (Zb) hb); (try clear hb); (try clear hb2); (try clear hk); (try clear hi)))
      (try simp only [Act.put, Zj, Zk, Zm])
      by_cases c8 : t145 = T
      ·subst c8
       have H1 : (some x8_1) = some r := by rw [if_pos rfl] at H; exact H
       clear H
       have H := H1
       clear H1
       obtain rfl := Option.some.inj H
       go_wp2
       go_ret
       exact ⟨Zq, Zb⟩
      replace c8 := Bool.eq_false_iff.mpr c8
      subst c8
      have H1 : (Qar.l0 k1 l0 (l0.length : Int) (wrap64 (x8_1 + 1))) = some r := by rw [if_neg (show ¬ (F = T) by decide)] at H; exact H
      clear H
      have H := H1
      clear H1
      have H' := Aside0.mk H
      clear H
      go_wp2
      go_roundg k1
      case measure => have := HK1.out; omega
      case rel => exact ⟨(wrap64 (x8_1 + 1)), (Zs), H', ⟨by have := HK1.out; omega⟩, ⟨Zb⟩⟩
     rw [if_neg c5] at H
     exact absurd H (by simp)
    rw [if_neg c4] at H
    exact absurd H (by simp)
   rw [if_neg c3] at H
   have c3b0 : decide (x8_1 < (l0.length : Int)) = F := decide_eq_false c3
   clear c3
   (try simp only [c3b0])
   obtain rfl := Option.some.inj H
   go_wp2
   go_ret
   exact ⟨Zq, Zb⟩
def QaD.f (k : Nat) (l0 : List (S98))  : Option (Bool) := (Qar.f k l0).bind fun t146 => (some (decide (t146 ≥ 0)))
theorem QaD.mono : ∀ a0 k, LeO (QaD.f k a0) (QaD.f (k + 1) a0) := by
 intro a0 k
 unfold QaD.f
 exact ZM1 Qar.mono
set_option maxHeartbeats 8000000 in
theorem QaD.calls (k : Nat) (A0 : Option Addr) (c0 : Nat) (l0 : List (S98))  (r : Bool) (w : World) (hr0 : Kd.C k98 w A0 l0.length l0) (hc0 : l0.length ≤ c0) (h : QaD.f k l0 = some r) :
  Calls Try.prog 110 #[.slice A0 l0.length c0, .func (.func 111) #[] #[]] w fun e w' => e = .returned (.bool r) ∧ Below w.heap.size w w' := by
 have HR0 := Aside0.mk hr0
 have HC0 := Aside0.mk hc0
 clear hr0 hc0
 have HB := Aside0.mk (Below.refl w.heap.size w)
 have H : ((Qar.f k l0).bind fun t146 => (some (decide (t146 ≥ 0)))) = some r := h
 clear h
 replace H := Option.bind_eq_some_iff.mp H
 obtain ⟨t146, A30, H⟩ := H
 replace H : (some (decide (t146 ≥ 0))) = some r := H
 have A3 := Aside0.mk A30
 clear A30
 obtain rfl := Option.some.inj H
 go_enter Try.func110, Try.ntmps110
 go_wp2_with (first | ((with_reducible refine Qax (f := 123) rfl ?_); refine goesL_ (some 7) rfl rfl Try.func123 (by kernel_rfl) rfl #[.slice A0 l0.length c0, .func (.func 111) #[] #[]] rfl (Zl) ?_; (with_reducible refine (Qar.calls k _ _ l0  t146 _ ?side1 ?side2 A3.out).mono ?_); (case side1 => exact Zv HR0.out); (case side2 => exact HC0.out); rintro e w4 ⟨rfl, hb⟩; refine ⟨_, rfl, ?_⟩; replace HB := Aside0.mk (Qao (Zb) hb); (try clear hb); (try clear hb2); (try clear hk); (try clear hi)))
 go_ret
 exact ⟨Zq, Zb⟩
def Qas.l0 : Nat → List (S98) → Int → Int → Option (Int)
 | 0, _, _, _ => none
 | k + 1, x0, x7, x8 => if x8 < x7 then (if 0 ≤ x8 then (if x8 < (x0.length : Int) then ((Qcc.f ((rd_T98 x0 x8).f0) ((rd_T98 x0 x8).f1)).bind fun t149 => (if t149 = T then (some x8) else (Qas.l0 k x0 x7 (wrap64 (x8 + 1))))) else (none)) else (none)) else (some (-1))
def Qas.f (k : Nat) (l0 : List (S98))  : Option (Int) := Qas.l0 k l0 (l0.length : Int) 0
theorem Qas.mono_l : ∀ k, (∀ y0 y1 y2, LeO (Qas.l0 k y0 y1 y2) (Qas.l0 (k + 1) y0 y1 y2))
 | 0 => fun _ _ _ r h => by simp [Qas.l0] at h
 | k + 1 => by
  have ih0 := Qas.mono_l k
  intro y0 y1 y2
  unfold Qas.l0
  exact ZM1 ih0
theorem Qas.mono : ∀ a0 k, LeO (Qas.f k a0) (Qas.f (k + 1) a0) := by
 intro a0 k
 have ih0 := Qas.mono_l k
 unfold Qas.f
 exact ZM1 ih0
set_option maxHeartbeats 8000000 in
theorem Qas.calls (k : Nat) (A0 : Option Addr) (c0 : Nat) (l0 : List (S98))  (r : Int) (w : World) (hr0 : Kd.C k98 w A0 l0.length l0) (hc0 : l0.length ≤ c0) (h : Qas.f k l0 = some r) :
  Calls Try.prog 123 #[.slice A0 l0.length c0, .func (.func 113) #[] #[]] w fun e w' => e = .returned (.int .i64 r) ∧ Below w.heap.size w w' := by
 have hu98 := Try.underlying98
 have HR0 := Aside0.mk hr0
 have HC0 := Aside0.mk hc0
 clear hr0 hc0
 have HB := Aside0.mk (Below.refl w.heap.size w)
 have H : (Qas.l0 k l0 (l0.length : Int) 0) = some r := h
 clear h
 have H' := Aside0.mk H
 clear H
 go_enter Try.func123, Try.ntmps123
 go_wp2
 go_loopg [8] k (fun kq v8 w' => ∃ (x8_1 : Int), v8 = .int .i64 x8_1 ∧ Aside0 (Qas.l0 kq l0 (l0.length : Int) x8_1 = some r) ∧ Aside0 (kq ≤ k) ∧ Aside0 (Below w.heap.size w w'))
 case atStart => exact ⟨(0), (Zs), H', ⟨Nat.le_refl _⟩, ⟨Zb⟩⟩
 case round =>
  clear H'
  try clear p2
  obtain ⟨x8_1, rfl, HA, HK1, HB⟩ := hrel
  cases gk with
  | zero => exact absurd HA.out (by simp [Qas.l0])
  | succ k1 =>
   have H := HA.out
   clear HA
   simp only [Qas.l0] at H
   by_cases c3 : x8_1 < (l0.length : Int)
   ·rw [if_pos c3] at H
    have c3b0 : decide (x8_1 < (l0.length : Int)) = T := decide_eq_true c3
    clear c3
    (try simp only [c3b0])
    by_cases c4 : 0 ≤ x8_1
    ·rw [if_pos c4] at H
     have c4b0 : decide (0 ≤ x8_1) = T := decide_eq_true c4
     clear c4
     by_cases c5 : x8_1 < (l0.length : Int)
     ·rw [if_pos c5] at H
      have c5b0 : decide (x8_1 < (l0.length : Int)) = T := decide_eq_true c5
      clear c5
      replace H := Option.bind_eq_some_iff.mp H
      obtain ⟨t149, A60, H⟩ := H
      replace H : (if t149 = T then (some x8_1) else (Qas.l0 k1 l0 (l0.length : Int) (wrap64 (x8_1 + 1)))) = some r := H
      have A6 := Aside0.mk A60
      clear A60
      have p148 : 0 ≤ (x8_1 : Int) := Ze
      have q148 : x8_1 < (l0.length : Int) := Ze
      obtain ⟨ad148, e148, hx148_0, hx148_1⟩ := at_T98 HR0.out x8_1 p148 q148
      cases e148
      replace hx148_0 := Zx HB.out hx148_0
      replace hx148_1 := Zx HB.out hx148_1
      replace p148 := eq_true p148
      replace q148 := eq_true q148
      go_upto_if 16 with (first | (go_at_call 113; (with_reducible refine (Qcc.calls ((rd_T98 l0 x8_1).f0) ((rd_T98 l0 x8_1).f1) t149 _ A6.out).mono ?_); rintro e w7 ⟨rfl, hb⟩; replace HB := Aside0.mk (Qao (Zb) hb); (try clear hb); (try clear hb2); (try clear hk); (try clear hi)))
      (try simp only [Act.put, Zj, Zk, Zm])
      by_cases c8 : t149 = T
      ·subst c8
       have H1 : (some x8_1) = some r := by rw [if_pos rfl] at H; exact H
       clear H
       have H := H1
       clear H1
       obtain rfl := Option.some.inj H
       go_wp2
       go_ret
       exact ⟨Zq, Zb⟩
      replace c8 := Bool.eq_false_iff.mpr c8
      subst c8
      have H1 : (Qas.l0 k1 l0 (l0.length : Int) (wrap64 (x8_1 + 1))) = some r := by rw [if_neg (show ¬ (F = T) by decide)] at H; exact H
      clear H
      have H := H1
      clear H1
      have H' := Aside0.mk H
      clear H
      go_wp2
      go_roundg k1
      case measure => have := HK1.out; omega
      case rel => exact ⟨(wrap64 (x8_1 + 1)), (Zs), H', ⟨by have := HK1.out; omega⟩, ⟨Zb⟩⟩
     rw [if_neg c5] at H
     exact absurd H (by simp)
    rw [if_neg c4] at H
    exact absurd H (by simp)
   rw [if_neg c3] at H
   have c3b0 : decide (x8_1 < (l0.length : Int)) = F := decide_eq_false c3
   clear c3
   (try simp only [c3b0])
   obtain rfl := Option.some.inj H
   go_wp2
   go_ret
   exact ⟨Zq, Zb⟩
def QaF.f (k : Nat) (l0 : List (S98))  : Option (Bool) := (Qas.f k l0).bind fun t150 => (some (decide (t150 ≥ 0)))
theorem QaF.mono : ∀ a0 k, LeO (QaF.f k a0) (QaF.f (k + 1) a0) := by
 intro a0 k
 unfold QaF.f
 exact ZM1 Qas.mono
set_option maxHeartbeats 8000000 in
theorem QaF.calls (k : Nat) (A0 : Option Addr) (c0 : Nat) (l0 : List (S98))  (r : Bool) (w : World) (hr0 : Kd.C k98 w A0 l0.length l0) (hc0 : l0.length ≤ c0) (h : QaF.f k l0 = some r) :
  Calls Try.prog 110 #[.slice A0 l0.length c0, .func (.func 113) #[] #[]] w fun e w' => e = .returned (.bool r) ∧ Below w.heap.size w w' := by
 have HR0 := Aside0.mk hr0
 have HC0 := Aside0.mk hc0
 clear hr0 hc0
 have HB := Aside0.mk (Below.refl w.heap.size w)
 have H : ((Qas.f k l0).bind fun t150 => (some (decide (t150 ≥ 0)))) = some r := h
 clear h
 replace H := Option.bind_eq_some_iff.mp H
 obtain ⟨t150, A30, H⟩ := H
 replace H : (some (decide (t150 ≥ 0))) = some r := H
 have A3 := Aside0.mk A30
 clear A30
 obtain rfl := Option.some.inj H
 go_enter Try.func110, Try.ntmps110
 go_wp2_with (first | ((with_reducible refine Qax (f := 123) rfl ?_); refine goesL_ (some 7) rfl rfl Try.func123 (by kernel_rfl) rfl #[.slice A0 l0.length c0, .func (.func 113) #[] #[]] rfl (Zl) ?_; (with_reducible refine (Qas.calls k _ _ l0  t150 _ ?side1 ?side2 A3.out).mono ?_); (case side1 => exact Zv HR0.out); (case side2 => exact HC0.out); rintro e w4 ⟨rfl, hb⟩; refine ⟨_, rfl, ?_⟩; replace HB := Aside0.mk (Qao (Zb) hb); (try clear hb); (try clear hb2); (try clear hk); (try clear hi)))
 go_ret
 exact ⟨Zq, Zb⟩
mutual
def Qa8.j0 : Nat → List (S98) → Bool → Option (Int)
 | 0, _, _ => none
 | k + 1, x0, x14 => if x14 = T then (some 8) else ((QaD.f k x0).bind fun t151 => (if t151 = T then (some 10) else (Qa8.l0 k x0 x0 (x0.length : Int) 0)))
def Qa8.l0 : Nat → List (S98) → List (S98) → Int → Int → Option (Int)
 | 0, _, _, _, _ => none
 | k + 1, x0, x17, x18, x19 => if x19 < x18 then (if 0 ≤ x19 then (if x19 < (x17.length : Int) then ((QbM.f k x0 ((rd_T98 x17 x19).f0)).bind fun bt154 => (if bt154.1 = x19 then (Qa8.l0 k x0 x17 x18 (wrap64 (x19 + 1))) else (some 12))) else (none)) else (none)) else (if 0 < (x0.length : Int) then (if ((rd_T98 x0 0).f1) = 1000000 then ((QaF.f k x0).bind fun t157 => (if t157 = T then (some 25) else (some 0))) else (some 25)) else (none))
end
def Qa8.f (k : Nat) (l0 : List (S98)) : Option (Int) := if (l0.length : Int) = 0 then (Qa8.j0 k l0 T) else (Qa8.j0 k l0 (decide ((l0.length : Int) > 8)))
theorem Qa8.mono_l : ∀ k, (∀ y0 y1, LeO (Qa8.j0 k y0 y1) (Qa8.j0 (k + 1) y0 y1)) ∧ (∀ y0 y1 y2 y3, LeO (Qa8.l0 k y0 y1 y2 y3) (Qa8.l0 (k + 1) y0 y1 y2 y3))
 | 0 => ⟨fun _ _ r h => by simp [Qa8.j0] at h, fun _ _ _ _ r h => by simp [Qa8.l0] at h⟩
 | k + 1 => by
  obtain ⟨ih0, ih1⟩ := Qa8.mono_l k
  refine ⟨?_, ?_⟩
  ·intro y0 y1
   unfold Qa8.j0
   exact ZM5 ih0 ih1 QbM.mono QaD.mono QaF.mono
  intro y0 y1 y2 y3
  unfold Qa8.l0
  exact ZM5 ih0 ih1 QbM.mono QaD.mono QaF.mono
theorem Qa8.mono : ∀ a0 k, LeO (Qa8.f k a0) (Qa8.f (k + 1) a0) := by
 intro a0 k
 obtain ⟨ih0, ih1⟩ := Qa8.mono_l k
 unfold Qa8.f
 exact ZM5 ih0 ih1 QbM.mono QaD.mono QaF.mono
set_option maxHeartbeats 8000000 in
theorem Qa8.calls (k : Nat) (A0 : Option Addr) (c0 : Nat) (l0 : List (S98)) (r : Int) (w : World) (hr0 : Kd.C k98 w A0 l0.length l0) (hc0 : l0.length ≤ c0) (h : Qa8.f k l0 = some r) :
  Calls Try.prog 79 #[.slice A0 l0.length c0] w fun e w' => e = .returned (.int .i64 r) ∧ Below w.heap.size w w' := by
 have hu98 := Try.underlying98
 have HR0 := Aside0.mk hr0
 have HC0 := Aside0.mk hc0
 clear hr0 hc0
 have HB := Aside0.mk (Below.refl w.heap.size w)
 have H : (if (l0.length : Int) = 0 then (Qa8.j0 k l0 T) else (Qa8.j0 k l0 (decide ((l0.length : Int) > 8)))) = some r := h
 clear h
 have HC2 := Aside0.mk H
 clear H
 go_enter Try.func79, Try.ntmps79
 go_upto_region 1 with (fail)
 go_cut [14] (fun v14 wc => ∃ (kq : Nat) (x14_1 : Bool), v14 = .bool x14_1 ∧ Aside0 (Qa8.j0 kq l0 x14_1 = some r) ∧ Aside0 (kq ≤ k) ∧ Aside0 (Below w.heap.size w wc))
 case first =>
  have H := HC2.out
  clear HC2
  by_cases c3 : (l0.length : Int) = 0
  ·rw [if_pos c3] at H
   have c3b0 : ((l0.length : Int) == 0) = T := beq_iff_eq.mpr c3
   have c3b1 : ((l0.length : Int) != 0) = F := bne_eq_false_iff_eq.mpr c3
   clear c3
   have H' := Aside0.mk H
   clear H
   go_wp2
   go_meet
   case rel => exact ⟨_, (T), (Zs), H', ⟨by first | omega | exact Nat.le_refl _⟩, ⟨Zb⟩⟩
  rw [if_neg c3] at H
  have c3b0 : ((l0.length : Int) == 0) = F := beq_eq_false_iff_ne.mpr c3
  have c3b1 : ((l0.length : Int) != 0) = T := bne_iff_ne.mpr c3
  have c3b2 : ¬ (l0 = []) := fun h_ => c3 (by rw [h_]; rfl)
  have H' := Aside0.mk H
  clear H
  go_wp2
  go_meet
  case rel => exact ⟨_, (decide ((l0.length : Int) > 8)), (Zs), H', ⟨by first | omega | exact Nat.le_refl _⟩, ⟨Zb⟩⟩
 case rest =>
  clear HC2
  try clear p2
  try clear c3
  try clear c3b0
  try clear c3b1
  try clear c3b2
  obtain ⟨kq, x14_1, rfl, HA, HJ1, HB⟩ := hcut
  cases kq with
  | zero => exact absurd HA.out (by simp [Qa8.j0])
  | succ kj1 =>
   have H := HA.out
   clear HA
   simp only [Qa8.j0] at H
   by_cases c4 : x14_1 = T
   ·subst c4
    have H1 : (some 8) = some r := by rw [if_pos rfl] at H; exact H
    clear H
    have H := H1
    clear H1
    obtain rfl := Option.some.inj H
    go_wp2
    go_ret
    exact ⟨Zq, Zb⟩
   replace c4 := Bool.eq_false_iff.mpr c4
   subst c4
   have H1 : ((QaD.f kj1 l0).bind fun t151 => (if t151 = T then (some 10) else (Qa8.l0 kj1 l0 l0 (l0.length : Int) 0))) = some r := by rw [if_neg (show ¬ (F = T) by decide)] at H; exact H
   clear H
   have H := H1
   clear H1
   replace H := Option.bind_eq_some_iff.mp H
   obtain ⟨t151, A50, H⟩ := H
   replace H : (if t151 = T then (some 10) else (Qa8.l0 kj1 l0 l0 (l0.length : Int) 0)) = some r := H
   have A5 := Aside0.mk A50
   clear A50
   go_upto_if 16 with (first | ((with_reducible refine Qax (f := 110) rfl ?_); refine goesL_ (some 16) rfl rfl Try.func110 (by kernel_rfl) rfl #[.slice A0 l0.length c0, .func (.func 111) #[] #[]] rfl (Zl) ?_; (with_reducible refine (QaD.calls kj1 _ _ l0  t151 _ ?side1 ?side2 A5.out).mono ?_); (case side1 => exact Zv (Kd.C_below HR0.out HB.out)); (case side2 => exact HC0.out); rintro e w6 ⟨rfl, hb⟩; refine ⟨_, rfl, ?_⟩; replace HB := Aside0.mk (Qao (Zb) hb); (try clear hb); (try clear hb2); (try clear hk); (try clear hi)))
   (try simp only [Act.put, Zj, Zk, Zm])
   by_cases c7 : t151 = T
   ·subst c7
    have H1 : (some 10) = some r := by rw [if_pos rfl] at H; exact H
    clear H
    have H := H1
    clear H1
    obtain rfl := Option.some.inj H
    go_wp2
    go_ret
    exact ⟨Zq, Zb⟩
   replace c7 := Bool.eq_false_iff.mpr c7
   subst c7
   have H1 : (Qa8.l0 kj1 l0 l0 (l0.length : Int) 0) = some r := by rw [if_neg (show ¬ (F = T) by decide)] at H; exact H
   clear H
   have H := H1
   clear H1
   have H' := Aside0.mk H
   clear H
   go_wp2
   go_loopg [19] kj1 (fun kq v19 w' => ∃ (x19_2 : Int), v19 = .int .i64 x19_2 ∧ Aside0 (Qa8.l0 kq l0 l0 (l0.length : Int) x19_2 = some r) ∧ Aside0 (kq ≤ kj1) ∧ Aside0 (Below w.heap.size w w'))
   case atStart => exact ⟨(0), (Zs), H', ⟨Nat.le_refl _⟩, ⟨Zb⟩⟩
   case round =>
    clear H'
    try clear p2
    try clear c3
    try clear c3b0
    try clear c3b1
    try clear c3b2
    try clear c4
    try clear c7
    try clear p2
    obtain ⟨x19_2, rfl, HA, HK2, HB⟩ := hrel
    cases gk with
    | zero => exact absurd HA.out (by simp [Qa8.l0])
    | succ k2 =>
     have H := HA.out
     clear HA
     simp only [Qa8.l0] at H
     by_cases c8 : x19_2 < (l0.length : Int)
     ·rw [if_pos c8] at H
      have c8b0 : decide (x19_2 < (l0.length : Int)) = T := decide_eq_true c8
      clear c8
      (try simp only [c8b0])
      by_cases c9 : 0 ≤ x19_2
      ·rw [if_pos c9] at H
       have c9b0 : decide (0 ≤ x19_2) = T := decide_eq_true c9
       clear c9
       by_cases c10 : x19_2 < (l0.length : Int)
       ·rw [if_pos c10] at H
        have c10b0 : decide (x19_2 < (l0.length : Int)) = T := decide_eq_true c10
        clear c10
        replace H := Option.bind_eq_some_iff.mp H
        obtain ⟨⟨t154, t155⟩, A110, H⟩ := H
        replace H : (if t154 = x19_2 then (Qa8.l0 k2 l0 l0 (l0.length : Int) (wrap64 (x19_2 + 1))) else (some 12)) = some r := H
        have A11 := Aside0.mk A110
        clear A110
        have p152 : 0 ≤ (x19_2 : Int) := Ze
        have q152 : x19_2 < (l0.length : Int) := Ze
        obtain ⟨ad152, e152, hx152_0, hx152_1⟩ := at_T98 HR0.out x19_2 p152 q152
        cases e152
        replace hx152_0 := Zx HB.out hx152_0
        replace hx152_1 := Zx HB.out hx152_1
        replace p152 := eq_true p152
        replace q152 := eq_true q152
        go_upto_if 33 with (first | ((with_reducible refine QaJ (N := 4) rfl ?_); (try (refine QbF (by rfl) ?_; dsimp only)); refine Zbx (N := 4) (cs := #[.string (⟨#[]⟩ : ByteArray), .int .i64 0]) (t := 98) ?_; intro gb153 hg w12 hbox hb; have BK153 := Aside0.mk (hbox); have GW153 := Aside0.mk (Zt w hg (Zb)); have GE153 := GW153; replace HB := Aside0.mk (Qao (Zb) hb); clear hb hbox hg; obtain ⟨hcz13_0, hfz13_0⟩ := Zy (v := (.string (⟨#[]⟩ : ByteArray))) BK153.out 0; obtain ⟨hcz13_1, hfz13_1⟩ := Zy (v := (.int .i64 0)) BK153.out 1) | ((with_reducible refine Qax (f := 112) rfl ?_); refine goesL_ (some 28) rfl rfl Try.func112 (by kernel_rfl) rfl #[.slice (some ad152) l0.length c0, .string ((rd_T98 l0 x19_2).f0)] rfl (Zl) ?_; (with_reducible refine (QbM.calls k2 _ _ l0 ((rd_T98 l0 x19_2).f0) t154 t155 _ ?side1 ?side2 A11.out).mono ?_); (case side1 => exact Kd.C_below HR0.out (Zc1 GE153.out)); (case side2 => exact HC0.out); rintro e w14 ⟨rfl, hb⟩; refine ⟨_, rfl, ?_⟩; replace BK153 := Aside0.mk (Zpi #[.string ((rd_T98 l0 x19_2).f0), .int .i64 ((rd_T98 l0 x19_2).f1)] BK153.out hb); replace HB := Aside0.mk (Qao (Zc1 GE153.out) hb); (try clear hb); (try clear hb2); (try clear hk); (try clear hi)))
        (try simp only [Act.put, Zj, Zk, Zm])
        by_cases c15 : t154 = x19_2
        ·rw [if_pos c15] at H
         have c15b0 : (t154 == x19_2) = T := beq_iff_eq.mpr c15
         have c15b1 : (t154 != x19_2) = F := bne_eq_false_iff_eq.mpr c15
         clear c15
         (try simp only [c15b0, c15b1])
         have H' := Aside0.mk H
         clear H
         go_wp2
         go_roundg k2
         case measure => have := HJ1.out; have := HK2.out; omega
         case rel => exact ⟨(wrap64 (x19_2 + 1)), (Zs), H', ⟨by have := HJ1.out; have := HK2.out; omega⟩, ⟨Zc1 GE153.out⟩⟩
        rw [if_neg c15] at H
        have c15b0 : (t154 == x19_2) = F := beq_eq_false_iff_ne.mpr c15
        have c15b1 : (t154 != x19_2) = T := bne_iff_ne.mpr c15
        (try simp only [c15b0, c15b1])
        obtain rfl := Option.some.inj H
        go_wp2
        go_ret
        exact ⟨Zq, Zc1 GE153.out⟩
       rw [if_neg c10] at H
       exact absurd H (by simp)
      rw [if_neg c9] at H
      exact absurd H (by simp)
     rw [if_neg c8] at H
     have c8b0 : decide (x19_2 < (l0.length : Int)) = F := decide_eq_false c8
     clear c8
     (try simp only [c8b0])
     by_cases c16 : 0 < (l0.length : Int)
     ·rw [if_pos c16] at H
      have c16b0 : decide (0 < (l0.length : Int)) = T := decide_eq_true c16
      have c16b1 : decide (0 < l0.length) = T := decide_eq_true (by omega)
      clear c16
      by_cases c17 : ((rd_T98 l0 0).f1) = 1000000
      ·rw [if_pos c17] at H
       have c17b0 : (((rd_T98 l0 0).f1) == 1000000) = T := beq_iff_eq.mpr c17
       have c17b1 : (((rd_T98 l0 0).f1) != 1000000) = F := bne_eq_false_iff_eq.mpr c17
       clear c17
       replace H := Option.bind_eq_some_iff.mp H
       obtain ⟨t157, A180, H⟩ := H
       replace H : (if t157 = T then (some 25) else (some 0)) = some r := H
       have A18 := Aside0.mk A180
       clear A180
       have p156 : 0 ≤ (0 : Int) := (by omega)
       have q156 : 0 < (l0.length : Int) := Ze
       obtain ⟨ad156, e156, hx156_0, hx156_1⟩ := at_T98 HR0.out 0 p156 q156
       cases e156
       have qi156 : (0 < l0.length) = True := eq_true (by omega)
       (try rw [show ((0 : Int)).toNat = 0 from rfl] at hx156_0)
       (try rw [show 0 * 2 = 0 from rfl] at hx156_0)
       (try rw [Addr.add_zero'] at hx156_0)
       (try rw [show ((0 : Int)).toNat = 0 from rfl] at hx156_1)
       (try rw [show 0 * 2 = 0 from rfl] at hx156_1)
       (try rw [Addr.add_zero'] at hx156_1)
       replace hx156_0 := Zx HB.out hx156_0
       replace hx156_1 := Zx HB.out hx156_1
       replace p156 := eq_true p156
       replace q156 := eq_true q156
       go_upto_if 43 with (first | (go_at_call 110; (with_reducible refine (QaF.calls k2 _ _ l0  t157 _ ?side1 ?side2 A18.out).mono ?_); (case side1 => exact Zv (Kd.C_below HR0.out HB.out)); (case side2 => exact HC0.out); rintro e w19 ⟨rfl, hb⟩; replace HB := Aside0.mk (Qao (Zb) hb); (try clear hb); (try clear hb2); (try clear hk); (try clear hi)))
       (try simp only [Act.put, Zj, Zk, Zm])
       by_cases c20 : t157 = T
       ·subst c20
        have H1 : (some 25) = some r := by rw [if_pos rfl] at H; exact H
        clear H
        have H := H1
        clear H1
        obtain rfl := Option.some.inj H
        go_wp2
        go_ret
        exact ⟨Zq, Zb⟩
       replace c20 := Bool.eq_false_iff.mpr c20
       subst c20
       have H1 : (some 0) = some r := by rw [if_neg (show ¬ (F = T) by decide)] at H; exact H
       clear H
       have H := H1
       clear H1
       obtain rfl := Option.some.inj H
       go_wp2
       go_ret
       exact ⟨Zq, Zb⟩
      rw [if_neg c17] at H
      have c17b0 : (((rd_T98 l0 0).f1) == 1000000) = F := beq_eq_false_iff_ne.mpr c17
      have c17b1 : (((rd_T98 l0 0).f1) != 1000000) = T := bne_iff_ne.mpr c17
      obtain rfl := Option.some.inj H
      have p156 : 0 ≤ (0 : Int) := (by omega)
      have q156 : 0 < (l0.length : Int) := Ze
      obtain ⟨ad156, e156, hx156_0, hx156_1⟩ := at_T98 HR0.out 0 p156 q156
      cases e156
      have qi156 : (0 < l0.length) = True := eq_true (by omega)
      (try rw [show ((0 : Int)).toNat = 0 from rfl] at hx156_0)
      (try rw [show 0 * 2 = 0 from rfl] at hx156_0)
      (try rw [Addr.add_zero'] at hx156_0)
      (try rw [show ((0 : Int)).toNat = 0 from rfl] at hx156_1)
      (try rw [show 0 * 2 = 0 from rfl] at hx156_1)
      (try rw [Addr.add_zero'] at hx156_1)
      replace hx156_0 := Zx HB.out hx156_0
      replace hx156_1 := Zx HB.out hx156_1
      replace p156 := eq_true p156
      replace q156 := eq_true q156
      go_wp2
      go_ret
      exact ⟨Zq, Zb⟩
     rw [if_neg c16] at H
     exact absurd H (by simp)
def Qb3.f (a0 : Int) : Option (Int × Int) := (QbB.f a0).bind fun t172 => (if t172 = T then (some (a0, 0)) else (some (0, 3)))
set_option maxHeartbeats 8000000 in
theorem Qb3.calls (a0 : Int) (r1 : Int) (r2 : Int) (w : World) (h : Qb3.f a0 = some (r1, r2)) :
  Calls Try.prog 97 #[.int .i64 a0] w fun e w' => e = .returned (.tuple #[.int .i64 r1, .int .i64 r2]) ∧ Drawn0 w w' := by
 have H : ((QbB.f a0).bind fun t172 => (if t172 = T then (some (a0, 0)) else (some (0, 3)))) = some (r1, r2) := h
 clear h
 replace H := Option.bind_eq_some_iff.mp H
 obtain ⟨t172, A20, H⟩ := H
 replace H : (if t172 = T then (some (a0, 0)) else (some (0, 3))) = some (r1, r2) := H
 have A2 := Aside0.mk A20
 clear A20
 go_enter Try.func97, Try.ntmps97
 go_upto_if 6 with (first | ((with_reducible refine Qax (f := 87) rfl ?_); refine goesL_ (some 5) rfl rfl Try.func87 (by kernel_rfl) rfl #[.int .i64 a0] rfl (Zl) ?_; (with_reducible refine (QbB.calls a0 t172 _ A2.out).mono ?_); rintro e w' ⟨rfl, ⟨nd, rfl⟩⟩; refine ⟨_, rfl, ?_⟩))
 (try simp only [Act.put, Zj, Zk, Zm])
 by_cases c3 : t172 = T
 ·subst c3
  have H1 : (some (a0, 0)) = some (r1, r2) := by rw [if_pos rfl] at H; exact H
  clear H
  have H := H1
  clear H1
  simp only [Option.some.injEq, Prod.mk.injEq] at H
  obtain ⟨rfl, rfl⟩ := H
  go_wp2
  go_ret2
  exact ⟨Zs, Zd⟩
 replace c3 := Bool.eq_false_iff.mpr c3
 subst c3
 have H1 : (some (0, 3)) = some (r1, r2) := by rw [if_neg (show ¬ (F = T) by decide)] at H; exact H
 clear H
 have H := H1
 clear H1
 simp only [Option.some.injEq, Prod.mk.injEq] at H
 obtain ⟨rfl, rfl⟩ := H
 go_wp2
 go_ret2
 exact ⟨Zs, Zd⟩
def QbR.f (a0 : Int) : Option (Bool) := if a0 ≥ 1 then (some (decide (a0 ≤ 1152921504606846976))) else (some F)
set_option maxHeartbeats 8000000 in
theorem QbR.calls (a0 : Int) (r : Bool) (w : World) (h : QbR.f a0 = some r) :
  Calls Try.prog 72 #[.int .i64 a0] w fun e w' => e = .returned (.bool r) ∧ Drawn0 w w' := by
 have H : (if a0 ≥ 1 then (some (decide (a0 ≤ 1152921504606846976))) else (some F)) = some r := h
 clear h
 by_cases c2 : a0 ≥ 1
 ·rw [if_pos c2] at H
  have c2b0 : decide (1 ≤ a0) = T := decide_eq_true c2
  clear c2
  obtain rfl := Option.some.inj H
  go_enter Try.func72, Try.ntmps72
  go_wp2
  go_ret
  exact ⟨Zs, Zd⟩
 rw [if_neg c2] at H
 have c2b0 : decide (1 ≤ a0) = F := decide_eq_false c2
 clear c2
 obtain rfl := Option.some.inj H
 go_enter Try.func72, Try.ntmps72
 go_wp2
 go_ret
 exact ⟨Zs, Zd⟩
end Go.Proofs.Ytfcaaefdmabkhaa.Pr
