/- Functions' values and contracts, as the print wrote them. -/
import Derived.Test.YtgnmhfjfefgbfaaQ5C0P0
import Derived.Test.YtgnmhfjfefgbfaaQ5C0P2
import Derived.Test.YtgnmhfjfefgbfaaQ5C0P3
import Derived.Test.YtgnmhfjfefgbfaaQ5C0P4
import Derived.Test.YtgnmhfjfefgbfaaQ5C0P6
namespace Go.Proofs.Ytgnmhfjfefgbfaa.Pr
open Bool renaming true → T
open Bool renaming false → F
open Go.RowKit Go.Proofs.YtgnmhfjfefgbfaaW.PrintWords Go.Proofs.YtgnmhfjfefgbfaaW.PrintLast Go.Proofs.YtgnmhfjfefgbfaaW.PrintMore
attribute [local go_sem] QaR QaT QaY QaZ QaN QaO QaS QaU   -- for this text's walks alone
set_option linter.unusedVariables false
set_option linter.unusedSimpArgs false
mutual
def contangotop_TopSpreads.j0 : Nat → List (S71) → Bool → List (S128) → List (S146) → List (S152) → Option (Bool)
 | 0, _, _, _, _, _ => none
 | k + 1, x0, x49, x515000, x515001, x515002 => if x49 = T then ((QaA.f k).bind fun t516 => (some t516)) else ((Qap.f k x0).bind fun bt517 => ((QaI.f k x0 x515000).bind fun bt523 => (if bt523.2.2 = 0 then (contangotop_TopSpreads.l0 k bt517.1 bt517.2 bt523.1 ([] : List Int) ([] : List Int) 0 0 x515000 x515001 x515002) else ((QaA.f k).bind fun t526 => (some t526)))))
def contangotop_TopSpreads.l0 : Nat → List ByteArray → List (List (S71)) → Int → List Int → List Int → Int → Int → List (S128) → List (S146) → List (S152) → Option (Bool)
 | 0, _, _, _, _, _, _, _, _, _, _ => none
 | k + 1, x5, x6, x7, x10, x11, x12, x13, x515000, x515001, x515002 => if x13 < (x6.length : Int) then (if 0 ≤ x13 then ((QaI.f k (rd_L7 x6 x13) x515000).bind fun bt528 => ((QaJ.f k (rd_L7 x6 x13) x515000).bind fun bt532 => ((Qay.f k (rd_L7 x6 x13) x515000).bind fun bt535 => (if bt528.2.2 = 0 then (if bt532.2 = 0 then (if bt535.2.2 = 0 then ((QaC.f k bt535.2.1).bind fun t543 => (contangotop_TopSpreads.j2 k x5 x6 x7 x10 x11 x12 x13 bt528.1 bt532.1 bt535.1 bt535.2.1 (t543 != bt532.1) x515000 x515001 x515002)) else (contangotop_TopSpreads.j2 k x5 x6 x7 x10 x11 x12 x13 bt528.1 bt532.1 bt535.1 bt535.2.1 T x515000 x515001 x515002)) else (contangotop_TopSpreads.j2 k x5 x6 x7 x10 x11 x12 x13 bt528.1 bt532.1 bt535.1 bt535.2.1 T x515000 x515001 x515002)) else ((QaA.f k).bind fun t542 => (some t542)))))) else (none)) else ((Qam.f k x5 x10 x11 x515002).bind fun bt559 => (if x7 > x12 then (contangotop_TopSpreads.j4 k x11 bt559.1 T) else (if bt559.2.2 = 0 then (contangotop_TopSpreads.j4 k x11 bt559.1 ((bt559.1.length : Int) != (x5.length : Int))) else (contangotop_TopSpreads.j4 k x11 bt559.1 F))))
def contangotop_TopSpreads.j2 : Nat → List ByteArray → List (List (S71)) → Int → List Int → List Int → Int → Int → Int → Int → List Int → List Int → Bool → List (S128) → List (S146) → List (S152) → Option (Bool)
 | 0, _, _, _, _, _, _, _, _, _, _, _, _, _, _, _ => none
 | k + 1, x5, x6, x7, x10, x11, x12, x13, x14, x17, x19, x20, x119, x515000, x515001, x515002 => if x119 = T then (none) else ((Qak.f k x19 x20 x515001).bind fun bt544 => (if bt544.2.2 = 0 then ((QaC.f k bt544.2.1).bind fun t551 => (contangotop_TopSpreads.j3 k x5 x6 x7 x10 x11 x12 x13 x14 x17 (t551 != x17) x515000 x515001 x515002)) else (contangotop_TopSpreads.j3 k x5 x6 x7 x10 x11 x12 x13 x14 x17 F x515000 x515001 x515002)))
def contangotop_TopSpreads.j3 : Nat → List ByteArray → List (List (S71)) → Int → List Int → List Int → Int → Int → Int → Int → Bool → List (S128) → List (S146) → List (S152) → Option (Bool)
 | 0, _, _, _, _, _, _, _, _, _, _, _, _, _ => none
 | k + 1, x5, x6, x7, x10, x11, x12, x13, x14, x17, x136, x515000, x515001, x515002 => if x136 = T then (none) else (if x10.length < 17592186044416 then (if x11.length < 17592186044416 then (if x14 > 18014398509481984 then ((QaA.f k).bind fun t558 => (some t558)) else (contangotop_TopSpreads.l0 k x5 x6 x7 (x10 ++ [x17]) (x11 ++ [x14]) (wrap64 (x12 + (mn x14 18014398509481984))) (wrap64 (x13 + 1)) x515000 x515001 x515002)) else (none)) else (none))
def contangotop_TopSpreads.j4 : Nat → List Int → List Int → Bool → Option (Bool)
 | 0, _, _, _ => none
 | k + 1, x11, x25, x175 => if x175 = T then (none) else (contangotop_TopSpreads.l1 k x11 x25 0)
def contangotop_TopSpreads.l1 : Nat → List Int → List Int → Int → Option (Bool)
 | 0, _, _, _ => none
 | k + 1, x11, x25, x28 => if x28 < (x25.length : Int) then (if 0 ≤ x28 then (if (rd x25 x28) < 0 then (none) else (if x28 < (x11.length : Int) then (if (rd x25 x28) > (rd x11 x28) then (none) else (contangotop_TopSpreads.l1 k x11 x25 (wrap64 (x28 + 1)))) else (none))) else (none)) else ((QaA.f k).bind fun t569 => (some t569))
end
def contangotop_TopSpreads.f (k : Nat) (l0 : List (S71)) (l1_0 : List (S128)) (l1_1 : List (S146)) (l1_2 : List (S152)) : Option (Bool) := (Qao.f k l0).bind fun t515 => (if t515 = 0 then (if (l1_0.length : Int) > 130 then (contangotop_TopSpreads.j0 k l0 T l1_0 l1_1 l1_2) else (if (l1_1.length : Int) > 60 then (contangotop_TopSpreads.j0 k l0 T l1_0 l1_1 l1_2) else (contangotop_TopSpreads.j0 k l0 (decide ((l1_2.length : Int) > 60)) l1_0 l1_1 l1_2))) else (contangotop_TopSpreads.j0 k l0 T l1_0 l1_1 l1_2))
theorem contangotop_TopSpreads.mono_l : ∀ k, (∀ y0 y1 y2 y3 y4, LeO (contangotop_TopSpreads.j0 k y0 y1 y2 y3 y4) (contangotop_TopSpreads.j0 (k + 1) y0 y1 y2 y3 y4)) ∧ (∀ y0 y1 y2 y3 y4 y5 y6 y7 y8 y9, LeO (contangotop_TopSpreads.l0 k y0 y1 y2 y3 y4 y5 y6 y7 y8 y9) (contangotop_TopSpreads.l0 (k + 1) y0 y1 y2 y3 y4 y5 y6 y7 y8 y9)) ∧ (∀ y0 y1 y2 y3 y4 y5 y6 y7 y8 y9 y10 y11 y12 y13 y14, LeO (contangotop_TopSpreads.j2 k y0 y1 y2 y3 y4 y5 y6 y7 y8 y9 y10 y11 y12 y13 y14) (contangotop_TopSpreads.j2 (k + 1) y0 y1 y2 y3 y4 y5 y6 y7 y8 y9 y10 y11 y12 y13 y14)) ∧ (∀ y0 y1 y2 y3 y4 y5 y6 y7 y8 y9 y10 y11 y12, LeO (contangotop_TopSpreads.j3 k y0 y1 y2 y3 y4 y5 y6 y7 y8 y9 y10 y11 y12) (contangotop_TopSpreads.j3 (k + 1) y0 y1 y2 y3 y4 y5 y6 y7 y8 y9 y10 y11 y12)) ∧ (∀ y0 y1 y2, LeO (contangotop_TopSpreads.j4 k y0 y1 y2) (contangotop_TopSpreads.j4 (k + 1) y0 y1 y2)) ∧ (∀ y0 y1 y2, LeO (contangotop_TopSpreads.l1 k y0 y1 y2) (contangotop_TopSpreads.l1 (k + 1) y0 y1 y2))
 | 0 => ⟨fun _ _ _ _ _ r h => by simp [contangotop_TopSpreads.j0] at h, fun _ _ _ _ _ _ _ _ _ _ r h => by simp [contangotop_TopSpreads.l0] at h, fun _ _ _ _ _ _ _ _ _ _ _ _ _ _ _ r h => by simp [contangotop_TopSpreads.j2] at h, fun _ _ _ _ _ _ _ _ _ _ _ _ _ r h => by simp [contangotop_TopSpreads.j3] at h, fun _ _ _ r h => by simp [contangotop_TopSpreads.j4] at h, fun _ _ _ r h => by simp [contangotop_TopSpreads.l1] at h⟩
 | k + 1 => by
  obtain ⟨ih0, ih1, ih2, ih3, ih4, ih5⟩ := contangotop_TopSpreads.mono_l k
  refine ⟨?_, ?_, ?_, ?_, ?_, ?_⟩
  ·intro y0 y1 y2 y3 y4
   unfold contangotop_TopSpreads.j0
   exact ZM15 ih0 ih1 ih2 ih3 ih4 ih5 QaA.mono QaC.mono Qam.mono Qao.mono QaJ.mono Qay.mono Qap.mono QaI.mono Qak.mono
  ·intro y0 y1 y2 y3 y4 y5 y6 y7 y8 y9
   unfold contangotop_TopSpreads.l0
   exact ZM15 ih0 ih1 ih2 ih3 ih4 ih5 QaA.mono QaC.mono Qam.mono Qao.mono QaJ.mono Qay.mono Qap.mono QaI.mono Qak.mono
  ·intro y0 y1 y2 y3 y4 y5 y6 y7 y8 y9 y10 y11 y12 y13 y14
   unfold contangotop_TopSpreads.j2
   exact ZM15 ih0 ih1 ih2 ih3 ih4 ih5 QaA.mono QaC.mono Qam.mono Qao.mono QaJ.mono Qay.mono Qap.mono QaI.mono Qak.mono
  ·intro y0 y1 y2 y3 y4 y5 y6 y7 y8 y9 y10 y11 y12
   unfold contangotop_TopSpreads.j3
   exact ZM15 ih0 ih1 ih2 ih3 ih4 ih5 QaA.mono QaC.mono Qam.mono Qao.mono QaJ.mono Qay.mono Qap.mono QaI.mono Qak.mono
  ·intro y0 y1 y2
   unfold contangotop_TopSpreads.j4
   exact ZM15 ih0 ih1 ih2 ih3 ih4 ih5 QaA.mono QaC.mono Qam.mono Qao.mono QaJ.mono Qay.mono Qap.mono QaI.mono Qak.mono
  intro y0 y1 y2
  unfold contangotop_TopSpreads.l1
  exact ZM15 ih0 ih1 ih2 ih3 ih4 ih5 QaA.mono QaC.mono Qam.mono Qao.mono QaJ.mono Qay.mono Qap.mono QaI.mono Qak.mono
theorem contangotop_TopSpreads.mono : ∀ a0 a1 a2 a3 k, LeO (contangotop_TopSpreads.f k a0 a1 a2 a3) (contangotop_TopSpreads.f (k + 1) a0 a1 a2 a3) := by
 intro a0 a1 a2 a3 k
 obtain ⟨ih0, ih1, ih2, ih3, ih4, ih5⟩ := contangotop_TopSpreads.mono_l k
 unfold contangotop_TopSpreads.f
 exact ZM15 ih0 ih1 ih2 ih3 ih4 ih5 QaA.mono QaC.mono Qam.mono Qao.mono QaJ.mono Qay.mono Qap.mono QaI.mono Qak.mono
def contangotop_TopSpreads.T12 : Bool × List (List Nat × List Nat) := (T, [([], []), ([], []), ([0, 1], [0, 1]), ([2], [2]), ([], []), ([4], [4]), ([3, 5], [3, 5]), ([6], [6]), ([7], [7]), ([7], [7]), ([7], [7]), ([8, 6, 0, 1, 2, 3, 4, 5, 6, 7, 8], [8]), ([9, 11, 0, 1, 2, 3, 4, 5, 6, 7, 8, 9, 11], [9]), ([10, 12, 0, 1, 2, 3, 4, 5, 6, 7, 8, 9, 10, 11, 12], [10])])
def contangotop_TopSpreads.B12 : List Nat := [0, 0, 3, 7, 0, 16, 63, 127, 255, 255, 255, 511, 3071, 8191]
theorem contangotop_TopSpreads.tab12 : rtab .any (opsOf Try.f4 12) = contangotop_TopSpreads.T12 := by kernel_rfl
theorem contangotop_TopSpreads.bits12 : Qbb contangotop_TopSpreads.T12.2 contangotop_TopSpreads.B12 = T := by kernel_rfl
def contangotop_TopSpreads.T13 : Bool × List (List Nat × List Nat) := (T, [([], []), ([], []), ([0, 1], [0, 1]), ([2], [2]), ([], []), ([4], [4]), ([3, 5], [3, 5]), ([6], [6]), ([7], [7]), ([7], [7]), ([8, 6, 0, 1, 2, 3, 4, 5, 6, 7, 8], [8]), ([9, 10, 0, 1, 2, 3, 4, 5, 6, 7, 8, 9, 10], [9])])
def contangotop_TopSpreads.B13 : List Nat := [0, 0, 3, 7, 0, 16, 63, 127, 255, 255, 511, 2047]
theorem contangotop_TopSpreads.tab13 : rtab .any (opsOf Try.f4 13) = contangotop_TopSpreads.T13 := by kernel_rfl
theorem contangotop_TopSpreads.bits13 : Qbb contangotop_TopSpreads.T13.2 contangotop_TopSpreads.B13 = T := by kernel_rfl
def contangotop_TopSpreads.T14 : Bool × List (List Nat × List Nat) := (T, [([], []), ([], []), ([0, 1], [0, 1]), ([2], [2]), ([], []), ([4], [4]), ([3, 5], [3, 5]), ([6], [6]), ([7], [7]), ([7], [7]), ([7], [7]), ([8, 6, 0, 1, 2, 3, 4, 5, 6, 7, 8], [8]), ([9, 11, 0, 1, 2, 3, 4, 5, 6, 7, 8, 9, 11], [9]), ([10, 12, 0, 1, 2, 3, 4, 5, 6, 7, 8, 9, 10, 11, 12], [10])])
def contangotop_TopSpreads.B14 : List Nat := [0, 0, 3, 7, 0, 16, 63, 127, 255, 255, 255, 511, 3071, 8191]
theorem contangotop_TopSpreads.tab14 : rtab .any (opsOf Try.f4 14) = contangotop_TopSpreads.T14 := by kernel_rfl
theorem contangotop_TopSpreads.bits14 : Qbb contangotop_TopSpreads.T14.2 contangotop_TopSpreads.B14 = T := by kernel_rfl
def contangotop_TopSpreads.T33 : Bool × List (List Nat × List Nat) := (T, [([], []), ([], []), ([0, 1], [0, 1]), ([2], [2]), ([3], [3]), ([4], [4]), ([5], [5]), ([5], [5]), ([6, 7, 5], [5, 6, 7]), ([8, 5], [5, 8]), ([5], [5]), ([5], [5]), ([10, 11, 5], [5, 10, 11]), ([12, 5], [5, 12]), ([9, 13, 5], [5, 9, 13]), ([5, 14], [5, 14])])
def contangotop_TopSpreads.B33 : List Nat := [0, 0, 3, 7, 15, 31, 63, 63, 255, 511, 63, 63, 3135, 7231, 16383, 32767]
theorem contangotop_TopSpreads.tab33 : rtab .any (opsOf Try.f4 33) = contangotop_TopSpreads.T33 := by kernel_rfl
theorem contangotop_TopSpreads.bits33 : Qbb contangotop_TopSpreads.T33.2 contangotop_TopSpreads.B33 = T := by kernel_rfl
set_option maxHeartbeats 8000000 in
set_option maxRecDepth 100000 in
theorem contangotop_TopSpreads.calls (k : Nat) (A0 : Option Addr) (c0 : Nat) (l0 : List (S71)) (A1_0 : Option Addr) (c1_0 : Nat) (l1_0 : List (S128)) (A1_1 : Option Addr) (c1_1 : Nat) (l1_1 : List (S146)) (A1_2 : Option Addr) (c1_2 : Nat) (l1_2 : List (S152)) (r : Bool) (w : World) (hr0 : Kd.C k71 w A0 l0.length l0) (hc0 : l0.length ≤ c0) (hr1_0 : Kd.C k128 w A1_0 l1_0.length l1_0) (hc1_0 : l1_0.length ≤ c1_0) (hr1_1 : Kd.C k146 w A1_1 l1_1.length l1_1) (hc1_1 : l1_1.length ≤ c1_1) (hr1_2 : Kd.C k152 w A1_2 l1_2.length l1_2) (hc1_2 : l1_2.length ≤ c1_2) (h : contangotop_TopSpreads.f k l0 l1_0 l1_1 l1_2 = some r) :
  Calls Try.prog 4 #[.slice A0 l0.length c0, .agg #[.slice A1_0 l1_0.length c1_0, .slice A1_1 l1_1.length c1_1, .slice A1_2 l1_2.length c1_2]] w fun e w' => e = .returned (.bool r) ∧ Below w.heap.size w w' := by
 have hu42 := Try.underlying42
 have HR0 := Aside0.mk hr0
 have HC0 := Aside0.mk hc0
 clear hr0 hc0
 have HR1_0 := Aside0.mk hr1_0
 have HC1_0 := Aside0.mk hc1_0
 clear hr1_0 hc1_0
 have HR1_1 := Aside0.mk hr1_1
 have HC1_1 := Aside0.mk hc1_1
 clear hr1_1 hc1_1
 have HR1_2 := Aside0.mk hr1_2
 have HC1_2 := Aside0.mk hc1_2
 clear hr1_2 hc1_2
 have HB := Aside0.mk (Below.refl w.heap.size w)
 have H : ((Qao.f k l0).bind fun t515 => (if t515 = 0 then (if (l1_0.length : Int) > 130 then (contangotop_TopSpreads.j0 k l0 T l1_0 l1_1 l1_2) else (if (l1_1.length : Int) > 60 then (contangotop_TopSpreads.j0 k l0 T l1_0 l1_1 l1_2) else (contangotop_TopSpreads.j0 k l0 (decide ((l1_2.length : Int) > 60)) l1_0 l1_1 l1_2))) else (contangotop_TopSpreads.j0 k l0 T l1_0 l1_1 l1_2))) = some r := h
 clear h
 have HC3 := Aside0.mk H
 clear H
 go_enter Try.func4, Try.ntmps4
 go_upto_region 1 with (first | ((with_reducible refine Qa2 (N := 3) rfl ?_); (try (refine QbS (by rfl) ?_; dsimp only)); refine Zbx (N := 3) (cs := #[.slice A1_0 l1_0.length c1_0, .slice A1_1 l1_1.length c1_1, .slice A1_2 l1_2.length c1_2]) (t := 42) ?_; intro gb514 hg w4 hbox hb; have BK514 := Aside0.mk (hbox); have GW514 := Aside0.mk (Zt w hg (Zb)); have GE514 := GW514; replace HB := Aside0.mk (Qav (Zb) hb); clear hb hbox hg))
 (try simp only [Act.put, Zj, Zk, Zm])
 go_cut [49] (fun v49 wc => ∃ (kq : Nat) (x49_2 : Bool), v49 = .bool x49_2 ∧ Aside0 (contangotop_TopSpreads.j0 kq l0 x49_2 l1_0 l1_1 l1_2 = some r) ∧ Aside0 (kq ≤ k) ∧ Aside0 (wc.heap[gb514]? = some (.cells #[(.slice A1_0 l1_0.length c1_0), (.slice A1_1 l1_1.length c1_1), (.slice A1_2 l1_2.length c1_2)] 42 (0, 0))) ∧ Aside0 (Below w.heap.size w wc))
 case first =>
  have H := HC3.out
  clear HC3
  replace H := Option.bind_eq_some_iff.mp H
  obtain ⟨t515, A50, H⟩ := H
  replace H : (if t515 = 0 then (if (l1_0.length : Int) > 130 then (contangotop_TopSpreads.j0 k l0 T l1_0 l1_1 l1_2) else (if (l1_1.length : Int) > 60 then (contangotop_TopSpreads.j0 k l0 T l1_0 l1_1 l1_2) else (contangotop_TopSpreads.j0 k l0 (decide ((l1_2.length : Int) > 60)) l1_0 l1_1 l1_2))) else (contangotop_TopSpreads.j0 k l0 T l1_0 l1_1 l1_2)) = some r := H
  have A5 := Aside0.mk A50
  clear A50
  by_cases c6 : t515 = 0
  ·rw [if_pos c6] at H
   have c6b0 : (t515 == 0) = T := beq_iff_eq.mpr c6
   have c6b1 : (t515 != 0) = F := bne_eq_false_iff_eq.mpr c6
   clear c6
   by_cases c7 : (l1_0.length : Int) > 130
   ·rw [if_pos c7] at H
    have c7b0 : decide (130 < (l1_0.length : Int)) = T := decide_eq_true c7
    have c7b1 : decide (130 < l1_0.length) = T := decide_eq_true (by omega)
    clear c7
    have H' := Aside0.mk H
    clear H
    go_wp2_with (first | ((with_reducible refine QaH (f := 9) rfl ?_); refine goesL_ (some 30) rfl rfl Try.func9 (by kernel_rfl) rfl #[.slice A0 l0.length c0] rfl (Zl) ?_; (with_reducible refine (Qao.calls k _ _ l0 t515 _ ?side1 ?side2 A5.out).mono ?_); (case side1 => exact Zv (Kd.C_below HR0.out HB.out)); (case side2 => exact HC0.out); rintro e w8 ⟨rfl, hb⟩; refine ⟨_, rfl, ?_⟩; replace BK514 := Aside0.mk (Zi BK514.out hb); replace HB := Aside0.mk (Qav (Zc1 GE514.out) hb); (try clear hb); (try clear hb2); (try clear hk); (try clear hi); obtain ⟨hcz9_0, hfz9_0⟩ := Zy (v := (.slice A1_0 l1_0.length c1_0)) BK514.out 0; obtain ⟨hcz9_1, hfz9_1⟩ := Zy (v := (.slice A1_1 l1_1.length c1_1)) BK514.out 1; obtain ⟨hcz9_2, hfz9_2⟩ := Zy (v := (.slice A1_2 l1_2.length c1_2)) BK514.out 2))
    go_meet
    case rel => exact ⟨_, (T), (Zs), H', ⟨by first | omega | exact Nat.le_refl _⟩, ⟨Zu BK514.out⟩, ⟨Zc1 GE514.out⟩⟩
   rw [if_neg c7] at H
   have c7b0 : decide (130 < (l1_0.length : Int)) = F := decide_eq_false c7
   have c7b1 : decide (130 < l1_0.length) = F := decide_eq_false (by omega)
   clear c7
   by_cases c10 : (l1_1.length : Int) > 60
   ·rw [if_pos c10] at H
    have c10b0 : decide (60 < (l1_1.length : Int)) = T := decide_eq_true c10
    have c10b1 : decide (60 < l1_1.length) = T := decide_eq_true (by omega)
    clear c10
    have H' := Aside0.mk H
    clear H
    go_wp2_with (first | ((with_reducible refine QaH (f := 9) rfl ?_); refine goesL_ (some 30) rfl rfl Try.func9 (by kernel_rfl) rfl #[.slice A0 l0.length c0] rfl (Zl) ?_; (with_reducible refine (Qao.calls k _ _ l0 t515 _ ?side1 ?side2 A5.out).mono ?_); (case side1 => exact Zv (Kd.C_below HR0.out HB.out)); (case side2 => exact HC0.out); rintro e w11 ⟨rfl, hb⟩; refine ⟨_, rfl, ?_⟩; replace BK514 := Aside0.mk (Zi BK514.out hb); replace HB := Aside0.mk (Qav (Zc1 GE514.out) hb); (try clear hb); (try clear hb2); (try clear hk); (try clear hi); obtain ⟨hcz12_0, hfz12_0⟩ := Zy (v := (.slice A1_0 l1_0.length c1_0)) BK514.out 0; obtain ⟨hcz12_1, hfz12_1⟩ := Zy (v := (.slice A1_1 l1_1.length c1_1)) BK514.out 1; obtain ⟨hcz12_2, hfz12_2⟩ := Zy (v := (.slice A1_2 l1_2.length c1_2)) BK514.out 2))
    go_meet
    case rel => exact ⟨_, (T), (Zs), H', ⟨by first | omega | exact Nat.le_refl _⟩, ⟨Zu BK514.out⟩, ⟨Zc1 GE514.out⟩⟩
   rw [if_neg c10] at H
   have c10b0 : decide (60 < (l1_1.length : Int)) = F := decide_eq_false c10
   have c10b1 : decide (60 < l1_1.length) = F := decide_eq_false (by omega)
   clear c10
   have H' := Aside0.mk H
   clear H
   go_wp2_with (first | ((with_reducible refine QaH (f := 9) rfl ?_); refine goesL_ (some 30) rfl rfl Try.func9 (by kernel_rfl) rfl #[.slice A0 l0.length c0] rfl (Zl) ?_; (with_reducible refine (Qao.calls k _ _ l0 t515 _ ?side1 ?side2 A5.out).mono ?_); (case side1 => exact Zv (Kd.C_below HR0.out HB.out)); (case side2 => exact HC0.out); rintro e w13 ⟨rfl, hb⟩; refine ⟨_, rfl, ?_⟩; replace BK514 := Aside0.mk (Zi BK514.out hb); replace HB := Aside0.mk (Qav (Zc1 GE514.out) hb); (try clear hb); (try clear hb2); (try clear hk); (try clear hi); obtain ⟨hcz14_0, hfz14_0⟩ := Zy (v := (.slice A1_0 l1_0.length c1_0)) BK514.out 0; obtain ⟨hcz14_1, hfz14_1⟩ := Zy (v := (.slice A1_1 l1_1.length c1_1)) BK514.out 1; obtain ⟨hcz14_2, hfz14_2⟩ := Zy (v := (.slice A1_2 l1_2.length c1_2)) BK514.out 2))
   go_meet
   case rel => exact ⟨_, (decide ((l1_2.length : Int) > 60)), (Zs), H', ⟨by first | omega | exact Nat.le_refl _⟩, ⟨Zu BK514.out⟩, ⟨Zc1 GE514.out⟩⟩
  rw [if_neg c6] at H
  have c6b0 : (t515 == 0) = F := beq_eq_false_iff_ne.mpr c6
  have c6b1 : (t515 != 0) = T := bne_iff_ne.mpr c6
  have H' := Aside0.mk H
  clear H
  go_wp2_with (first | ((with_reducible refine QaH (f := 9) rfl ?_); refine goesL_ (some 30) rfl rfl Try.func9 (by kernel_rfl) rfl #[.slice A0 l0.length c0] rfl (Zl) ?_; (with_reducible refine (Qao.calls k _ _ l0 t515 _ ?side1 ?side2 A5.out).mono ?_); (case side1 => exact Zv (Kd.C_below HR0.out HB.out)); (case side2 => exact HC0.out); rintro e w15 ⟨rfl, hb⟩; refine ⟨_, rfl, ?_⟩; replace BK514 := Aside0.mk (Zi BK514.out hb); replace HB := Aside0.mk (Qav (Zc1 GE514.out) hb); (try clear hb); (try clear hb2); (try clear hk); (try clear hi)))
  go_meet
  case rel => exact ⟨_, (T), (Zs), H', ⟨by first | omega | exact Nat.le_refl _⟩, ⟨Zu BK514.out⟩, ⟨Zc1 GE514.out⟩⟩
 case rest =>
  clear HC3
  try clear c1
  try clear p2
  try clear c4
  try clear c6
  try clear c6b0
  try clear c6b1
  try clear c7
  try clear c7b0
  try clear c7b1
  try clear c9
  try clear c10
  try clear c10b0
  try clear c10b1
  try clear hcz12_0
  try clear hcz12_1
  try clear hcz12_2
  try clear hcz14_0
  try clear hcz14_1
  try clear hcz14_2
  try clear hcz9_0
  try clear hcz9_1
  try clear hcz9_2
  try clear hfz12_0
  try clear hfz12_1
  try clear hfz12_2
  try clear hfz14_0
  try clear hfz14_1
  try clear hfz14_2
  try clear hfz9_0
  try clear hfz9_1
  try clear hfz9_2
  obtain ⟨kq, x49_2, rfl, HA, HJ2, BK514, HB⟩ := hcut
  cases kq with
  | zero => exact absurd HA.out (by simp [contangotop_TopSpreads.j0])
  | succ kj2 =>
   have H := HA.out
   clear HA
   simp only [contangotop_TopSpreads.j0] at H
   by_cases c16 : x49_2 = T
   ·subst c16
    have H1 : ((QaA.f kj2).bind fun t516 => (some t516)) = some r := by rw [if_pos rfl] at H; exact H
    clear H
    have H := H1
    clear H1
    replace H := Option.bind_eq_some_iff.mp H
    obtain ⟨t516, A170, H⟩ := H
    replace H : (some t516) = some r := H
    have A17 := Aside0.mk A170
    clear A170
    obtain rfl := Option.some.inj H
    go_wp2_with (first | ((with_reducible refine QaH (f := 10) rfl ?_); refine goesL_ (some 50) rfl rfl Try.func10 (by kernel_rfl) rfl #[] rfl (Zl) ?_; (with_reducible refine (QaA.calls kj2  t516 _ A17.out).mono ?_); rintro e w18 ⟨rfl, hb⟩; refine ⟨_, rfl, ?_⟩; replace BK514 := Aside0.mk (Zi BK514.out hb); replace HB := Aside0.mk (Qav (Zc1 GE514.out) hb); (try clear hb); (try clear hb2); (try clear hk); (try clear hi)))
    go_ret
    exact ⟨Zq, Zc1 GE514.out⟩
   replace c16 := Bool.eq_false_iff.mpr c16
   subst c16
   have H1 : ((Qap.f kj2 l0).bind fun bt517 => ((QaI.f kj2 l0 l1_0).bind fun bt523 => (if bt523.2.2 = 0 then (contangotop_TopSpreads.l0 kj2 bt517.1 bt517.2 bt523.1 ([] : List Int) ([] : List Int) 0 0 l1_0 l1_1 l1_2) else ((QaA.f kj2).bind fun t526 => (some t526))))) = some r := by rw [if_neg (show ¬ (F = T) by decide)] at H; exact H
   clear H
   have H := H1
   clear H1
   replace H := Option.bind_eq_some_iff.mp H
   obtain ⟨⟨t517, t518⟩, A190, H⟩ := H
   replace H : ((QaI.f kj2 l0 l1_0).bind fun bt523 => (if bt523.2.2 = 0 then (contangotop_TopSpreads.l0 kj2 t517 t518 bt523.1 ([] : List Int) ([] : List Int) 0 0 l1_0 l1_1 l1_2) else ((QaA.f kj2).bind fun t526 => (some t526)))) = some r := H
   have A19 := Aside0.mk A190
   clear A190
   replace H := Option.bind_eq_some_iff.mp H
   obtain ⟨⟨t523, t524, t525⟩, A200, H⟩ := H
   replace H : (if t525 = 0 then (contangotop_TopSpreads.l0 kj2 t517 t518 t523 ([] : List Int) ([] : List Int) 0 0 l1_0 l1_1 l1_2) else ((QaA.f kj2).bind fun t526 => (some t526))) = some r := H
   have A20 := Aside0.mk A200
   clear A200
   go_upto_if 65 with (first | ((with_reducible refine QaH (f := 14) rfl ?_); refine goesL_ (some 53) rfl rfl Try.func14 (by kernel_rfl) rfl #[.slice A0 l0.length c0] rfl (Zl) ?_; (with_reducible refine (Qap.calls kj2 _ _ l0 t517 t518 _ ?side1 ?side2 A19.out).mono ?_); (case side1 => exact Zv (Kd.C_below HR0.out HB.out)); (case side2 => exact HC0.out); rintro e w21 ⟨v519, v521, rfl, ho0, ho1, hb⟩; refine ⟨_, rfl, ?_⟩; have HO520 := Aside0.mk (Kd.R_lower ho0 (Qax (Zc1 GE514.out))); have HO522 := Aside0.mk (Kd.S_lower ho1 (Qax (Zc1 GE514.out))); replace BK514 := Aside0.mk (Zi BK514.out hb); replace HB := Aside0.mk (Qav (Zc1 GE514.out) hb); (try clear hb); (try clear hb2); (try clear hk); (try clear hi); (try clear ho0); (try clear ho1); obtain ⟨hcz22_0, hfz22_0⟩ := Zy (v := (.slice A1_0 l1_0.length c1_0)) BK514.out 0; obtain ⟨hcz22_1, hfz22_1⟩ := Zy (v := (.slice A1_1 l1_1.length c1_1)) BK514.out 1; obtain ⟨hcz22_2, hfz22_2⟩ := Zy (v := (.slice A1_2 l1_2.length c1_2)) BK514.out 2) | ((with_reducible refine QaH (f := 15) rfl ?_); refine goesL_ (some 60) rfl rfl Try.func15 (by kernel_rfl) rfl #[.slice A0 l0.length c0, .slice A1_0 l1_0.length c1_0] rfl (Zl) ?_; (with_reducible refine (QaI.calls kj2 _ _ l0 _ _ l1_0 t523 t524 t525 _ ?side1 ?side2 ?side3 ?side4 A20.out).mono ?_); (case side1 => exact Zv (Kd.C_below HR0.out HB.out)); (case side2 => exact HC0.out); (case side3 => exact Zv (Kd.C_below HR1_0.out HB.out)); (case side4 => exact HC1_0.out); rintro e w23 ⟨rfl, hb⟩; refine ⟨_, rfl, ?_⟩; replace HO520 := Aside0.mk (Kd.R_below (Zr HO520.out) hb); replace HO522 := Aside0.mk (Kd.S_below (by (with_reducible repeat (first | apply Kd.S_alloc | apply Kd.S_drewN | apply Kd.S_drew)); exact HO522.out) hb); replace BK514 := Aside0.mk (Zi BK514.out hb); replace HB := Aside0.mk (Qav (Zc1 GE514.out) hb); (try clear hb); (try clear hb2); (try clear hk); (try clear hi)))
   (try simp only [Act.put, Zj, Zk, Zm])
   by_cases c24 : t525 = 0
   ·rw [if_pos c24] at H
    have c24b0 : (t525 == 0) = T := beq_iff_eq.mpr c24
    have c24b1 : (t525 != 0) = F := bne_eq_false_iff_eq.mpr c24
    clear c24
    (try simp only [c24b0, c24b1])
    have H' := Aside0.mk H
    clear H
    go_wp2
    go_loopg [10, 11, 12, 13] kj2 (fun kq v10 v11 v12 v13 w' => ∃ (x10_2 : List Int) (x11_2 : List Int) (x12_2 : Int) (x13_2 : Int), v12 = .int .i64 x12_2 ∧ v13 = .int .i64 x13_2 ∧ Aside0 (contangotop_TopSpreads.l0 kq t517 t518 t523 x10_2 x11_2 x12_2 x13_2 l1_0 l1_1 l1_2 = some r) ∧ Aside0 (kq ≤ kj2) ∧ Aside0 (Kd.R Kd.string 9 w' w.heap.size (fun _ => True) v519 t517) ∧ Aside0 (Kd.S (Kd.slice 71 k71) 22 w' w.heap.size (fun _ => True) v521 t518) ∧ Aside0 (Kd.R (Kd.int .i64) 3 w' w.heap.size (fun k_ => some k_ ≠ (v11 : Value).ownBlock) v10 x10_2) ∧ Aside0 (Kd.R (Kd.int .i64) 3 w' w.heap.size (fun k_ => some k_ ≠ (v10 : Value).ownBlock) v11 x11_2) ∧ Aside0 (w'.heap[gb514]? = some (.cells #[(.slice A1_0 l1_0.length c1_0), (.slice A1_1 l1_1.length c1_1), (.slice A1_2 l1_2.length c1_2)] 42 (0, 0))) ∧ Aside0 (Below w.heap.size w w'))
    case atStart => exact ⟨(([] : List Int)), (([] : List Int)), (0), (0), (Zs), (Zs), H', ⟨Nat.le_refl _⟩, ⟨Zr HO520.out⟩, ⟨by (with_reducible repeat (first | apply Kd.S_alloc | apply Kd.S_drewN | apply Kd.S_drew)); exact HO522.out⟩, ⟨by first | exact Kd.R_nil _ _ _ _ _ | exact Kd.N_nil _ _ _ _ _ | exact Kd.V_nil _ _ _ _ _ | exact Kd.Q_nil _ _ _ _ _ | exact Kd.S_nil _ _ _ _ _⟩, ⟨by first | exact Kd.R_nil _ _ _ _ _ | exact Kd.N_nil _ _ _ _ _ | exact Kd.V_nil _ _ _ _ _ | exact Kd.Q_nil _ _ _ _ _ | exact Kd.S_nil _ _ _ _ _⟩, ⟨Zu BK514.out⟩, ⟨Zc1 GE514.out⟩⟩
    case round =>
     clear H'
     try clear c1
     try clear c2
     try clear p2
     try clear c4
     try clear c6
     try clear c6b0
     try clear c6b1
     try clear c7
     try clear c7b0
     try clear c7b1
     try clear c9
     try clear c10
     try clear c10b0
     try clear c10b1
     try clear c14
     try clear c15
     try clear c16
     try clear c24
     try clear c24b0
     try clear c24b1
     try clear hcz12_0
     try clear hcz12_1
     try clear hcz12_2
     try clear hcz14_0
     try clear hcz14_1
     try clear hcz14_2
     try clear hcz22_0
     try clear hcz22_1
     try clear hcz22_2
     try clear hcz9_0
     try clear hcz9_1
     try clear hcz9_2
     try clear hfz12_0
     try clear hfz12_1
     try clear hfz12_2
     try clear hfz14_0
     try clear hfz14_1
     try clear hfz14_2
     try clear hfz22_0
     try clear hfz22_1
     try clear hfz22_2
     try clear hfz9_0
     try clear hfz9_1
     try clear hfz9_2
     try clear p2
     obtain ⟨x10_2, x11_2, x12_2, x13_2, rfl, rfl, HA, HK2, HO_5, HO_6, HO_10, HO_11, BK514, HB⟩ := hrel
     cases gk with
     | zero => exact absurd HA.out (by simp [contangotop_TopSpreads.l0])
     | succ k2 =>
      have H := HA.out
      clear HA
      simp only [contangotop_TopSpreads.l0] at H
      obtain ⟨Ao25, co25, eo25⟩ := Kd.S_slice HO_6.out
      subst eo25
      go_upto_if 70 with (fail)
      by_cases c26 : x13_2 < (t518.length : Int)
      ·rw [if_pos c26] at H
       have c26b0 : decide (x13_2 < (t518.length : Int)) = T := decide_eq_true c26
       clear c26
       (try simp only [c26b0])
       by_cases c27 : 0 ≤ x13_2
       ·rw [if_pos c27] at H
        have c27b0 : decide (0 ≤ x13_2) = T := decide_eq_true c27
        clear c27
        replace H := Option.bind_eq_some_iff.mp H
        obtain ⟨⟨t528, t529, t530⟩, A280, H⟩ := H
        replace H : ((QaJ.f k2 (rd_L7 t518 x13_2) l1_0).bind fun bt532 => ((Qay.f k2 (rd_L7 t518 x13_2) l1_0).bind fun bt535 => (if t530 = 0 then (if bt532.2 = 0 then (if bt535.2.2 = 0 then ((QaC.f k2 bt535.2.1).bind fun t543 => (contangotop_TopSpreads.j2 k2 t517 t518 t523 x10_2 x11_2 x12_2 x13_2 t528 bt532.1 bt535.1 bt535.2.1 (t543 != bt532.1) l1_0 l1_1 l1_2)) else (contangotop_TopSpreads.j2 k2 t517 t518 t523 x10_2 x11_2 x12_2 x13_2 t528 bt532.1 bt535.1 bt535.2.1 T l1_0 l1_1 l1_2)) else (contangotop_TopSpreads.j2 k2 t517 t518 t523 x10_2 x11_2 x12_2 x13_2 t528 bt532.1 bt535.1 bt535.2.1 T l1_0 l1_1 l1_2)) else ((QaA.f k2).bind fun t542 => (some t542))))) = some r := H
        have A28 := Aside0.mk A280
        clear A280
        replace H := Option.bind_eq_some_iff.mp H
        obtain ⟨⟨t532, t533⟩, A290, H⟩ := H
        replace H : ((Qay.f k2 (rd_L7 t518 x13_2) l1_0).bind fun bt535 => (if t530 = 0 then (if t533 = 0 then (if bt535.2.2 = 0 then ((QaC.f k2 bt535.2.1).bind fun t543 => (contangotop_TopSpreads.j2 k2 t517 t518 t523 x10_2 x11_2 x12_2 x13_2 t528 t532 bt535.1 bt535.2.1 (t543 != t532) l1_0 l1_1 l1_2)) else (contangotop_TopSpreads.j2 k2 t517 t518 t523 x10_2 x11_2 x12_2 x13_2 t528 t532 bt535.1 bt535.2.1 T l1_0 l1_1 l1_2)) else (contangotop_TopSpreads.j2 k2 t517 t518 t523 x10_2 x11_2 x12_2 x13_2 t528 t532 bt535.1 bt535.2.1 T l1_0 l1_1 l1_2)) else ((QaA.f k2).bind fun t542 => (some t542)))) = some r := H
        have A29 := Aside0.mk A290
        clear A290
        replace H := Option.bind_eq_some_iff.mp H
        obtain ⟨⟨t535, t536, t537⟩, A300, H⟩ := H
        replace H : (if t530 = 0 then (if t533 = 0 then (if t537 = 0 then ((QaC.f k2 t536).bind fun t543 => (contangotop_TopSpreads.j2 k2 t517 t518 t523 x10_2 x11_2 x12_2 x13_2 t528 t532 t535 t536 (t543 != t532) l1_0 l1_1 l1_2)) else (contangotop_TopSpreads.j2 k2 t517 t518 t523 x10_2 x11_2 x12_2 x13_2 t528 t532 t535 t536 T l1_0 l1_1 l1_2)) else (contangotop_TopSpreads.j2 k2 t517 t518 t523 x10_2 x11_2 x12_2 x13_2 t528 t532 t535 t536 T l1_0 l1_1 l1_2)) else ((QaA.f k2).bind fun t542 => (some t542))) = some r := H
        have A30 := Aside0.mk A300
        clear A300
        try go_wp2
        replace HO_5 := Aside0.mk (Kd.R_drew HO_5.out)
        replace HO_6 := Aside0.mk (Kd.S_drew HO_6.out)
        replace HO_10 := Aside0.mk (Kd.R_drew HO_10.out)
        replace HO_11 := Aside0.mk (Kd.R_drew HO_11.out)
        replace BK514 := Aside0.mk (Qai BK514.out)
        replace HB := Aside0.mk (Qac HB.out)
        have p527 : 0 ≤ (x13_2 : Int) := Ze
        have q527 : x13_2 < (t518.length : Int) := Ze
        obtain ⟨ad527, A527_0, c527_0, e527, hx527_0, hl527_0, hi527_0⟩ := at_L7 (Kd.S_reads' HO_6.out).2.2 x13_2 p527 q527
        cases e527
        obtain ⟨ce527, hce527, hMe527, hcc527⟩ := Kd.S_get HO_6.out [] x13_2 p527 (by first | exact q527 | exact Ze | (have e_ := (Kd.S_reads' HO_6.out).1; omega))
        obtain ⟨ve527_0, rfl, ge527_0⟩ := hMe527
        have hv527_0 := hcc527 0 _ rfl
        rw [Nat.add_zero, show ((Kd.slice 71 k71)).sz = 1 from rfl, Nat.mul_one] at hv527_0
        replace hv527_0 := Option.some.inj (hv527_0.symm.trans hx527_0)
        rw [hv527_0] at ge527_0
        have HL527_0 := Aside0.mk (show Kd.R k71 71 _ _ _ _ (rd_L7 t518 x13_2) from ge527_0)
        clear hv527_0 ge527_0
        clear hcc527 hce527
        have HR527_0 := Aside0.mk hi527_0
        have HC527_0 := Aside0.mk hl527_0
        clear hi527_0 hl527_0
        replace p527 := eq_true p527
        replace q527 := eq_true q527
        refine start_ (n := 14) (S := fun w' => w'.cell? ⟨gb514, 0, none⟩ = some (.slice A1_0 l1_0.length c1_0) ∧ w'.cell? ⟨gb514, 1, none⟩ = some (.slice A1_1 l1_1.length c1_1) ∧ w'.cell? ⟨gb514, 2, none⟩ = some (.slice A1_2 l1_2.length c1_2) ∧ w'.cell? (ad527.add (x13_2).toNat) = some (.slice A527_0 (rd_L7 t518 x13_2).length c527_0)) (ds := []) #[F, F, F, F, F, F, F, F, F, F, F, F, F, F] (by kernel_rfl) rfl rfl ⟨(Qad BK514.out 0).trans rfl, (Qad BK514.out 1).trans rfl, (Qad BK514.out 2).trans rfl, hx527_0⟩ (fun hHeld => ?_); refine QaP contangotop_TopSpreads.tab12 contangotop_TopSpreads.bits12 (fun HT_ HW_ => ?_)
        generalize wr.drew = w31 at HO_5 HO_6 HO_10 HO_11 BK514 HB HL527_0 HR527_0 hx527_0 hHeld ⊢
        refine Zsp (i := 0) (N := some 74) (pm 14 1) HT_ ?_
        refine Zsp (i := 1) (N := some 75) (pm 14 2) HT_ ?_
        refine Zsp (i := 2) (N := some 76) (pm 14 3) HT_ ?_
        refine Zsp (i := 4) (N := some 78) #[T, T, T, F, T, F, F, F, F, F, F, F, F, F] HT_ ?_
        refine Zst (i := 3) (N := some 77) (pm 14 5) HT_ HW_ hHeld ?_ (hy := by (refine Or.inl ⟨by rfl, ?_⟩; rintro w' ⟨s0, s1, s2, s3⟩; go_simp; with_reducible rfl))
        refine Zst (i := 5) (N := some 79) (pm 14 6) HT_ HW_ hHeld ?_ (hy := by (refine Or.inl ⟨by rfl, ?_⟩; rintro w' ⟨s0, s1, s2, s3⟩; go_simp; with_reducible rfl))
        refine one_ (i := 6) (N := some 80) #[T, T, T, T, T, T, T, F, F, F, F, F, F, F] rfl rfl (one_of HT_.out (by kernel_rfl)) (by decide) (fun K hK => ?_)
        refine goes_ Try.func15 (by kernel_rfl) rfl #[.slice A527_0 (rd_L7 t518 x13_2).length c527_0, .slice A1_0 l1_0.length c1_0] (by rfl) rfl rfl (Zl) ?_
        with_reducible refine (QaI.calls k2 _ _ (rd_L7 t518 x13_2) _ _ l1_0 t528 t529 t530 _ ?side1 ?side2 ?side3 ?side4 A28.out).mono ?_
        (case side1 => repeat (first | exact (by repeat (first | (with_reducible exact HR527_0.out) | (with_reducible refine Kd.C_alloc ?_ _) | (with_reducible refine Kd.C_drewN ?_ _) | (with_reducible refine Kd.C_drew ?_) | exact HR527_0.out)) | (with_reducible refine Kd.C_alloc ?_ _) | (with_reducible refine Kd.C_drewN ?_ _) | (with_reducible refine Kd.C_drew ?_)))
        (case side2 => exact HC527_0.out)
        (case side3 => exact Zv (Kd.C_below HR1_0.out HB.out))
        (case side4 => exact HC1_0.out)
        rintro e w32 ⟨rfl, hb⟩
        have HS3_ := (hb.cell (World.block_lt_of_cell? _ _ (hHeld.2.2.2))).trans (hHeld.2.2.2)
        refine ⟨_, rfl, ?_⟩
        replace HO_5 := Aside0.mk (Kd.R_below (Zr HO_5.out) hb)
        replace HO_6 := Aside0.mk (Kd.S_below (by (with_reducible repeat (first | apply Kd.S_alloc | apply Kd.S_drewN | apply Kd.S_drew)); exact HO_6.out) hb)
        replace HO_10 := Aside0.mk (Kd.R_below (Zr HO_10.out) hb)
        replace HO_11 := Aside0.mk (Kd.R_below (Zr HO_11.out) hb)
        replace HL527_0 := Aside0.mk (Kd.R_below (by (with_reducible repeat (first | apply Kd.R_alloc | apply Kd.R_drewN | apply Kd.R_drew)); exact HL527_0.out) hb)
        replace BK514 := Aside0.mk (Zi BK514.out hb)
        replace HR527_0 := Aside0.mk (Kd.C_below (by repeat (first | (with_reducible exact HR527_0.out) | (with_reducible refine Kd.C_alloc ?_ _) | (with_reducible refine Kd.C_drewN ?_ _) | (with_reducible refine Kd.C_drew ?_) | exact HR527_0.out)) hb)
        replace HB := Aside0.mk (Qav (Zc1 GE514.out) hb)
        (try clear hb)
        (try clear hb2)
        (try clear hk)
        (try clear hi)
        refine hK.out _ _ ⟨(Qad BK514.out 0).trans rfl, (Qad BK514.out 1).trans rfl, (Qad BK514.out 2).trans rfl, HS3_⟩ (fun hHeld => ?_)
        clear hK K
        refine norm_ (a' := ?_) ?_ ?_
        rotate_left
        ·show Act.put _ (some 80) _ = _
         simp only [Act.put, Zj, Zk, Zm, i64_w, i32_w]
         rfl
        refine Zsp (i := 7) (N := some 73) (pm 14 8) HT_ ?_
        refine Zsp (i := 8) (N := some 81) (pm 14 9) HT_ ?_
        refine Zsp (i := 9) (N := some 82) (pm 14 10) HT_ ?_
        refine Zsp (i := 10) (N := some 83) (pm 14 11) HT_ ?_
        refine Zsp (i := 11) (N := some 14) (pm 14 12) HT_ ?_
        refine Zsp (i := 12) (N := some 15) (pm 14 13) HT_ ?_
        refine Zsp (i := 13) (N := some 16) (pm 14 14) HT_ ?_
        refine done_ (QaX HT_.out (by kernel_rfl)) ?_
        try go_wp2
        replace HO_5 := Aside0.mk (Kd.R_drew HO_5.out)
        replace HO_6 := Aside0.mk (Kd.S_drew HO_6.out)
        replace HO_10 := Aside0.mk (Kd.R_drew HO_10.out)
        replace HO_11 := Aside0.mk (Kd.R_drew HO_11.out)
        replace HL527_0 := Aside0.mk (Kd.R_drew HL527_0.out)
        replace BK514 := Aside0.mk (Qai BK514.out)
        replace HR527_0 := Aside0.mk (Kd.C_drew HR527_0.out)
        replace HB := Aside0.mk (Qac HB.out)
        have p531 : 0 ≤ (x13_2 : Int) := Ze
        have q531 : x13_2 < (t518.length : Int) := Ze
        obtain ⟨ad531, A531_0, c531_0, e531, hx531_0, hl531_0, hi531_0⟩ := at_L7 (Kd.S_reads' HO_6.out).2.2 x13_2 p531 q531
        obtain rfl : ad527 = ad531 := (by injection e531)
        obtain ⟨ce531, hce531, hMe531, hcc531⟩ := Kd.S_get HO_6.out [] x13_2 p531 (by first | exact q531 | exact Ze | (have e_ := (Kd.S_reads' HO_6.out).1; omega))
        obtain ⟨ve531_0, rfl, ge531_0⟩ := hMe531
        have hv531_0 := hcc531 0 _ rfl
        rw [Nat.add_zero, show ((Kd.slice 71 k71)).sz = 1 from rfl, Nat.mul_one] at hv531_0
        replace hv531_0 := Option.some.inj (hv531_0.symm.trans hx531_0)
        rw [hv531_0] at ge531_0
        have HL531_0 := Aside0.mk (show Kd.R k71 71 _ _ _ _ (rd_L7 t518 x13_2) from ge531_0)
        clear hv531_0 ge531_0
        clear hcc531 hce531
        have HR531_0 := Aside0.mk hi531_0
        have HC531_0 := Aside0.mk hl531_0
        clear hi531_0 hl531_0
        replace p531 := eq_true p531
        replace q531 := eq_true q531
        refine start_ (n := 12) (S := fun w' => w'.cell? ⟨gb514, 0, none⟩ = some (.slice A1_0 l1_0.length c1_0) ∧ w'.cell? ⟨gb514, 1, none⟩ = some (.slice A1_1 l1_1.length c1_1) ∧ w'.cell? ⟨gb514, 2, none⟩ = some (.slice A1_2 l1_2.length c1_2) ∧ w'.cell? (ad527.add (x13_2).toNat) = some (.slice A531_0 (rd_L7 t518 x13_2).length c531_0)) (ds := []) #[F, F, F, F, F, F, F, F, F, F, F, F] (by kernel_rfl) rfl rfl ⟨(Qad BK514.out 0).trans rfl, (Qad BK514.out 1).trans rfl, (Qad BK514.out 2).trans rfl, hx531_0⟩ (fun hHeld => ?_); refine QaP contangotop_TopSpreads.tab13 contangotop_TopSpreads.bits13 (fun HT_ HW_ => ?_)
        generalize w32.drew = w33 at HO_5 HO_6 HO_10 HO_11 HL527_0 BK514 HR527_0 HB HL531_0 HR531_0 hx531_0 hHeld ⊢
        refine Zsp (i := 0) (N := some 85) (pm 12 1) HT_ ?_
        refine Zsp (i := 1) (N := some 86) (pm 12 2) HT_ ?_
        refine Zsp (i := 2) (N := some 87) (pm 12 3) HT_ ?_
        refine Zsp (i := 4) (N := some 89) #[T, T, T, F, T, F, F, F, F, F, F, F] HT_ ?_
        refine Zst (i := 3) (N := some 88) (pm 12 5) HT_ HW_ hHeld ?_ (hy := by (refine Or.inl ⟨by rfl, ?_⟩; rintro w' ⟨s0, s1, s2, s3⟩; go_simp; with_reducible rfl))
        refine Zst (i := 5) (N := some 90) (pm 12 6) HT_ HW_ hHeld ?_ (hy := by (refine Or.inl ⟨by rfl, ?_⟩; rintro w' ⟨s0, s1, s2, s3⟩; go_simp; with_reducible rfl))
        refine one_ (i := 6) (N := some 91) #[T, T, T, T, T, T, T, F, F, F, F, F] rfl rfl (one_of HT_.out (by kernel_rfl)) (by decide) (fun K hK => ?_)
        refine goes_ Try.func16 (by kernel_rfl) rfl #[.slice A531_0 (rd_L7 t518 x13_2).length c531_0, .slice A1_0 l1_0.length c1_0] (by rfl) rfl rfl (Zl) ?_
        with_reducible refine (QaJ.calls k2 _ _ (rd_L7 t518 x13_2) _ _ l1_0 t532 t533 _ ?side1 ?side2 ?side3 ?side4 A29.out).mono ?_
        (case side1 => repeat (first | exact (by repeat (first | (with_reducible exact HR531_0.out) | (with_reducible refine Kd.C_alloc ?_ _) | (with_reducible refine Kd.C_drewN ?_ _) | (with_reducible refine Kd.C_drew ?_) | exact HR531_0.out)) | (with_reducible refine Kd.C_alloc ?_ _) | (with_reducible refine Kd.C_drewN ?_ _) | (with_reducible refine Kd.C_drew ?_)))
        (case side2 => exact HC531_0.out)
        (case side3 => exact Zv (Kd.C_below HR1_0.out HB.out))
        (case side4 => exact HC1_0.out)
        rintro e w34 ⟨rfl, hb⟩
        have HS3_ := (hb.cell (World.block_lt_of_cell? _ _ (hHeld.2.2.2))).trans (hHeld.2.2.2)
        refine ⟨_, rfl, ?_⟩
        replace HO_5 := Aside0.mk (Kd.R_below (Zr HO_5.out) hb)
        replace HO_6 := Aside0.mk (Kd.S_below (by (with_reducible repeat (first | apply Kd.S_alloc | apply Kd.S_drewN | apply Kd.S_drew)); exact HO_6.out) hb)
        replace HO_10 := Aside0.mk (Kd.R_below (Zr HO_10.out) hb)
        replace HO_11 := Aside0.mk (Kd.R_below (Zr HO_11.out) hb)
        replace HL527_0 := Aside0.mk (Kd.R_below (by (with_reducible repeat (first | apply Kd.R_alloc | apply Kd.R_drewN | apply Kd.R_drew)); exact HL527_0.out) hb)
        replace HL531_0 := Aside0.mk (Kd.R_below (by (with_reducible repeat (first | apply Kd.R_alloc | apply Kd.R_drewN | apply Kd.R_drew)); exact HL531_0.out) hb)
        replace BK514 := Aside0.mk (Zi BK514.out hb)
        replace HR527_0 := Aside0.mk (Kd.C_below (by repeat (first | (with_reducible exact HR527_0.out) | (with_reducible refine Kd.C_alloc ?_ _) | (with_reducible refine Kd.C_drewN ?_ _) | (with_reducible refine Kd.C_drew ?_) | exact HR527_0.out)) hb)
        replace HR531_0 := Aside0.mk (Kd.C_below (by repeat (first | (with_reducible exact HR531_0.out) | (with_reducible refine Kd.C_alloc ?_ _) | (with_reducible refine Kd.C_drewN ?_ _) | (with_reducible refine Kd.C_drew ?_) | exact HR531_0.out)) hb)
        replace HB := Aside0.mk (Qav (Zc1 GE514.out) hb)
        (try clear hb)
        (try clear hb2)
        (try clear hk)
        (try clear hi)
        refine hK.out _ _ ⟨(Qad BK514.out 0).trans rfl, (Qad BK514.out 1).trans rfl, (Qad BK514.out 2).trans rfl, HS3_⟩ (fun hHeld => ?_)
        clear hK K
        refine norm_ (a' := ?_) ?_ ?_
        rotate_left
        ·show Act.put _ (some 91) _ = _
         simp only [Act.put, Zj, Zk, Zm, i64_w, i32_w]
         rfl
        refine Zsp (i := 7) (N := some 84) (pm 12 8) HT_ ?_
        refine Zsp (i := 8) (N := some 92) (pm 12 9) HT_ ?_
        refine Zsp (i := 9) (N := some 93) (pm 12 10) HT_ ?_
        refine Zsp (i := 10) (N := some 17) (pm 12 11) HT_ ?_
        refine Zsp (i := 11) (N := some 18) (pm 12 12) HT_ ?_
        refine done_ (QaX HT_.out (by kernel_rfl)) ?_
        try go_wp2
        replace HO_5 := Aside0.mk (Kd.R_drew HO_5.out)
        replace HO_6 := Aside0.mk (Kd.S_drew HO_6.out)
        replace HO_10 := Aside0.mk (Kd.R_drew HO_10.out)
        replace HO_11 := Aside0.mk (Kd.R_drew HO_11.out)
        replace HL527_0 := Aside0.mk (Kd.R_drew HL527_0.out)
        replace HL531_0 := Aside0.mk (Kd.R_drew HL531_0.out)
        replace BK514 := Aside0.mk (Qai BK514.out)
        replace HR527_0 := Aside0.mk (Kd.C_drew HR527_0.out)
        replace HR531_0 := Aside0.mk (Kd.C_drew HR531_0.out)
        replace HB := Aside0.mk (Qac HB.out)
        have p534 : 0 ≤ (x13_2 : Int) := Ze
        have q534 : x13_2 < (t518.length : Int) := Ze
        obtain ⟨ad534, A534_0, c534_0, e534, hx534_0, hl534_0, hi534_0⟩ := at_L7 (Kd.S_reads' HO_6.out).2.2 x13_2 p534 q534
        obtain rfl : ad527 = ad534 := (by injection e534)
        obtain ⟨ce534, hce534, hMe534, hcc534⟩ := Kd.S_get HO_6.out [] x13_2 p534 (by first | exact q534 | exact Ze | (have e_ := (Kd.S_reads' HO_6.out).1; omega))
        obtain ⟨ve534_0, rfl, ge534_0⟩ := hMe534
        have hv534_0 := hcc534 0 _ rfl
        rw [Nat.add_zero, show ((Kd.slice 71 k71)).sz = 1 from rfl, Nat.mul_one] at hv534_0
        replace hv534_0 := Option.some.inj (hv534_0.symm.trans hx534_0)
        rw [hv534_0] at ge534_0
        have HL534_0 := Aside0.mk (show Kd.R k71 71 _ _ _ _ (rd_L7 t518 x13_2) from ge534_0)
        clear hv534_0 ge534_0
        clear hcc534 hce534
        have HR534_0 := Aside0.mk hi534_0
        have HC534_0 := Aside0.mk hl534_0
        clear hi534_0 hl534_0
        replace p534 := eq_true p534
        replace q534 := eq_true q534
        refine start_ (n := 14) (S := fun w' => w'.cell? ⟨gb514, 0, none⟩ = some (.slice A1_0 l1_0.length c1_0) ∧ w'.cell? ⟨gb514, 1, none⟩ = some (.slice A1_1 l1_1.length c1_1) ∧ w'.cell? ⟨gb514, 2, none⟩ = some (.slice A1_2 l1_2.length c1_2) ∧ w'.cell? (ad527.add (x13_2).toNat) = some (.slice A534_0 (rd_L7 t518 x13_2).length c534_0)) (ds := []) #[F, F, F, F, F, F, F, F, F, F, F, F, F, F] (by kernel_rfl) rfl rfl ⟨(Qad BK514.out 0).trans rfl, (Qad BK514.out 1).trans rfl, (Qad BK514.out 2).trans rfl, hx534_0⟩ (fun hHeld => ?_); refine QaP contangotop_TopSpreads.tab14 contangotop_TopSpreads.bits14 (fun HT_ HW_ => ?_)
        generalize w34.drew = w35 at HO_5 HO_6 HO_10 HO_11 HL527_0 HL531_0 BK514 HR527_0 HR531_0 HB HL534_0 HR534_0 hx534_0 hHeld ⊢
        refine Zsp (i := 0) (N := some 95) (pm 14 1) HT_ ?_
        refine Zsp (i := 1) (N := some 96) (pm 14 2) HT_ ?_
        refine Zsp (i := 2) (N := some 97) (pm 14 3) HT_ ?_
        refine Zsp (i := 4) (N := some 99) #[T, T, T, F, T, F, F, F, F, F, F, F, F, F] HT_ ?_
        refine Zst (i := 3) (N := some 98) (pm 14 5) HT_ HW_ hHeld ?_ (hy := by (refine Or.inl ⟨by rfl, ?_⟩; rintro w' ⟨s0, s1, s2, s3⟩; go_simp; with_reducible rfl))
        refine Zst (i := 5) (N := some 100) (pm 14 6) HT_ HW_ hHeld ?_ (hy := by (refine Or.inl ⟨by rfl, ?_⟩; rintro w' ⟨s0, s1, s2, s3⟩; go_simp; with_reducible rfl))
        refine one_ (i := 6) (N := some 101) #[T, T, T, T, T, T, T, F, F, F, F, F, F, F] rfl rfl (one_of HT_.out (by kernel_rfl)) (by decide) (fun K hK => ?_)
        refine goes_ Try.func17 (by kernel_rfl) rfl #[.slice A534_0 (rd_L7 t518 x13_2).length c534_0, .slice A1_0 l1_0.length c1_0] (by rfl) rfl rfl (Zl) ?_
        with_reducible refine (Qay.calls k2 _ _ (rd_L7 t518 x13_2) _ _ l1_0 t535 t536 t537 _ ?side1 ?side2 ?side3 ?side4 A30.out).mono ?_
        (case side1 => repeat (first | exact (by repeat (first | (with_reducible exact HR534_0.out) | (with_reducible refine Kd.C_alloc ?_ _) | (with_reducible refine Kd.C_drewN ?_ _) | (with_reducible refine Kd.C_drew ?_) | exact HR534_0.out)) | (with_reducible refine Kd.C_alloc ?_ _) | (with_reducible refine Kd.C_drewN ?_ _) | (with_reducible refine Kd.C_drew ?_)))
        (case side2 => exact HC534_0.out)
        (case side3 => exact Zv (Kd.C_below HR1_0.out HB.out))
        (case side4 => exact HC1_0.out)
        rintro e w36 ⟨v538, v540, rfl, ho0, ho1, hb⟩
        have HS3_ := (hb.cell (World.block_lt_of_cell? _ _ (hHeld.2.2.2))).trans (hHeld.2.2.2)
        refine ⟨_, rfl, ?_⟩
        have HO539 := Aside0.mk (Kd.R_lower (Kd.R_new' (Kd.R_new' ho0 (Kd.R_lt (Zr HO_10.out))) (Kd.R_lt (Zr HO_11.out))) (Qax (Zc1 GE514.out)))
        have HO541 := Aside0.mk (Kd.R_lower (Kd.R_new' (Kd.R_new' ho1 (Kd.R_lt (Zr HO_10.out))) (Kd.R_lt (Zr HO_11.out))) (Qax (Zc1 GE514.out)))
        replace HO_5 := Aside0.mk (Kd.R_below (Zr HO_5.out) hb)
        replace HO_6 := Aside0.mk (Kd.S_below (by (with_reducible repeat (first | apply Kd.S_alloc | apply Kd.S_drewN | apply Kd.S_drew)); exact HO_6.out) hb)
        replace HO_10 := Aside0.mk (Kd.R_mono (Kd.R_told (Kd.R_told (Kd.R_old (Zr HO_10.out) hb) (Kd.R_base ho0)) (Kd.R_base ho1)) (fun _ h_ => h_.1))
        replace HO_11 := Aside0.mk (Kd.R_mono (Kd.R_told (Kd.R_told (Kd.R_old (Zr HO_11.out) hb) (Kd.R_base ho0)) (Kd.R_base ho1)) (fun _ h_ => h_.1))
        replace HL527_0 := Aside0.mk (Kd.R_below (by (with_reducible repeat (first | apply Kd.R_alloc | apply Kd.R_drewN | apply Kd.R_drew)); exact HL527_0.out) hb)
        replace HL531_0 := Aside0.mk (Kd.R_below (by (with_reducible repeat (first | apply Kd.R_alloc | apply Kd.R_drewN | apply Kd.R_drew)); exact HL531_0.out) hb)
        replace HL534_0 := Aside0.mk (Kd.R_below (by (with_reducible repeat (first | apply Kd.R_alloc | apply Kd.R_drewN | apply Kd.R_drew)); exact HL534_0.out) hb)
        replace BK514 := Aside0.mk (Zi BK514.out hb)
        replace HR527_0 := Aside0.mk (Kd.C_below (by repeat (first | (with_reducible exact HR527_0.out) | (with_reducible refine Kd.C_alloc ?_ _) | (with_reducible refine Kd.C_drewN ?_ _) | (with_reducible refine Kd.C_drew ?_) | exact HR527_0.out)) hb)
        replace HR531_0 := Aside0.mk (Kd.C_below (by repeat (first | (with_reducible exact HR531_0.out) | (with_reducible refine Kd.C_alloc ?_ _) | (with_reducible refine Kd.C_drewN ?_ _) | (with_reducible refine Kd.C_drew ?_) | exact HR531_0.out)) hb)
        replace HR534_0 := Aside0.mk (Kd.C_below (by repeat (first | (with_reducible exact HR534_0.out) | (with_reducible refine Kd.C_alloc ?_ _) | (with_reducible refine Kd.C_drewN ?_ _) | (with_reducible refine Kd.C_drew ?_) | exact HR534_0.out)) hb)
        replace HB := Aside0.mk (Qav (Zc1 GE514.out) hb)
        (try clear hb)
        (try clear hb2)
        (try clear hk)
        (try clear hi)
        (try clear ho0)
        (try clear ho1)
        refine hK.out _ _ ⟨(Qad BK514.out 0).trans rfl, (Qad BK514.out 1).trans rfl, (Qad BK514.out 2).trans rfl, HS3_⟩ (fun hHeld => ?_)
        clear hK K
        refine norm_ (a' := ?_) ?_ ?_
        rotate_left
        ·show Act.put _ (some 101) _ = _
         simp only [Act.put, Zj, Zk, Zm, i64_w, i32_w]
         rfl
        refine Zsp (i := 7) (N := some 94) (pm 14 8) HT_ ?_
        refine Zsp (i := 8) (N := some 102) (pm 14 9) HT_ ?_
        refine Zsp (i := 9) (N := some 103) (pm 14 10) HT_ ?_
        refine Zsp (i := 10) (N := some 104) (pm 14 11) HT_ ?_
        refine Zsp (i := 11) (N := some 19) (pm 14 12) HT_ ?_
        refine Zsp (i := 12) (N := some 20) (pm 14 13) HT_ ?_
        refine Zsp (i := 13) (N := some 21) (pm 14 14) HT_ ?_
        refine done_ (QaX HT_.out (by kernel_rfl)) ?_
        go_upto_if 106 with (fail)
        by_cases c37 : t530 = 0
        ·rw [if_pos c37] at H
         have c37b0 : (t530 == 0) = T := beq_iff_eq.mpr c37
         have c37b1 : (t530 != 0) = F := bne_eq_false_iff_eq.mpr c37
         clear c37
         (try simp only [c37b0, c37b1])
         have HC38 := Aside0.mk H
         clear H
         go_upto_region 17 with (fail)
         go_cut [119] (fun v119 wc => ∃ (kq : Nat) (x119_37 : Bool), v119 = .bool x119_37 ∧ Aside0 (contangotop_TopSpreads.j2 kq t517 t518 t523 x10_2 x11_2 x12_2 x13_2 t528 t532 t535 t536 x119_37 l1_0 l1_1 l1_2 = some r) ∧ Aside0 (kq ≤ k2) ∧ Aside0 (Kd.R Kd.string 9 wc w.heap.size (fun _ => True) v519 t517) ∧ Aside0 (Kd.S (Kd.slice 71 k71) 22 wc w.heap.size (fun _ => True) (.slice (some ad527) t518.length co25) t518) ∧ Aside0 (Kd.R (Kd.int .i64) 3 wc w.heap.size (fun k_ => some k_ ≠ (u11 : Value).ownBlock ∧ some k_ ≠ (v538 : Value).ownBlock ∧ some k_ ≠ (v540 : Value).ownBlock) u10 x10_2) ∧ Aside0 (Kd.R (Kd.int .i64) 3 wc w.heap.size (fun k_ => some k_ ≠ (u10 : Value).ownBlock ∧ some k_ ≠ (v538 : Value).ownBlock ∧ some k_ ≠ (v540 : Value).ownBlock) u11 x11_2) ∧ Aside0 (Kd.R (Kd.int .i64) 3 wc w.heap.size (fun k_ => some k_ ≠ (u10 : Value).ownBlock ∧ some k_ ≠ (u11 : Value).ownBlock ∧ some k_ ≠ (v540 : Value).ownBlock) v538 t535) ∧ Aside0 (Kd.R (Kd.int .i64) 3 wc w.heap.size (fun k_ => some k_ ≠ (u10 : Value).ownBlock ∧ some k_ ≠ (u11 : Value).ownBlock ∧ some k_ ≠ (v538 : Value).ownBlock) v540 t536) ∧ Aside0 (wc.heap[gb514]? = some (.cells #[(.slice A1_0 l1_0.length c1_0), (.slice A1_1 l1_1.length c1_1), (.slice A1_2 l1_2.length c1_2)] 42 (0, 0))) ∧ Aside0 (Kd.C k71 wc A527_0 (rd_L7 t518 x13_2).length (rd_L7 t518 x13_2)) ∧ Aside0 (Kd.C k71 wc A531_0 (rd_L7 t518 x13_2).length (rd_L7 t518 x13_2)) ∧ Aside0 (Kd.C k71 wc A534_0 (rd_L7 t518 x13_2).length (rd_L7 t518 x13_2)) ∧ Aside0 (Below w.heap.size w wc))
         case first =>
          have H := HC38.out
          clear HC38
          by_cases c39 : t533 = 0
          ·rw [if_pos c39] at H
           have c39b0 : (t533 == 0) = T := beq_iff_eq.mpr c39
           have c39b1 : (t533 != 0) = F := bne_eq_false_iff_eq.mpr c39
           clear c39
           by_cases c40 : t537 = 0
           ·rw [if_pos c40] at H
            have c40b0 : (t537 == 0) = T := beq_iff_eq.mpr c40
            have c40b1 : (t537 != 0) = F := bne_eq_false_iff_eq.mpr c40
            clear c40
            replace H := Option.bind_eq_some_iff.mp H
            obtain ⟨t543, A410, H⟩ := H
            replace H : (contangotop_TopSpreads.j2 k2 t517 t518 t523 x10_2 x11_2 x12_2 x13_2 t528 t532 t535 t536 (t543 != t532) l1_0 l1_1 l1_2) = some r := H
            have A41 := Aside0.mk A410
            clear A410
            have H' := Aside0.mk H
            clear H
            obtain ⟨Ao42, co42, eo42⟩ := Kd.R_slice HO541.out
            subst eo42
            go_wp2_with (first | (go_at_call 18; (with_reducible refine (QaC.calls k2 _ _ t536 t543 _ ?side1 ?side2 A41.out).mono ?_); (case side1 => exact Zv (Kd.R_reads' HO541.out).2.2); (case side2 => exact (Kd.R_reads' HO541.out).2.1); rintro e w' ⟨rfl, ⟨nd, rfl⟩⟩))
            go_meet
            case rel => exact ⟨_, ((t543 != t532)), (Zs), H', ⟨by have := HJ2.out; have := HK2.out; first | omega | exact Nat.le_refl _⟩, ⟨Zr HO_5.out⟩, ⟨by (with_reducible repeat (first | apply Kd.S_alloc | apply Kd.S_drewN | apply Kd.S_drew)); exact HO_6.out⟩, ⟨by (with_reducible repeat (first | apply Kd.R_alloc | apply Kd.R_drewN | apply Kd.R_drew)); exact Kd.R_mono HO_10.out (fun _ hk => ⟨hk.1.1, ⟨hk.1.2, hk.2⟩⟩)⟩, ⟨by (with_reducible repeat (first | apply Kd.R_alloc | apply Kd.R_drewN | apply Kd.R_drew)); exact Kd.R_mono HO_11.out (fun _ hk => ⟨hk.1.1, ⟨hk.1.2, hk.2⟩⟩)⟩, ⟨by (with_reducible repeat (first | apply Kd.R_alloc | apply Kd.R_drewN | apply Kd.R_drew)); exact Kd.R_mono HO539.out (fun _ hk => ⟨hk.1.2, ⟨hk.2, hk.1.1⟩⟩)⟩, ⟨by (with_reducible repeat (first | apply Kd.R_alloc | apply Kd.R_drewN | apply Kd.R_drew)); exact Kd.R_mono HO541.out (fun _ hk => ⟨hk.1.2, ⟨hk.2, hk.1.1⟩⟩)⟩, ⟨Zu BK514.out⟩, ⟨by repeat (first | (with_reducible exact HR527_0.out) | (with_reducible refine Kd.C_alloc ?_ _) | (with_reducible refine Kd.C_drewN ?_ _) | (with_reducible refine Kd.C_drew ?_) | exact HR527_0.out)⟩, ⟨by repeat (first | (with_reducible exact HR531_0.out) | (with_reducible refine Kd.C_alloc ?_ _) | (with_reducible refine Kd.C_drewN ?_ _) | (with_reducible refine Kd.C_drew ?_) | exact HR531_0.out)⟩, ⟨by repeat (first | (with_reducible exact HR534_0.out) | (with_reducible refine Kd.C_alloc ?_ _) | (with_reducible refine Kd.C_drewN ?_ _) | (with_reducible refine Kd.C_drew ?_) | exact HR534_0.out)⟩, ⟨Zc1 GE514.out⟩⟩
           rw [if_neg c40] at H
           have c40b0 : (t537 == 0) = F := beq_eq_false_iff_ne.mpr c40
           have c40b1 : (t537 != 0) = T := bne_iff_ne.mpr c40
           have H' := Aside0.mk H
           clear H
           go_wp2
           go_meet
           case rel => exact ⟨_, (T), (Zs), H', ⟨by have := HJ2.out; have := HK2.out; first | omega | exact Nat.le_refl _⟩, ⟨Zr HO_5.out⟩, ⟨by (with_reducible repeat (first | apply Kd.S_alloc | apply Kd.S_drewN | apply Kd.S_drew)); exact HO_6.out⟩, ⟨by (with_reducible repeat (first | apply Kd.R_alloc | apply Kd.R_drewN | apply Kd.R_drew)); exact Kd.R_mono HO_10.out (fun _ hk => ⟨hk.1.1, ⟨hk.1.2, hk.2⟩⟩)⟩, ⟨by (with_reducible repeat (first | apply Kd.R_alloc | apply Kd.R_drewN | apply Kd.R_drew)); exact Kd.R_mono HO_11.out (fun _ hk => ⟨hk.1.1, ⟨hk.1.2, hk.2⟩⟩)⟩, ⟨by (with_reducible repeat (first | apply Kd.R_alloc | apply Kd.R_drewN | apply Kd.R_drew)); exact Kd.R_mono HO539.out (fun _ hk => ⟨hk.1.2, ⟨hk.2, hk.1.1⟩⟩)⟩, ⟨by (with_reducible repeat (first | apply Kd.R_alloc | apply Kd.R_drewN | apply Kd.R_drew)); exact Kd.R_mono HO541.out (fun _ hk => ⟨hk.1.2, ⟨hk.2, hk.1.1⟩⟩)⟩, ⟨Zu BK514.out⟩, ⟨by repeat (first | (with_reducible exact HR527_0.out) | (with_reducible refine Kd.C_alloc ?_ _) | (with_reducible refine Kd.C_drewN ?_ _) | (with_reducible refine Kd.C_drew ?_) | exact HR527_0.out)⟩, ⟨by repeat (first | (with_reducible exact HR531_0.out) | (with_reducible refine Kd.C_alloc ?_ _) | (with_reducible refine Kd.C_drewN ?_ _) | (with_reducible refine Kd.C_drew ?_) | exact HR531_0.out)⟩, ⟨by repeat (first | (with_reducible exact HR534_0.out) | (with_reducible refine Kd.C_alloc ?_ _) | (with_reducible refine Kd.C_drewN ?_ _) | (with_reducible refine Kd.C_drew ?_) | exact HR534_0.out)⟩, ⟨Zc1 GE514.out⟩⟩
          rw [if_neg c39] at H
          have c39b0 : (t533 == 0) = F := beq_eq_false_iff_ne.mpr c39
          have c39b1 : (t533 != 0) = T := bne_iff_ne.mpr c39
          have H' := Aside0.mk H
          clear H
          go_wp2
          go_meet
          case rel => exact ⟨_, (T), (Zs), H', ⟨by have := HJ2.out; have := HK2.out; first | omega | exact Nat.le_refl _⟩, ⟨Zr HO_5.out⟩, ⟨by (with_reducible repeat (first | apply Kd.S_alloc | apply Kd.S_drewN | apply Kd.S_drew)); exact HO_6.out⟩, ⟨by (with_reducible repeat (first | apply Kd.R_alloc | apply Kd.R_drewN | apply Kd.R_drew)); exact Kd.R_mono HO_10.out (fun _ hk => ⟨hk.1.1, ⟨hk.1.2, hk.2⟩⟩)⟩, ⟨by (with_reducible repeat (first | apply Kd.R_alloc | apply Kd.R_drewN | apply Kd.R_drew)); exact Kd.R_mono HO_11.out (fun _ hk => ⟨hk.1.1, ⟨hk.1.2, hk.2⟩⟩)⟩, ⟨by (with_reducible repeat (first | apply Kd.R_alloc | apply Kd.R_drewN | apply Kd.R_drew)); exact Kd.R_mono HO539.out (fun _ hk => ⟨hk.1.2, ⟨hk.2, hk.1.1⟩⟩)⟩, ⟨by (with_reducible repeat (first | apply Kd.R_alloc | apply Kd.R_drewN | apply Kd.R_drew)); exact Kd.R_mono HO541.out (fun _ hk => ⟨hk.1.2, ⟨hk.2, hk.1.1⟩⟩)⟩, ⟨Zu BK514.out⟩, ⟨by repeat (first | (with_reducible exact HR527_0.out) | (with_reducible refine Kd.C_alloc ?_ _) | (with_reducible refine Kd.C_drewN ?_ _) | (with_reducible refine Kd.C_drew ?_) | exact HR527_0.out)⟩, ⟨by repeat (first | (with_reducible exact HR531_0.out) | (with_reducible refine Kd.C_alloc ?_ _) | (with_reducible refine Kd.C_drewN ?_ _) | (with_reducible refine Kd.C_drew ?_) | exact HR531_0.out)⟩, ⟨by repeat (first | (with_reducible exact HR534_0.out) | (with_reducible refine Kd.C_alloc ?_ _) | (with_reducible refine Kd.C_drewN ?_ _) | (with_reducible refine Kd.C_drew ?_) | exact HR534_0.out)⟩, ⟨Zc1 GE514.out⟩⟩
         case rest =>
          clear HC38
          try clear c1
          try clear p2
          try clear c3
          try clear c4
          try clear c5
          try clear p5
          try clear q5
          try clear hx5
          try clear c15
          try clear c16
          try clear c17
          try clear c37
          try clear c37b0
          try clear c37b1
          try clear c39
          try clear c39b0
          try clear c39b1
          try clear c40
          try clear c40b0
          try clear c40b1
          try clear hx531_0
          try clear hx534_0
          try clear p531
          try clear p534
          try clear q531
          try clear q534
          obtain ⟨kq, x119_37, rfl, HA, HJ37, HO_5, HO_6, HO_10, HO_11, HO_19, HO_20, BK514, HR527_0, HR531_0, HR534_0, HB⟩ := hcut
          cases kq with
          | zero => exact absurd HA.out (by simp [contangotop_TopSpreads.j2])
          | succ kj37 =>
           have H := HA.out
           clear HA
           simp only [contangotop_TopSpreads.j2] at H
           by_cases c43 : x119_37 = T
           ·subst c43
            have H1 : (none) = some r := by rw [if_pos rfl] at H; exact H
            clear H
            have H := H1
            clear H1
            exact absurd H (by simp)
           replace c43 := Bool.eq_false_iff.mpr c43
           subst c43
           have H1 : ((Qak.f kj37 t535 t536 l1_1).bind fun bt544 => (if bt544.2.2 = 0 then ((QaC.f kj37 bt544.2.1).bind fun t551 => (contangotop_TopSpreads.j3 kj37 t517 t518 t523 x10_2 x11_2 x12_2 x13_2 t528 t532 (t551 != t532) l1_0 l1_1 l1_2)) else (contangotop_TopSpreads.j3 kj37 t517 t518 t523 x10_2 x11_2 x12_2 x13_2 t528 t532 F l1_0 l1_1 l1_2))) = some r := by rw [if_neg (show ¬ (F = T) by decide)] at H; exact H
           clear H
           have H := H1
           clear H1
           replace H := Option.bind_eq_some_iff.mp H
           obtain ⟨⟨t544, t545, t546⟩, A440, H⟩ := H
           replace H : (if t546 = 0 then ((QaC.f kj37 t545).bind fun t551 => (contangotop_TopSpreads.j3 kj37 t517 t518 t523 x10_2 x11_2 x12_2 x13_2 t528 t532 (t551 != t532) l1_0 l1_1 l1_2)) else (contangotop_TopSpreads.j3 kj37 t517 t518 t523 x10_2 x11_2 x12_2 x13_2 t528 t532 F l1_0 l1_1 l1_2)) = some r := H
           have A44 := Aside0.mk A440
           clear A440
           have HC45 := Aside0.mk H
           clear H
           obtain ⟨hcz46_0, hfz46_0⟩ := Zy (v := (.slice A1_0 l1_0.length c1_0)) BK514.out 0
           obtain ⟨hcz46_1, hfz46_1⟩ := Zy (v := (.slice A1_1 l1_1.length c1_1)) BK514.out 1
           obtain ⟨hcz46_2, hfz46_2⟩ := Zy (v := (.slice A1_2 l1_2.length c1_2)) BK514.out 2
           obtain ⟨Ao47, co47, eo47⟩ := Kd.R_slice HO_19.out
           subst eo47
           obtain ⟨Ao48, co48, eo48⟩ := Kd.R_slice HO_20.out
           subst eo48
           go_upto_region 20 with (first | ((with_reducible refine QaH (f := 19) rfl ?_); refine goesL_ (some 125) rfl rfl Try.func19 (by kernel_rfl) rfl #[.slice Ao47 t535.length co47, .slice Ao48 t536.length co48, .slice A1_1 l1_1.length c1_1] rfl (Zl) ?_; (with_reducible refine (Qak.calls kj37 _ _ t535 _ _ t536 _ _ l1_1 t544 t545 t546 _ ?side1 ?side2 ?side3 ?side4 ?side5 ?side6 A44.out).mono ?_); (case side1 => exact Zv (Kd.R_reads' HO_19.out).2.2); (case side2 => exact (Kd.R_reads' HO_19.out).2.1); (case side3 => exact Zv (Kd.R_reads' HO_20.out).2.2); (case side4 => exact (Kd.R_reads' HO_20.out).2.1); (case side5 => exact Zv (Kd.C_below HR1_1.out HB.out)); (case side6 => exact HC1_1.out); rintro e w49 ⟨v547, v549, rfl, ho0, ho1, hb⟩; refine ⟨_, rfl, ?_⟩; have HO548 := Aside0.mk (Kd.R_lower (Kd.R_new' (Kd.R_new' (Kd.R_new' (Kd.R_new' ho0 (Kd.R_lt (Zr HO_10.out))) (Kd.R_lt (Zr HO_11.out))) (Kd.R_lt (Zr HO_19.out))) (Kd.R_lt (Zr HO_20.out))) (Qax (Zc1 GE514.out))); have HO550 := Aside0.mk (Kd.R_lower (Kd.R_new' (Kd.R_new' (Kd.R_new' (Kd.R_new' ho1 (Kd.R_lt (Zr HO_10.out))) (Kd.R_lt (Zr HO_11.out))) (Kd.R_lt (Zr HO_19.out))) (Kd.R_lt (Zr HO_20.out))) (Qax (Zc1 GE514.out))); replace HO_5 := Aside0.mk (Kd.R_below (Zr HO_5.out) hb); replace HO_6 := Aside0.mk (Kd.S_below (by (with_reducible repeat (first | apply Kd.S_alloc | apply Kd.S_drewN | apply Kd.S_drew)); exact HO_6.out) hb); replace HO_10 := Aside0.mk (Kd.R_mono (Kd.R_told (Kd.R_told (Kd.R_old (Zr HO_10.out) hb) (Kd.R_base ho0)) (Kd.R_base ho1)) (fun _ h_ => h_.1)); replace HO_11 := Aside0.mk (Kd.R_mono (Kd.R_told (Kd.R_told (Kd.R_old (Zr HO_11.out) hb) (Kd.R_base ho0)) (Kd.R_base ho1)) (fun _ h_ => h_.1)); replace HO_19 := Aside0.mk (Kd.R_mono (Kd.R_told (Kd.R_told (Kd.R_old (Zr HO_19.out) hb) (Kd.R_base ho0)) (Kd.R_base ho1)) (fun _ h_ => h_.1)); replace HO_20 := Aside0.mk (Kd.R_mono (Kd.R_told (Kd.R_told (Kd.R_old (Zr HO_20.out) hb) (Kd.R_base ho0)) (Kd.R_base ho1)) (fun _ h_ => h_.1)); replace BK514 := Aside0.mk (Zi BK514.out hb); replace HR527_0 := Aside0.mk (Kd.C_below (by repeat (first | (with_reducible exact HR527_0.out) | (with_reducible refine Kd.C_alloc ?_ _) | (with_reducible refine Kd.C_drewN ?_ _) | (with_reducible refine Kd.C_drew ?_) | exact HR527_0.out)) hb); replace HR531_0 := Aside0.mk (Kd.C_below (by repeat (first | (with_reducible exact HR531_0.out) | (with_reducible refine Kd.C_alloc ?_ _) | (with_reducible refine Kd.C_drewN ?_ _) | (with_reducible refine Kd.C_drew ?_) | exact HR531_0.out)) hb); replace HR534_0 := Aside0.mk (Kd.C_below (by repeat (first | (with_reducible exact HR534_0.out) | (with_reducible refine Kd.C_alloc ?_ _) | (with_reducible refine Kd.C_drewN ?_ _) | (with_reducible refine Kd.C_drew ?_) | exact HR534_0.out)) hb); replace HB := Aside0.mk (Qav (Zc1 GE514.out) hb); (try clear hb); (try clear hb2); (try clear hk); (try clear hi); (try clear ho0); (try clear ho1)))
           (try simp only [Act.put, Zj, Zk, Zm])
           go_cut [136] (fun v136 wc => ∃ (kq : Nat) (x136_44 : Bool), v136 = .bool x136_44 ∧ Aside0 (contangotop_TopSpreads.j3 kq t517 t518 t523 x10_2 x11_2 x12_2 x13_2 t528 t532 x136_44 l1_0 l1_1 l1_2 = some r) ∧ Aside0 (kq ≤ kj37) ∧ Aside0 (Kd.R Kd.string 9 wc w.heap.size (fun _ => True) v519 t517) ∧ Aside0 (Kd.S (Kd.slice 71 k71) 22 wc w.heap.size (fun _ => True) (.slice (some ad527) t518.length co25) t518) ∧ Aside0 (Kd.R (Kd.int .i64) 3 wc w.heap.size (fun k_ => some k_ ≠ (u11 : Value).ownBlock) u10 x10_2) ∧ Aside0 (Kd.R (Kd.int .i64) 3 wc w.heap.size (fun k_ => some k_ ≠ (u10 : Value).ownBlock) u11 x11_2) ∧ Aside0 (wc.heap[gb514]? = some (.cells #[(.slice A1_0 l1_0.length c1_0), (.slice A1_1 l1_1.length c1_1), (.slice A1_2 l1_2.length c1_2)] 42 (0, 0))) ∧ Aside0 (Kd.C k71 wc A527_0 (rd_L7 t518 x13_2).length (rd_L7 t518 x13_2)) ∧ Aside0 (Kd.C k71 wc A531_0 (rd_L7 t518 x13_2).length (rd_L7 t518 x13_2)) ∧ Aside0 (Kd.C k71 wc A534_0 (rd_L7 t518 x13_2).length (rd_L7 t518 x13_2)) ∧ Aside0 (Below w.heap.size w wc))
           case first =>
            have H := HC45.out
            clear HC45
            by_cases c50 : t546 = 0
            ·rw [if_pos c50] at H
             have c50b0 : (t546 == 0) = T := beq_iff_eq.mpr c50
             have c50b1 : (t546 != 0) = F := bne_eq_false_iff_eq.mpr c50
             clear c50
             replace H := Option.bind_eq_some_iff.mp H
             obtain ⟨t551, A510, H⟩ := H
             replace H : (contangotop_TopSpreads.j3 kj37 t517 t518 t523 x10_2 x11_2 x12_2 x13_2 t528 t532 (t551 != t532) l1_0 l1_1 l1_2) = some r := H
             have A51 := Aside0.mk A510
             clear A510
             have H' := Aside0.mk H
             clear H
             obtain ⟨Ao52, co52, eo52⟩ := Kd.R_slice HO550.out
             subst eo52
             go_wp2_with (first | (go_at_call 18; (with_reducible refine (QaC.calls kj37 _ _ t545 t551 _ ?side1 ?side2 A51.out).mono ?_); (case side1 => exact Zv (Kd.R_reads' HO550.out).2.2); (case side2 => exact (Kd.R_reads' HO550.out).2.1); rintro e w' ⟨rfl, ⟨nd, rfl⟩⟩))
             go_meet
             case rel => exact ⟨_, ((t551 != t532)), (Zs), H', ⟨by have := HJ2.out; have := HK2.out; have := HJ37.out; first | omega | exact Nat.le_refl _⟩, ⟨Zr HO_5.out⟩, ⟨by (with_reducible repeat (first | apply Kd.S_alloc | apply Kd.S_drewN | apply Kd.S_drew)); exact HO_6.out⟩, ⟨by (with_reducible repeat (first | apply Kd.R_alloc | apply Kd.R_drewN | apply Kd.R_drew)); exact Kd.R_mono HO_10.out (fun _ hk => hk.1.1.1)⟩, ⟨by (with_reducible repeat (first | apply Kd.R_alloc | apply Kd.R_drewN | apply Kd.R_drew)); exact Kd.R_mono HO_11.out (fun _ hk => hk.1.1.1)⟩, ⟨Zu BK514.out⟩, ⟨by repeat (first | (with_reducible exact HR527_0.out) | (with_reducible refine Kd.C_alloc ?_ _) | (with_reducible refine Kd.C_drewN ?_ _) | (with_reducible refine Kd.C_drew ?_) | exact HR527_0.out)⟩, ⟨by repeat (first | (with_reducible exact HR531_0.out) | (with_reducible refine Kd.C_alloc ?_ _) | (with_reducible refine Kd.C_drewN ?_ _) | (with_reducible refine Kd.C_drew ?_) | exact HR531_0.out)⟩, ⟨by repeat (first | (with_reducible exact HR534_0.out) | (with_reducible refine Kd.C_alloc ?_ _) | (with_reducible refine Kd.C_drewN ?_ _) | (with_reducible refine Kd.C_drew ?_) | exact HR534_0.out)⟩, ⟨Zc1 GE514.out⟩⟩
            rw [if_neg c50] at H
            have c50b0 : (t546 == 0) = F := beq_eq_false_iff_ne.mpr c50
            have c50b1 : (t546 != 0) = T := bne_iff_ne.mpr c50
            have H' := Aside0.mk H
            clear H
            go_wp2
            go_meet
            case rel => exact ⟨_, (F), (Zs), H', ⟨by have := HJ2.out; have := HK2.out; have := HJ37.out; first | omega | exact Nat.le_refl _⟩, ⟨Zr HO_5.out⟩, ⟨by (with_reducible repeat (first | apply Kd.S_alloc | apply Kd.S_drewN | apply Kd.S_drew)); exact HO_6.out⟩, ⟨by (with_reducible repeat (first | apply Kd.R_alloc | apply Kd.R_drewN | apply Kd.R_drew)); exact Kd.R_mono HO_10.out (fun _ hk => hk.1.1.1)⟩, ⟨by (with_reducible repeat (first | apply Kd.R_alloc | apply Kd.R_drewN | apply Kd.R_drew)); exact Kd.R_mono HO_11.out (fun _ hk => hk.1.1.1)⟩, ⟨Zu BK514.out⟩, ⟨by repeat (first | (with_reducible exact HR527_0.out) | (with_reducible refine Kd.C_alloc ?_ _) | (with_reducible refine Kd.C_drewN ?_ _) | (with_reducible refine Kd.C_drew ?_) | exact HR527_0.out)⟩, ⟨by repeat (first | (with_reducible exact HR531_0.out) | (with_reducible refine Kd.C_alloc ?_ _) | (with_reducible refine Kd.C_drewN ?_ _) | (with_reducible refine Kd.C_drew ?_) | exact HR531_0.out)⟩, ⟨by repeat (first | (with_reducible exact HR534_0.out) | (with_reducible refine Kd.C_alloc ?_ _) | (with_reducible refine Kd.C_drewN ?_ _) | (with_reducible refine Kd.C_drew ?_) | exact HR534_0.out)⟩, ⟨Zc1 GE514.out⟩⟩
           case rest =>
            clear HC45
            try clear c1
            try clear p2
            try clear c3
            try clear c4
            try clear c5
            try clear p5
            try clear q5
            try clear hx5
            try clear c15
            try clear c16
            try clear c17
            try clear c19
            try clear c37
            try clear c37b0
            try clear c37b1
            try clear c39
            try clear c39b0
            try clear c39b1
            try clear c40
            try clear c40b0
            try clear c40b1
            try clear c43
            try clear c50
            try clear c50b0
            try clear c50b1
            try clear hcz46_0
            try clear hcz46_1
            try clear hcz46_2
            try clear hfz46_0
            try clear hfz46_1
            try clear hfz46_2
            try clear hx531_0
            try clear hx534_0
            try clear p2
            try clear p5
            try clear p531
            try clear p534
            try clear q5
            try clear q531
            try clear q534
            obtain ⟨kq, x136_44, rfl, HA, HJ44, HO_5, HO_6, HO_10, HO_11, BK514, HR527_0, HR531_0, HR534_0, HB⟩ := hcut
            cases kq with
            | zero => exact absurd HA.out (by simp [contangotop_TopSpreads.j3])
            | succ kj44 =>
             have H := HA.out
             clear HA
             simp only [contangotop_TopSpreads.j3] at H
             by_cases c53 : x136_44 = T
             ·subst c53
              have H1 : (none) = some r := by rw [if_pos rfl] at H; exact H
              clear H
              have H := H1
              clear H1
              exact absurd H (by simp)
             replace c53 := Bool.eq_false_iff.mpr c53
             subst c53
             have H1 : (if x10_2.length < 17592186044416 then (if x11_2.length < 17592186044416 then (if t528 > 18014398509481984 then ((QaA.f kj44).bind fun t558 => (some t558)) else (contangotop_TopSpreads.l0 kj44 t517 t518 t523 (x10_2 ++ [t532]) (x11_2 ++ [t528]) (wrap64 (x12_2 + (mn t528 18014398509481984))) (wrap64 (x13_2 + 1)) l1_0 l1_1 l1_2)) else (none)) else (none)) = some r := by rw [if_neg (show ¬ (F = T) by decide)] at H; exact H
             clear H
             have H := H1
             clear H1
             by_cases c54 : x10_2.length < 17592186044416
             ·rw [if_pos c54] at H
              have LMc54 := Aside0.mk c54
              clear c54
              obtain ⟨y552, hy552⟩ : ∃ y_ : List Int, y_ = (x10_2 ++ [t532]) := ⟨_, rfl⟩
              replace H : (if x11_2.length < 17592186044416 then (if t528 > 18014398509481984 then ((QaA.f kj44).bind fun t558 => (some t558)) else (contangotop_TopSpreads.l0 kj44 t517 t518 t523 y552 (x11_2 ++ [t528]) (wrap64 (x12_2 + (mn t528 18014398509481984))) (wrap64 (x13_2 + 1)) l1_0 l1_1 l1_2)) else (none)) = some r := by first | (rw [hy552]; with_reducible exact H) | (have H2_ := (Option.bind_some _ _).symm.trans H; rw [hy552]; with_reducible exact H2_) | (have H2_ := (Option.bind_some _ _).symm.trans H; with_reducible exact H2_) | with_reducible exact H | (rw [hy552]; exact H) | exact H
              have Ny552 := Aside0.mk hy552
              clear hy552
              by_cases c55 : x11_2.length < 17592186044416
              ·rw [if_pos c55] at H
               have LMc55 := Aside0.mk c55
               clear c55
               obtain ⟨y555, hy555⟩ : ∃ y_ : List Int, y_ = (x11_2 ++ [t528]) := ⟨_, rfl⟩
               replace H : (if t528 > 18014398509481984 then ((QaA.f kj44).bind fun t558 => (some t558)) else (contangotop_TopSpreads.l0 kj44 t517 t518 t523 y552 y555 (wrap64 (x12_2 + (mn t528 18014398509481984))) (wrap64 (x13_2 + 1)) l1_0 l1_1 l1_2)) = some r := by first | (rw [hy555]; with_reducible exact H) | (have H2_ := (Option.bind_some _ _).symm.trans H; rw [hy555]; with_reducible exact H2_) | (have H2_ := (Option.bind_some _ _).symm.trans H; with_reducible exact H2_) | with_reducible exact H | (rw [hy555]; exact H) | exact H
               have Ny555 := Aside0.mk hy555
               clear hy555
               obtain ⟨ji56, hji56⟩ : ∃ j_ : Int, (mn t528 18014398509481984) = j_ := ⟨_, rfl⟩
               replace H : (if t528 > 18014398509481984 then ((QaA.f kj44).bind fun t558 => (some t558)) else (contangotop_TopSpreads.l0 kj44 t517 t518 t523 y552 y555 (wrap64 (x12_2 + (ji56))) (wrap64 (x13_2 + 1)) l1_0 l1_1 l1_2)) = some r := by first | (rw [hji56] at H; exact H) | (simp only [hji56] at H ⊢; exact H)
               have hji56_ : (if 18014398509481984 < t528 then 18014398509481984 else t528) = ji56 := hji56
               go_upto_if 150 with (first | ((with_reducible refine Qbr (b := .append) (xs := #[.tmp 137, .tmp 139]) rfl ?_); (try (refine QbS (by rfl) ?_; dsimp only)); at_builtin; refine Kd.R_append (Kd.int .i64) (w0 := w) w.heap.size rfl (.tmp 137) (.tmp 139) 32 3 (.int .i64 0) 8 rfl Try.underlying32 info3 rfl (by decide) (by omega) u10 x10_2 t532 [.int .i64 t532] (fun k_ => some k_ ≠ (u11 : Value).ownBlock) (fun _ => False) rfl rfl ?aP (fun _ hk => hk.elim) ?aF ?aO ?aB ?aS ?aL ?_; (case aP => exact rfl); (case aB => exact (Zc1 GE514.out)); (case aF => exact (fun k_ hk => Kd.fresh' (Kd.R_lt (Zr HO_11.out)) k_ hk)); (case aO => exact (Zr HO_10.out)); (case aS => exact (Qax (Zc1 GE514.out))); (case aL => have := LMc54.out; omega); intro v553 w57 ho hb hg hat; rw [← Ny552.out] at ho; have HO554 := Aside0.mk (ho); replace HO_5 := Aside0.mk (Kd.R_over' (Zr HO_5.out) (Kd.R_typed (Zr HO_10.out)) (by decide) hg); replace HO_6 := Aside0.mk (Kd.S_over' (by (with_reducible repeat (first | apply Kd.S_alloc | apply Kd.S_drewN | apply Kd.S_drew)); exact HO_6.out) (Kd.R_typed (Zr HO_10.out)) (by decide) hg); replace HO_11 := Aside0.mk (Kd.R_after (ok := (fun _ => True)) (by (with_reducible repeat (first | apply Kd.R_alloc | apply Kd.R_drewN | apply Kd.R_drew)); exact Kd.R_mono HO_11.out (fun _ hk => ⟨trivial, hk⟩)) hg hat); replace BK514 := Aside0.mk (Qa0 (g := gb514) (o := .cells #[.slice A1_0 l1_0.length c1_0, .slice A1_1 l1_1.length c1_1, .slice A1_2 l1_2.length c1_2] 42 (0, 0)) (Zu BK514.out) hg (Kd.R_ne HO_10.out BK514.out (by decide))); replace HB := Aside0.mk (hb); clear HO_10; clear ho hb hg hat) | ((with_reducible refine Qbr (b := .append) (xs := #[.tmp 141, .tmp 143]) rfl ?_); (try (refine QbS (by rfl) ?_; dsimp only)); at_builtin; refine Kd.R_append (Kd.int .i64) (w0 := w) w.heap.size rfl (.tmp 141) (.tmp 143) 32 3 (.int .i64 0) 8 rfl Try.underlying32 info3 rfl (by decide) (by omega) u11 x11_2 t528 [.int .i64 t528] (fun k_ => some k_ ≠ (v553 : Value).ownBlock) (fun _ => False) rfl rfl ?aP (fun _ hk => hk.elim) ?aF ?aO ?aB ?aS ?aL ?_; (case aP => exact rfl); (case aB => exact (Zc1 GE514.out)); (case aF => exact (fun k_ hk => Kd.fresh' (Kd.R_lt (Zr HO554.out)) k_ hk)); (case aO => exact (by (with_reducible repeat (first | apply Kd.R_alloc | apply Kd.R_drewN | apply Kd.R_drew)); exact Kd.R_mono HO_11.out (fun _ hk => hk.2))); (case aS => exact (Qax (Zc1 GE514.out))); (case aL => have := LMc55.out; omega); intro v556 w58 ho hb hg hat; rw [← Ny555.out] at ho; have HO557 := Aside0.mk (ho); replace HO_5 := Aside0.mk (Kd.R_over' (Zr HO_5.out) (Kd.R_typed (Zr HO_11.out)) (by decide) hg); replace HO_6 := Aside0.mk (Kd.S_over' (by (with_reducible repeat (first | apply Kd.S_alloc | apply Kd.S_drewN | apply Kd.S_drew)); exact HO_6.out) (Kd.R_typed (Zr HO_11.out)) (by decide) hg); replace BK514 := Aside0.mk (Qa0 (g := gb514) (o := .cells #[.slice A1_0 l1_0.length c1_0, .slice A1_1 l1_1.length c1_1, .slice A1_2 l1_2.length c1_2] 42 (0, 0)) (Zu BK514.out) hg (Kd.R_ne HO_11.out BK514.out (by decide))); replace HO554 := Aside0.mk (Kd.R_after (ok := (fun _ => True)) (by (with_reducible repeat (first | apply Kd.R_alloc | apply Kd.R_drewN | apply Kd.R_drew)); exact Kd.R_mono HO554.out (fun _ hk => ⟨trivial, hk⟩)) hg hat); replace HB := Aside0.mk (hb); clear HO_11; clear ho hb hg hat))
               (try simp only [Act.put, Zj, Zk, Zm])
               by_cases c59 : t528 > 18014398509481984
               ·rw [if_pos c59] at H
                have c59b0 : decide (18014398509481984 < t528) = T := decide_eq_true c59
                clear c59
                (try simp only [c59b0])
                replace H := Option.bind_eq_some_iff.mp H
                obtain ⟨t558, A600, H⟩ := H
                replace H : (some t558) = some r := H
                have A60 := Aside0.mk A600
                clear A600
                obtain rfl := Option.some.inj H
                go_wp2_with (first | ((with_reducible refine QaH (f := 10) rfl ?_); refine goesL_ (some 151) rfl rfl Try.func10 (by kernel_rfl) rfl #[] rfl (Zl) ?_; (with_reducible refine (QaA.calls kj44  t558 _ A60.out).mono ?_); rintro e w61 ⟨rfl, hb⟩; refine ⟨_, rfl, ?_⟩; replace HO_5 := Aside0.mk (Kd.R_below (Zr HO_5.out) hb); replace HO_6 := Aside0.mk (Kd.S_below (by (with_reducible repeat (first | apply Kd.S_alloc | apply Kd.S_drewN | apply Kd.S_drew)); exact HO_6.out) hb); replace HO554 := Aside0.mk (Kd.R_below (Zr HO554.out) hb); replace HO557 := Aside0.mk (Kd.R_below (Zr HO557.out) hb); replace BK514 := Aside0.mk (Zi BK514.out hb); replace HB := Aside0.mk (Qav (Zc1 GE514.out) hb); (try clear hb); (try clear hb2); (try clear hk); (try clear hi)))
                go_ret
                exact ⟨by first | rfl | (simp [Qas, Qat] <;> rfl) | (simp only [← hji56]; first | rfl | (simp [Qas, Qat] <;> rfl)) | (simp [*, Qas, Qat] <;> rfl), Zc1 GE514.out⟩
               rw [if_neg c59] at H
               have c59b0 : decide (18014398509481984 < t528) = F := decide_eq_false c59
               clear c59
               (try simp only [c59b0])
               have H' := Aside0.mk H
               clear H
               go_wp2
               go_roundg kj44
               case measure => have := HJ2.out; have := HK2.out; have := HJ37.out; have := HJ44.out; omega
               case rel => exact ⟨(y552), (y555), (wrap64 (x12_2 + (ji56))), (wrap64 (x13_2 + 1)), (by first | rfl | (simp; done) | (simp only [← hji56] <;> (first | rfl | simp)) | (simp [*]; done)), (Zs), H', ⟨by have := HJ2.out; have := HK2.out; have := HJ37.out; have := HJ44.out; omega⟩, ⟨Zr HO_5.out⟩, ⟨by (with_reducible repeat (first | apply Kd.S_alloc | apply Kd.S_drewN | apply Kd.S_drew)); exact HO_6.out⟩, ⟨by (with_reducible repeat (first | apply Kd.R_alloc | apply Kd.R_drewN | apply Kd.R_drew)); exact Kd.R_mono HO554.out (fun _ hk => hk.2)⟩, ⟨Zr HO557.out⟩, ⟨Zu BK514.out⟩, ⟨Zc1 GE514.out⟩⟩
              rw [if_neg c55] at H
              exact absurd H (by simp)
             rw [if_neg c54] at H
             exact absurd H (by simp)
        rw [if_neg c37] at H
        have c37b0 : (t530 == 0) = F := beq_eq_false_iff_ne.mpr c37
        have c37b1 : (t530 != 0) = T := bne_iff_ne.mpr c37
        (try simp only [c37b0, c37b1])
        replace H := Option.bind_eq_some_iff.mp H
        obtain ⟨t542, A620, H⟩ := H
        replace H : (some t542) = some r := H
        have A62 := Aside0.mk A620
        clear A620
        obtain rfl := Option.some.inj H
        go_wp2_with (first | ((with_reducible refine QaH (f := 10) rfl ?_); refine goesL_ (some 107) rfl rfl Try.func10 (by kernel_rfl) rfl #[] rfl (Zl) ?_; (with_reducible refine (QaA.calls k2  t542 _ A62.out).mono ?_); rintro e w63 ⟨rfl, hb⟩; refine ⟨_, rfl, ?_⟩; replace HO_5 := Aside0.mk (Kd.R_below (Zr HO_5.out) hb); replace HO_6 := Aside0.mk (Kd.S_below (by (with_reducible repeat (first | apply Kd.S_alloc | apply Kd.S_drewN | apply Kd.S_drew)); exact HO_6.out) hb); replace HO_10 := Aside0.mk (Kd.R_below (Zr HO_10.out) hb); replace HO_11 := Aside0.mk (Kd.R_below (Zr HO_11.out) hb); replace HL527_0 := Aside0.mk (Kd.R_below (by (with_reducible repeat (first | apply Kd.R_alloc | apply Kd.R_drewN | apply Kd.R_drew)); exact HL527_0.out) hb); replace HL531_0 := Aside0.mk (Kd.R_below (by (with_reducible repeat (first | apply Kd.R_alloc | apply Kd.R_drewN | apply Kd.R_drew)); exact HL531_0.out) hb); replace HL534_0 := Aside0.mk (Kd.R_below (by (with_reducible repeat (first | apply Kd.R_alloc | apply Kd.R_drewN | apply Kd.R_drew)); exact HL534_0.out) hb); replace HO539 := Aside0.mk (Kd.R_below (Zr HO539.out) hb); replace HO541 := Aside0.mk (Kd.R_below (Zr HO541.out) hb); replace BK514 := Aside0.mk (Zi BK514.out hb); replace HR527_0 := Aside0.mk (Kd.C_below (by repeat (first | (with_reducible exact HR527_0.out) | (with_reducible refine Kd.C_alloc ?_ _) | (with_reducible refine Kd.C_drewN ?_ _) | (with_reducible refine Kd.C_drew ?_) | exact HR527_0.out)) hb); replace HR531_0 := Aside0.mk (Kd.C_below (by repeat (first | (with_reducible exact HR531_0.out) | (with_reducible refine Kd.C_alloc ?_ _) | (with_reducible refine Kd.C_drewN ?_ _) | (with_reducible refine Kd.C_drew ?_) | exact HR531_0.out)) hb); replace HR534_0 := Aside0.mk (Kd.C_below (by repeat (first | (with_reducible exact HR534_0.out) | (with_reducible refine Kd.C_alloc ?_ _) | (with_reducible refine Kd.C_drewN ?_ _) | (with_reducible refine Kd.C_drew ?_) | exact HR534_0.out)) hb); replace HB := Aside0.mk (Qav (Zc1 GE514.out) hb); (try clear hb); (try clear hb2); (try clear hk); (try clear hi)))
        go_ret
        exact ⟨Zq, Zc1 GE514.out⟩
       rw [if_neg c27] at H
       exact absurd H (by simp)
      rw [if_neg c26] at H
      have c26b0 : decide (x13_2 < (t518.length : Int)) = F := decide_eq_false c26
      clear c26
      (try simp only [c26b0])
      replace H := Option.bind_eq_some_iff.mp H
      obtain ⟨⟨t559, t560, t561⟩, A640, H⟩ := H
      replace H : (if t523 > x12_2 then (contangotop_TopSpreads.j4 k2 x11_2 t559 T) else (if t561 = 0 then (contangotop_TopSpreads.j4 k2 x11_2 t559 ((t559.length : Int) != (t517.length : Int))) else (contangotop_TopSpreads.j4 k2 x11_2 t559 F))) = some r := H
      have A64 := Aside0.mk A640
      clear A640
      have HC65 := Aside0.mk H
      clear H
      obtain ⟨hcz66_0, hfz66_0⟩ := Zy (v := (.slice A1_0 l1_0.length c1_0)) BK514.out 0
      obtain ⟨hcz66_1, hfz66_1⟩ := Zy (v := (.slice A1_1 l1_1.length c1_1)) BK514.out 1
      obtain ⟨hcz66_2, hfz66_2⟩ := Zy (v := (.slice A1_2 l1_2.length c1_2)) BK514.out 2
      obtain ⟨Ao67, co67, eo67⟩ := Kd.R_slice HO_5.out
      subst eo67
      obtain ⟨Ao68, co68, eo68⟩ := Kd.R_slice HO_10.out
      subst eo68
      obtain ⟨Ao69, co69, eo69⟩ := Kd.R_slice HO_11.out
      subst eo69
      go_upto_region 28 with (first | ((with_reducible refine QaH (f := 20) rfl ?_); refine goesL_ (some 158) rfl rfl Try.func20 (by kernel_rfl) rfl #[.slice Ao67 t517.length co67, .slice Ao68 x10_2.length co68, .slice Ao69 x11_2.length co69, .slice A1_2 l1_2.length c1_2] rfl (Zl) ?_; (with_reducible refine (Qam.calls k2 _ _ t517 _ _ x10_2 _ _ x11_2 _ _ l1_2 t559 t560 t561 _ ?side1 ?side2 ?side3 ?side4 ?side5 ?side6 ?side7 ?side8 A64.out).mono ?_); (case side1 => exact Zv (Kd.R_reads' HO_5.out).2.2); (case side2 => exact (Kd.R_reads' HO_5.out).2.1); (case side3 => exact Zv (Kd.R_reads' HO_10.out).2.2); (case side4 => exact (Kd.R_reads' HO_10.out).2.1); (case side5 => exact Zv (Kd.R_reads' HO_11.out).2.2); (case side6 => exact (Kd.R_reads' HO_11.out).2.1); (case side7 => exact Zv (Kd.C_below HR1_2.out HB.out)); (case side8 => exact HC1_2.out); rintro e w70 ⟨v562, v564, rfl, ho0, ho1, hb⟩; refine ⟨_, rfl, ?_⟩; have HO563 := Aside0.mk (Kd.R_lower (Kd.R_new' (Kd.R_new' ho0 (Kd.R_lt (Zr HO_10.out))) (Kd.R_lt (Zr HO_11.out))) (Qax (Zc1 GE514.out))); have HO565 := Aside0.mk (Kd.R_lower (Kd.R_new' (Kd.R_new' ho1 (Kd.R_lt (Zr HO_10.out))) (Kd.R_lt (Zr HO_11.out))) (Qax (Zc1 GE514.out))); replace HO_5 := Aside0.mk (Kd.R_below (Zr HO_5.out) hb); replace HO_6 := Aside0.mk (Kd.S_below (by (with_reducible repeat (first | apply Kd.S_alloc | apply Kd.S_drewN | apply Kd.S_drew)); exact HO_6.out) hb); replace HO_10 := Aside0.mk (Kd.R_mono (Kd.R_told (Kd.R_told (Kd.R_old (Zr HO_10.out) hb) (Kd.R_base ho0)) (Kd.R_base ho1)) (fun _ h_ => h_.1)); replace HO_11 := Aside0.mk (Kd.R_mono (Kd.R_told (Kd.R_told (Kd.R_old (Zr HO_11.out) hb) (Kd.R_base ho0)) (Kd.R_base ho1)) (fun _ h_ => h_.1)); replace BK514 := Aside0.mk (Zi BK514.out hb); replace HB := Aside0.mk (Qav (Zc1 GE514.out) hb); (try clear hb); (try clear hb2); (try clear hk); (try clear hi); (try clear ho0); (try clear ho1)))
      (try simp only [Act.put, Zj, Zk, Zm])
      go_cut [175] (fun v175 wc => ∃ (kq : Nat) (x175_64 : Bool), v175 = .bool x175_64 ∧ Aside0 (contangotop_TopSpreads.j4 kq x11_2 t559 x175_64 = some r) ∧ Aside0 (kq ≤ k2) ∧ Aside0 (Kd.R (Kd.int .i64) 3 wc w.heap.size (fun k_ => some k_ ≠ (v562 : Value).ownBlock) (.slice Ao69 x11_2.length co69) x11_2) ∧ Aside0 (Kd.R (Kd.int .i64) 3 wc w.heap.size (fun k_ => some k_ ≠ ((.slice Ao69 x11_2.length co69) : Value).ownBlock) v562 t559) ∧ Aside0 (wc.heap[gb514]? = some (.cells #[(.slice A1_0 l1_0.length c1_0), (.slice A1_1 l1_1.length c1_1), (.slice A1_2 l1_2.length c1_2)] 42 (0, 0))) ∧ Aside0 (Below w.heap.size w wc))
      case first =>
       have H := HC65.out
       clear HC65
       by_cases c71 : t523 > x12_2
       ·rw [if_pos c71] at H
        have c71b0 : decide (x12_2 < t523) = T := decide_eq_true c71
        clear c71
        have H' := Aside0.mk H
        clear H
        go_wp2
        go_meet
        case rel => exact ⟨_, (T), (Zs), H', ⟨by have := HJ2.out; have := HK2.out; first | omega | exact Nat.le_refl _⟩, ⟨by (with_reducible repeat (first | apply Kd.R_alloc | apply Kd.R_drewN | apply Kd.R_drew)); exact Kd.R_mono HO_11.out (fun _ hk => hk.1.2)⟩, ⟨by (with_reducible repeat (first | apply Kd.R_alloc | apply Kd.R_drewN | apply Kd.R_drew)); exact Kd.R_mono HO563.out (fun _ hk => hk.2)⟩, ⟨Zu BK514.out⟩, ⟨Zc1 GE514.out⟩⟩
       rw [if_neg c71] at H
       have c71b0 : decide (x12_2 < t523) = F := decide_eq_false c71
       clear c71
       by_cases c72 : t561 = 0
       ·rw [if_pos c72] at H
        have c72b0 : (t561 == 0) = T := beq_iff_eq.mpr c72
        have c72b1 : (t561 != 0) = F := bne_eq_false_iff_eq.mpr c72
        clear c72
        have H' := Aside0.mk H
        clear H
        obtain ⟨Ao73, co73, eo73⟩ := Kd.R_slice HO563.out
        subst eo73
        go_wp2
        go_meet
        case rel => exact ⟨_, (((t559.length : Int) != (t517.length : Int))), (Zs), H', ⟨by have := HJ2.out; have := HK2.out; first | omega | exact Nat.le_refl _⟩, ⟨by (with_reducible repeat (first | apply Kd.R_alloc | apply Kd.R_drewN | apply Kd.R_drew)); exact Kd.R_mono HO_11.out (fun _ hk => hk.1.2)⟩, ⟨by (with_reducible repeat (first | apply Kd.R_alloc | apply Kd.R_drewN | apply Kd.R_drew)); exact Kd.R_mono HO563.out (fun _ hk => hk.2)⟩, ⟨Zu BK514.out⟩, ⟨Zc1 GE514.out⟩⟩
       rw [if_neg c72] at H
       have c72b0 : (t561 == 0) = F := beq_eq_false_iff_ne.mpr c72
       have c72b1 : (t561 != 0) = T := bne_iff_ne.mpr c72
       have H' := Aside0.mk H
       clear H
       go_wp2
       go_meet
       case rel => exact ⟨_, (F), (Zs), H', ⟨by have := HJ2.out; have := HK2.out; first | omega | exact Nat.le_refl _⟩, ⟨by (with_reducible repeat (first | apply Kd.R_alloc | apply Kd.R_drewN | apply Kd.R_drew)); exact Kd.R_mono HO_11.out (fun _ hk => hk.1.2)⟩, ⟨by (with_reducible repeat (first | apply Kd.R_alloc | apply Kd.R_drewN | apply Kd.R_drew)); exact Kd.R_mono HO563.out (fun _ hk => hk.2)⟩, ⟨Zu BK514.out⟩, ⟨Zc1 GE514.out⟩⟩
      case rest =>
       clear HC65
       try clear c1
       try clear c2
       try clear p2
       try clear c3
       try clear c4
       try clear c5
       try clear p5
       try clear q5
       try clear hx5
       try clear p6
       try clear c7
       try clear c10
       try clear c15
       try clear c16
       try clear c17
       try clear c19
       try clear c20
       try clear c26
       try clear c26b0
       try clear c27
       try clear c37
       try clear c37b0
       try clear c37b1
       try clear c39
       try clear c39b0
       try clear c39b1
       try clear c40
       try clear c40b0
       try clear c40b1
       try clear c43
       try clear c50
       try clear c50b0
       try clear c50b1
       try clear c53
       try clear p53
       try clear q53
       try clear hx53
       try clear c54
       try clear c55
       try clear c59
       try clear c59b0
       try clear p64
       try clear c71
       try clear c71b0
       try clear c72
       try clear c72b0
       try clear c72b1
       try clear hcz46_0
       try clear hcz46_1
       try clear hcz46_2
       try clear hcz66_0
       try clear hcz66_1
       try clear hcz66_2
       try clear hfz46_0
       try clear hfz46_1
       try clear hfz46_2
       try clear hfz66_0
       try clear hfz66_1
       try clear hfz66_2
       try clear hx531_0
       try clear hx534_0
       try clear p2
       try clear p5
       try clear p531
       try clear p534
       try clear q5
       try clear q531
       try clear q534
       obtain ⟨kq, x175_64, rfl, HA, HJ64, HO_11, HO_25, BK514, HB⟩ := hcut
       cases kq with
       | zero => exact absurd HA.out (by simp [contangotop_TopSpreads.j4])
       | succ kj64 =>
        have H := HA.out
        clear HA
        simp only [contangotop_TopSpreads.j4] at H
        by_cases c74 : x175_64 = T
        ·subst c74
         have H1 : (none) = some r := by rw [if_pos rfl] at H; exact H
         clear H
         have H := H1
         clear H1
         exact absurd H (by simp)
        replace c74 := Bool.eq_false_iff.mpr c74
        subst c74
        have H1 : (contangotop_TopSpreads.l1 kj64 x11_2 t559 0) = some r := by rw [if_neg (show ¬ (F = T) by decide)] at H; exact H
        clear H
        have H := H1
        clear H1
        have H' := Aside0.mk H
        clear H
        go_wp2
        go_loopg [28] kj64 (fun kq v28 w' => ∃ (x28_4 : Int), v28 = .int .i64 x28_4 ∧ Aside0 (contangotop_TopSpreads.l1 kq x11_2 t559 x28_4 = some r) ∧ Aside0 (kq ≤ kj64) ∧ Aside0 (Kd.R (Kd.int .i64) 3 w' w.heap.size (fun k_ => some k_ ≠ (v562 : Value).ownBlock) (.slice Ao69 x11_2.length co69) x11_2) ∧ Aside0 (Kd.R (Kd.int .i64) 3 w' w.heap.size (fun k_ => some k_ ≠ ((.slice Ao69 x11_2.length co69) : Value).ownBlock) v562 t559) ∧ Aside0 (w'.heap[gb514]? = some (.cells #[(.slice A1_0 l1_0.length c1_0), (.slice A1_1 l1_1.length c1_1), (.slice A1_2 l1_2.length c1_2)] 42 (0, 0))) ∧ Aside0 (Below w.heap.size w w'))
        case atStart => exact ⟨(0), (Zs), H', ⟨Nat.le_refl _⟩, ⟨Zr HO_11.out⟩, ⟨Zr HO_25.out⟩, ⟨Zu BK514.out⟩, ⟨Zc1 GE514.out⟩⟩
        case round =>
         clear H'
         try clear c1
         try clear c2
         try clear p2
         try clear c3
         try clear c4
         try clear c5
         try clear p5
         try clear q5
         try clear hx5
         try clear p6
         try clear c7
         try clear c10
         try clear c15
         try clear c16
         try clear c17
         try clear c19
         try clear c20
         try clear c26
         try clear c26b0
         try clear c27
         try clear c37
         try clear c37b0
         try clear c37b1
         try clear c39
         try clear c39b0
         try clear c39b1
         try clear c40
         try clear c40b0
         try clear c40b1
         try clear c43
         try clear c50
         try clear c50b0
         try clear c50b1
         try clear c53
         try clear p53
         try clear q53
         try clear hx53
         try clear c54
         try clear c55
         try clear c59
         try clear c59b0
         try clear p64
         try clear c71
         try clear c71b0
         try clear c72
         try clear c72b0
         try clear c72b1
         try clear c74
         try clear hcz46_0
         try clear hcz46_1
         try clear hcz46_2
         try clear hcz66_0
         try clear hcz66_1
         try clear hcz66_2
         try clear hfz46_0
         try clear hfz46_1
         try clear hfz46_2
         try clear hfz66_0
         try clear hfz66_1
         try clear hfz66_2
         try clear hx531_0
         try clear hx534_0
         try clear p2
         try clear p5
         try clear p53
         try clear p531
         try clear p534
         try clear p6
         try clear p64
         try clear q5
         try clear q53
         try clear q531
         try clear q534
         obtain ⟨x28_4, rfl, HA, HK4, HO_11, HO_25, BK514, HB⟩ := hrel
         cases gk with
         | zero => exact absurd HA.out (by simp [contangotop_TopSpreads.l1])
         | succ k4 =>
          have H := HA.out
          clear HA
          simp only [contangotop_TopSpreads.l1] at H
          obtain ⟨Ao75, co75, eo75⟩ := Kd.R_slice HO_25.out
          subst eo75
          go_upto_if 179 with (fail)
          by_cases c76 : x28_4 < (t559.length : Int)
          ·rw [if_pos c76] at H
           have c76b0 : decide (x28_4 < (t559.length : Int)) = T := decide_eq_true c76
           clear c76
           (try simp only [c76b0])
           by_cases c77 : 0 ≤ x28_4
           ·rw [if_pos c77] at H
            have c77b0 : decide (0 ≤ x28_4) = T := decide_eq_true c77
            clear c77
            by_cases c78 : (rd t559 x28_4) < 0
            ·rw [if_pos c78] at H
             have c78b0 : decide ((rd t559 x28_4) < 0) = T := decide_eq_true c78
             clear c78
             exact absurd H (by simp)
            rw [if_neg c78] at H
            have c78b0 : decide ((rd t559 x28_4) < 0) = F := decide_eq_false c78
            clear c78
            by_cases c79 : x28_4 < (x11_2.length : Int)
            ·rw [if_pos c79] at H
             have c79b0 : decide (x28_4 < (x11_2.length : Int)) = T := decide_eq_true c79
             clear c79
             try go_wp2
             replace HO_11 := Aside0.mk (Kd.R_drew HO_11.out)
             replace HO_25 := Aside0.mk (Kd.R_drew HO_25.out)
             replace BK514 := Aside0.mk (Qai BK514.out)
             replace HB := Aside0.mk (Qac HB.out)
             have p566 : 0 ≤ (x28_4 : Int) := Ze
             have q566 : x28_4 < (t559.length : Int) := Ze
             obtain ⟨ad566, e566, hx566_0⟩ := Kd.at_int (Kd.R_reads' HO_25.out).2.2 x28_4 p566 q566
             cases e566
             replace p566 := eq_true p566
             replace q566 := eq_true q566
             have p567 : 0 ≤ (x28_4 : Int) := Ze
             have q567 : x28_4 < (t559.length : Int) := Ze
             obtain ⟨ad567, e567, hx567_0⟩ := Kd.at_int (Kd.R_reads' HO_25.out).2.2 x28_4 p567 q567
             obtain rfl : ad566 = ad567 := (by injection e567)
             replace p567 := eq_true p567
             replace q567 := eq_true q567
             have p568 : 0 ≤ (x28_4 : Int) := Ze
             have q568 : x28_4 < (x11_2.length : Int) := Ze
             obtain ⟨ad568, e568, hx568_0⟩ := Kd.at_int (Kd.R_reads' HO_11.out).2.2 x28_4 p568 q568
             cases e568
             replace p568 := eq_true p568
             replace q568 := eq_true q568
             refine start_ (n := 16) (S := fun w' => w'.cell? (ad566.add (x28_4).toNat) = some (.int .i64 (rd t559 x28_4)) ∧ w'.cell? (ad566.add (x28_4).toNat) = some (.int .i64 (rd t559 x28_4)) ∧ w'.cell? (ad568.add (x28_4).toNat) = some (.int .i64 (rd x11_2 x28_4))) (ds := []) #[F, F, F, F, F, F, F, F, F, F, F, F, F, F, F, F] (by kernel_rfl) rfl rfl ⟨hx566_0, hx567_0, hx568_0⟩ (fun hHeld => ?_); refine QaP contangotop_TopSpreads.tab33 contangotop_TopSpreads.bits33 (fun HT_ HW_ => ?_)
             generalize wr.drew = w80 at HO_11 HO_25 BK514 HB hx566_0 hx567_0 hx568_0 hHeld ⊢
             refine Zsp (i := 0) (N := some 182) (pm 16 1) HT_ ?_
             refine Zsp (i := 1) (N := some 183) (pm 16 2) HT_ ?_
             refine Zsp (i := 2) (N := some 184) (pm 16 3) HT_ ?_
             refine Zst (i := 3) (N := some 185) (pm 16 4) HT_ HW_ hHeld ?_ (hy := by (refine Or.inl ⟨by rfl, ?_⟩; rintro w' ⟨s0, s1, s2⟩; go_simp; with_reducible rfl))
             refine Zsp (i := 4) (N := some 186) (pm 16 5) HT_ ?_
             refine Zsp (i := 5) (N := some 187) (pm 16 6) HT_ ?_
             refine Zsp (i := 6) (N := some 188) (pm 16 7) HT_ ?_
             refine Zsp (i := 7) (N := some 189) (pm 16 8) HT_ ?_
             refine Zsp (i := 8) (N := some 190) (pm 16 9) HT_ ?_
             refine Zsp (i := 10) (N := some 192) #[T, T, T, T, T, T, T, T, T, F, T, F, F, F, F, F] HT_ ?_
             refine Zsp (i := 11) (N := some 193) #[T, T, T, T, T, T, T, T, T, F, T, T, F, F, F, F] HT_ ?_
             refine Zsp (i := 12) (N := some 194) #[T, T, T, T, T, T, T, T, T, F, T, T, T, F, F, F] HT_ ?_
             refine Zst (i := 9) (N := some 191) (pm 16 13) HT_ HW_ hHeld ?_ (hy := by (refine Or.inl ⟨by rfl, ?_⟩; rintro w' ⟨s0, s1, s2⟩; go_simp; with_reducible rfl))
             refine Zst (i := 13) (N := some 195) (pm 16 14) HT_ HW_ hHeld ?_ (hy := by (refine Or.inl ⟨by rfl, ?_⟩; rintro w' ⟨s0, s1, s2⟩; go_simp; with_reducible rfl))
             refine Zsp (i := 14) (N := some 196) (pm 16 15) HT_ ?_
             refine Zsp (i := 15) (N := some 197) (pm 16 16) HT_ ?_
             refine done_ (QaX HT_.out (by kernel_rfl)) ?_
             go_upto_if 197 with (fail)
             by_cases c81 : (rd t559 x28_4) > (rd x11_2 x28_4)
             ·rw [if_pos c81] at H
              exact absurd H (by simp)
             rw [if_neg c81] at H
             have c81b0 : decide ((rd x11_2 x28_4) < (rd t559 x28_4)) = F := decide_eq_false c81
             clear c81
             (try simp only [c81b0])
             have H' := Aside0.mk H
             clear H
             go_wp2
             go_roundg k4
             case measure => have := HJ2.out; have := HK2.out; have := HJ64.out; have := HK4.out; omega
             case rel => exact ⟨(wrap64 (x28_4 + 1)), (Zs), H', ⟨by have := HJ2.out; have := HK2.out; have := HJ64.out; have := HK4.out; omega⟩, ⟨Zr HO_11.out⟩, ⟨Zr HO_25.out⟩, ⟨Zu BK514.out⟩, ⟨Zc1 GE514.out⟩⟩
            rw [if_neg c79] at H
            exact absurd H (by simp)
           rw [if_neg c77] at H
           exact absurd H (by simp)
          rw [if_neg c76] at H
          have c76b0 : decide (x28_4 < (t559.length : Int)) = F := decide_eq_false c76
          clear c76
          (try simp only [c76b0])
          replace H := Option.bind_eq_some_iff.mp H
          obtain ⟨t569, A820, H⟩ := H
          replace H : (some t569) = some r := H
          have A82 := Aside0.mk A820
          clear A820
          obtain rfl := Option.some.inj H
          go_wp2_with (first | ((with_reducible refine QaH (f := 10) rfl ?_); refine goesL_ (some 198) rfl rfl Try.func10 (by kernel_rfl) rfl #[] rfl (Zl) ?_; (with_reducible refine (QaA.calls k4  t569 _ A82.out).mono ?_); rintro e w83 ⟨rfl, hb⟩; refine ⟨_, rfl, ?_⟩; replace HO_11 := Aside0.mk (Kd.R_below (Zr HO_11.out) hb); replace HO_25 := Aside0.mk (Kd.R_below (Zr HO_25.out) hb); replace BK514 := Aside0.mk (Zi BK514.out hb); replace HB := Aside0.mk (Qav (Zc1 GE514.out) hb); (try clear hb); (try clear hb2); (try clear hk); (try clear hi)))
          go_ret
          exact ⟨Zq, Zc1 GE514.out⟩
   rw [if_neg c24] at H
   have c24b0 : (t525 == 0) = F := beq_eq_false_iff_ne.mpr c24
   have c24b1 : (t525 != 0) = T := bne_iff_ne.mpr c24
   (try simp only [c24b0, c24b1])
   replace H := Option.bind_eq_some_iff.mp H
   obtain ⟨t526, A840, H⟩ := H
   replace H : (some t526) = some r := H
   have A84 := Aside0.mk A840
   clear A840
   obtain rfl := Option.some.inj H
   go_wp2_with (first | ((with_reducible refine QaH (f := 10) rfl ?_); refine goesL_ (some 66) rfl rfl Try.func10 (by kernel_rfl) rfl #[] rfl (Zl) ?_; (with_reducible refine (QaA.calls kj2  t526 _ A84.out).mono ?_); rintro e w85 ⟨rfl, hb⟩; refine ⟨_, rfl, ?_⟩; replace HO520 := Aside0.mk (Kd.R_below (Zr HO520.out) hb); replace HO522 := Aside0.mk (Kd.S_below (by (with_reducible repeat (first | apply Kd.S_alloc | apply Kd.S_drewN | apply Kd.S_drew)); exact HO522.out) hb); replace BK514 := Aside0.mk (Zi BK514.out hb); replace HB := Aside0.mk (Qav (Zc1 GE514.out) hb); (try clear hb); (try clear hb2); (try clear hk); (try clear hi)))
   go_ret
   exact ⟨Zq, Zc1 GE514.out⟩
end Go.Proofs.Ytgnmhfjfefgbfaa.Pr
