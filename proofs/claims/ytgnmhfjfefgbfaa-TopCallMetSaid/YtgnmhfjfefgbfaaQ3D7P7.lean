/- Functions' values and contracts, as the print wrote them. -/
import Derived.Test.YtgnmhfjfefgbfaaQ3D7P0
import Derived.Test.YtgnmhfjfefgbfaaQ3D7P2
import Derived.Test.YtgnmhfjfefgbfaaQ3D7P4
import Derived.Test.YtgnmhfjfefgbfaaQ3D7P5
import Derived.Test.YtgnmhfjfefgbfaaQ3D7P6
namespace Go.Proofs.Ytgnmhfjfefgbfaa.Pr
open Bool renaming true → T
open Bool renaming false → F
open Go.RowKit Go.Proofs.YtgnmhfjfefgbfaaW.PrintWords Go.Proofs.YtgnmhfjfefgbfaaW.PrintLast Go.Proofs.YtgnmhfjfefgbfaaW.PrintMore
attribute [local go_sem] QaN QaP QaW QaX QaH QaI QaO QaQ   -- for this text's walks alone
set_option linter.unusedVariables false
set_option linter.unusedSimpArgs false
set_option maxRecDepth 100000
set_option maxHeartbeats 8000000
mutual
def Qaw.l1 : Nat → Int → List (S112) → List (S279) → List (S346) → Int → Int → List Int → List Int → Option (List Int × Int)
 | 0, _, _, _, _, _, _, _, _ => none
 | k + 1, x2, x302, x303, x332, x333, x334, x1045000, x1046000 => if x334 < x333 then (if 0 ≤ x334 then (if x334 < (x332.length : Int) then ((Qbb.f k x302 ((Qaj x332 x334).f1)).bind fun bt1059 => ((QaZ.f k bt1059.1 bt1059.2.1 bt1059.2.2.1 bt1059.2.2.2.1 bt1059.2.2.2.2.1 bt1059.2.2.2.2.2.1 ((Qaj x332 x334).f2) x303).bind fun bt1067 => (if bt1067.2 = 0 then ((some (([bt1067.1] : List Int) : List Int)).bind fun y1070 => (if x1045000.length + y1070.length < 17592186044416 then ((some (([bt1059.2.2.2.2.2.1] : List Int) : List Int)).bind fun y1076 => (if x1046000.length + y1076.length < 17592186044416 then (Qaw.l1 k x2 x302 x303 x332 x333 (wrap64 (x334 + 1)) (x1045000 ++ y1070) (x1046000 ++ y1076)) else (none))) else (none))) else (some (([] : List Int), bt1067.2))))) else (none)) else (none)) else (if x2 < 0 then (Qaw.j1 k x2 T x1045000 x1046000) else (Qaw.j1 k x2 (decide (x2 > 1152921504606846976)) x1045000 x1046000))
def Qaw.j1 : Nat → Int → Bool → List Int → List Int → Option (List Int × Int)
 | 0, _, _, _, _ => none
 | k + 1, x2, x30, x1045000, x1046000 => if x30 = T then (some (([] : List Int), 2)) else (Qaw.l0 k x2 (x1045000.length : Int) 0 x1045000 x1046000)
def Qaw.l0 : Nat → Int → Int → Int → List Int → List Int → Option (List Int × Int)
 | 0, _, _, _, _, _ => none
 | k + 1, x2, x32, x33, x1045000, x1046000 => if x33 < x32 then (if 0 ≤ x33 then (if x33 < (x1046000.length : Int) then ((QaU.f x2 (rd x1046000 x33) 1000 3).bind fun bt1053 => (if bt1053.2 = 0 then (if x33 < (x1045000.length : Int) then (Qaw.l0 k x2 x32 (wrap64 (x33 + 1)) (x1045000.set (x33 : Int).toNat (mn (rd x1045000 x33) bt1053.1)) x1046000) else (none)) else (some (([] : List Int), bt1053.2)))) else (none)) else (none)) else (some (x1045000, 0))
end
def Qaw.f (k : Nat) (l0 : List (S346)) (a1_0 : ByteArray) (a1_1 : ByteArray) (a2 : Int) (l3 : List (S112)) (l4 : List (S279)) : Option (List Int × Int) := (QaS.f k l0 a1_0 a1_1 l3 l4).bind fun bt1047 => (if bt1047.2 = 0 then ((Qa5.f k l0 a1_0 a1_1).bind fun t1049 => (Qaw.l1 k a2 l3 l4 t1049 (t1049.length : Int) 0 ([] : List Int) ([] : List Int))) else (some (([] : List Int), bt1047.2)))
theorem Qaw.mono_l : ∀ k, (∀ y0 y1 y2 y3 y4 y5 y6 y7, LeO (Qaw.l1 k y0 y1 y2 y3 y4 y5 y6 y7) (Qaw.l1 (k + 1) y0 y1 y2 y3 y4 y5 y6 y7)) ∧ (∀ y0 y1 y2 y3, LeO (Qaw.j1 k y0 y1 y2 y3) (Qaw.j1 (k + 1) y0 y1 y2 y3)) ∧ (∀ y0 y1 y2 y3 y4, LeO (Qaw.l0 k y0 y1 y2 y3 y4) (Qaw.l0 (k + 1) y0 y1 y2 y3 y4))
 | 0 => ⟨fun _ _ _ _ _ _ _ _ r h => by simp [Qaw.l1] at h, fun _ _ _ _ r h => by simp [Qaw.j1] at h, fun _ _ _ _ _ r h => by simp [Qaw.l0] at h⟩
 | k + 1 => by
  obtain ⟨ih0, ih1, ih2⟩ := Qaw.mono_l k
  refine ⟨?_, ?_, ?_⟩
  ·intro y0 y1 y2 y3 y4 y5 y6 y7
   unfold Qaw.l1
   exact ZM7 ih0 ih1 ih2 Qbb.mono QaZ.mono Qa5.mono QaS.mono
  ·intro y0 y1 y2 y3
   unfold Qaw.j1
   exact ZM7 ih0 ih1 ih2 Qbb.mono QaZ.mono Qa5.mono QaS.mono
  intro y0 y1 y2 y3 y4
  unfold Qaw.l0
  exact ZM7 ih0 ih1 ih2 Qbb.mono QaZ.mono Qa5.mono QaS.mono
theorem Qaw.mono : ∀ a0 a1 a2 a3 a4 a5 k, LeO (Qaw.f k a0 a1 a2 a3 a4 a5) (Qaw.f (k + 1) a0 a1 a2 a3 a4 a5) := by
 intro a0 a1 a2 a3 a4 a5 k
 obtain ⟨ih0, ih1, ih2⟩ := Qaw.mono_l k
 unfold Qaw.f
 exact ZM7 ih0 ih1 ih2 Qbb.mono QaZ.mono Qa5.mono QaS.mono
def Qaw.T13 : Bool × List (List Nat × List Nat) := (T, [([], []), ([], []), ([], []), ([], []), ([2, 3], [2, 3]), ([4], [4]), ([], []), ([5, 6], [5, 6]), ([0, 1, 0, 1, 2, 3, 4, 5, 6, 7], [0, 1]), ([8, 7, 0, 1, 2, 3, 4, 5, 6, 7], [7, 8])])
def Qaw.B13 : List Nat := [0, 0, 0, 0, 12, 28, 0, 124, 255, 511]
theorem Qaw.tab13 : rtab .any (opsOf Try.f217 13) = Qaw.T13 := by kernel_rfl
theorem Qaw.bits13 : Qcc Qaw.T13.2 Qaw.B13 = T := by kernel_rfl
theorem Qaw.calls (k : Nat) (A0 : Option Addr) (c0 : Nat) (l0 : List (S346)) (a1_0 : ByteArray) (a1_1 : ByteArray) (a2 : Int) (A3 : Option Addr) (c3 : Nat) (l3 : List (S112)) (A4 : Option Addr) (c4 : Nat) (l4 : List (S279)) (r1 : List Int) (r2 : Int) (w : World) (hr0 : Kd.C k346 w A0 l0.length l0) (hc0 : l0.length ≤ c0) (hr3 : Kd.C k112 w A3 l3.length l3) (hc3 : l3.length ≤ c3) (hr4 : Kd.C k279 w A4 l4.length l4) (hc4 : l4.length ≤ c4) (h : Qaw.f k l0 a1_0 a1_1 a2 l3 l4 = some (r1, r2)) :
  Calls Try.prog 217 #[.slice A0 l0.length c0, .agg #[.string a1_0, .string a1_1], .int .i64 a2, .slice A3 l3.length c3, .slice A4 l4.length c4] w fun e w' => ∃ v0_ : Value, e = .returned (.tuple #[v0_, .int .i64 r2]) ∧ Kd.R (Kd.int .i64) 3 w' w.heap.size (fun _ => True) v0_ r1 ∧ Below w.heap.size w w' := by
 have hu81 := Try.underlying81
 have HR0 := Aside0.mk hr0
 have HC0 := Aside0.mk hc0
 clear hr0 hc0
 have HR3 := Aside0.mk hr3
 have HC3 := Aside0.mk hc3
 clear hr3 hc3
 have HR4 := Aside0.mk hr4
 have HC4 := Aside0.mk hc4
 clear hr4 hc4
 have HB := Aside0.mk (Below.refl w.heap.size w)
 have H : ((QaS.f k l0 a1_0 a1_1 l3 l4).bind fun bt1047 => (if bt1047.2 = 0 then ((Qa5.f k l0 a1_0 a1_1).bind fun t1049 => (Qaw.l1 k a2 l3 l4 t1049 (t1049.length : Int) 0 ([] : List Int) ([] : List Int))) else (some (([] : List Int), bt1047.2)))) = some (r1, r2) := h
 clear h
 replace H := Option.bind_eq_some_iff.mp H
 obtain ⟨⟨t1047, t1048⟩, A60, H⟩ := H
 replace H : (if t1048 = 0 then ((Qa5.f k l0 a1_0 a1_1).bind fun t1049 => (Qaw.l1 k a2 l3 l4 t1049 (t1049.length : Int) 0 ([] : List Int) ([] : List Int))) else (some (([] : List Int), t1048))) = some (r1, r2) := H
 have A6 := Aside0.mk A60
 clear A60
 go_enter Try.func217, Try.ntmps217
 go_upto_if 28 with (first | ((with_reducible refine QaT (N := 6) rfl ?_); (refine gate_n (n := 59) rfl ?_); refine Zbx (N := 6) (cs := #[.string a1_0, .string a1_1]) (t := 81) ?_; intro gb1043 hg w7 hbox hb; have BK1043 := Aside0.mk (hbox); have GW1043 := Aside0.mk (Zt w hg (Zb)); have GE1043 := GW1043; replace HB := Aside0.mk (Qap (Zb) hb); clear hb hbox hg) | ((with_reducible refine QaT (N := 10) rfl ?_); (refine gate_n (n := 59) rfl ?_); refine Zbx (N := 10) (cs := #[.slice none 0 0]) (t := 32) ?_; intro gb1044 hg w8 hbox hb; have BK1044 := Aside0.mk (hbox); have GW1044 := Aside0.mk (Zt w hg (Zc1 GE1043.out)); have GE1044 := GW1044; have NB1043_1044 := Aside0.mk (Zn hg BK1043.out); have NB1044_1043 := Aside0.mk NB1043_1044.out.symm; replace BK1043 := Aside0.mk (Zi BK1043.out hb); replace HB := Aside0.mk (Qap (Zc1 GE1043.out) hb); clear hb hbox hg) | ((with_reducible refine QaT (N := 12) rfl ?_); (refine gate_n (n := 59) rfl ?_); refine Zbx (N := 12) (cs := #[.slice none 0 0]) (t := 32) ?_; intro gb1045 hg w9 hbox hb; have BK1045 := Aside0.mk (hbox); have GW1045 := Aside0.mk (Zt w hg (Zc2 GE1043.out GE1044.out)); have GE1045 := GW1045; have NB1043_1045 := Aside0.mk (Zn hg BK1043.out); have NB1045_1043 := Aside0.mk NB1043_1045.out.symm; have NB1044_1045 := Aside0.mk (Zn hg BK1044.out); have NB1045_1044 := Aside0.mk NB1044_1045.out.symm; replace BK1043 := Aside0.mk (Zi BK1043.out hb); replace BK1044 := Aside0.mk (Zi BK1044.out hb); replace HB := Aside0.mk (Qap (Zc2 GE1043.out GE1044.out) hb); clear hb hbox hg; have hnb10 := NB1043_1044.out; have hnc10 := NB1044_1043.out; have hnb11 := NB1043_1045.out; have hnc11 := NB1045_1043.out; obtain ⟨hcz12_0, hfz12_0⟩ := Zy (v := (.string a1_0)) BK1043.out 0; obtain ⟨hcz12_1, hfz12_1⟩ := Zy (v := (.string a1_1)) BK1043.out 1) | (go_at_call 244; go_in) | ((with_reducible refine QaT (N := 6) rfl ?_); (refine gate_n (n := 61) rfl ?_); refine Zbx (N := 6) (cs := #[.string a1_0, .string a1_1]) (t := 81) ?_; intro gb1046 hg w13 hbox hb; have BK1046 := Aside0.mk (hbox); have GW1046 := Aside0.mk (Zt w hg (Zc3 GE1043.out GE1044.out GE1045.out)); have GE1046 := GW1046; have NB1043_1046 := Aside0.mk (Zn hg BK1043.out); have NB1046_1043 := Aside0.mk NB1043_1046.out.symm; have NB1044_1046 := Aside0.mk (Zn hg BK1044.out); have NB1046_1044 := Aside0.mk NB1044_1046.out.symm; have NB1045_1046 := Aside0.mk (Zn hg BK1045.out); have NB1046_1045 := Aside0.mk NB1045_1046.out.symm; replace BK1043 := Aside0.mk (Zi BK1043.out hb); replace BK1044 := Aside0.mk (Zi BK1044.out hb); replace BK1045 := Aside0.mk (Zi BK1045.out hb); replace HB := Aside0.mk (Qap (Zc3 GE1043.out GE1044.out GE1045.out) hb); clear hb hbox hg; have hnb14 := NB1046_1043.out; have hnc14 := NB1043_1046.out; have hnb15 := NB1046_1044.out; have hnc15 := NB1044_1046.out; have hnb16 := NB1046_1045.out; have hnc16 := NB1045_1046.out; obtain ⟨hcz17_0, hfz17_0⟩ := Zy (v := (.string a1_0)) BK1046.out 0; obtain ⟨hcz17_1, hfz17_1⟩ := Zy (v := (.string a1_1)) BK1046.out 1) | ((with_reducible refine Qay (f := 262) rfl ?_); refine goesL_ (some 24) rfl rfl Try.func262 (by kernel_rfl) rfl #[.slice A0 l0.length c0, .agg #[.string a1_0, .string a1_1], .slice A3 l3.length c3, .slice A4 l4.length c4] rfl (Zl) ?_; (with_reducible refine (QaS.calls k _ _ l0 a1_0 a1_1 _ _ l3 _ _ l4 t1047 t1048 _ ?side1 ?side2 ?side3 ?side4 ?side5 ?side6 A6.out).mono ?_); (case side1 => exact Zv (Kd.C_below HR0.out HB.out)); (case side2 => exact HC0.out); (case side3 => exact Zv (Kd.C_below HR3.out HB.out)); (case side4 => exact HC3.out); (case side5 => exact Zv (Kd.C_below HR4.out HB.out)); (case side6 => exact HC4.out); rintro e w18 ⟨rfl, hb⟩; refine ⟨_, rfl, ?_⟩; replace BK1043 := Aside0.mk (Zi BK1043.out hb); replace BK1044 := Aside0.mk (Zi BK1044.out hb); replace BK1045 := Aside0.mk (Zi BK1045.out hb); replace BK1046 := Aside0.mk (Zi BK1046.out hb); replace HB := Aside0.mk (Qap (Zc4 GE1043.out GE1044.out GE1045.out GE1046.out) hb); (try clear hb); (try clear hb2); (try clear hk); (try clear hi)))
 (try simp only [Act.put, Zj, Zk, Zm])
 by_cases c19 : t1048 = 0
 ·rw [if_pos c19] at H
  have c19b0 : (t1048 == 0) = T := beq_iff_eq.mpr c19
  have c19b1 : (t1048 != 0) = F := bne_eq_false_iff_eq.mpr c19
  clear c19
  (try simp only [c19b0, c19b1])
  replace H := Option.bind_eq_some_iff.mp H
  obtain ⟨t1049, A200, H⟩ := H
  replace H : (Qaw.l1 k a2 l3 l4 t1049 (t1049.length : Int) 0 ([] : List Int) ([] : List Int)) = some (r1, r2) := H
  have A20 := Aside0.mk A200
  clear A200
  have H' := Aside0.mk H
  clear H
  have hnb21 := NB1046_1043.out
  have hnc21 := NB1043_1046.out
  have hnb22 := NB1046_1044.out
  have hnc22 := NB1044_1046.out
  have hnb23 := NB1046_1045.out
  have hnc23 := NB1045_1046.out
  obtain ⟨hcz24_0, hfz24_0⟩ := Zy (v := (.string a1_0)) BK1046.out 0
  obtain ⟨hcz24_1, hfz24_1⟩ := Zy (v := (.string a1_1)) BK1046.out 1
  go_wp2_with (first | ((with_reducible refine Qay (f := 263) rfl ?_); refine goesL_ (some 32) rfl rfl Try.func263 (by kernel_rfl) rfl #[.slice A0 l0.length c0, .agg #[.string a1_0, .string a1_1]] rfl (Zl) ?_; (with_reducible refine (Qa5.calls k _ _ l0 a1_0 a1_1 t1049 _ ?side1 ?side2 A20.out).mono ?_); (case side1 => exact Zv (Kd.C_below HR0.out HB.out)); (case side2 => exact HC0.out); rintro e w25 ⟨v1050, rfl, ho0, hb⟩; refine ⟨_, rfl, ?_⟩; have HO1051 := Aside0.mk (Kd.R_lower ho0 (Qar (Zc4 GE1043.out GE1044.out GE1045.out GE1046.out))); replace BK1043 := Aside0.mk (Zi BK1043.out hb); replace BK1044 := Aside0.mk (Zi BK1044.out hb); replace BK1045 := Aside0.mk (Zi BK1045.out hb); replace BK1046 := Aside0.mk (Zi BK1046.out hb); replace HB := Aside0.mk (Qap (Zc4 GE1043.out GE1044.out GE1045.out GE1046.out) hb); (try clear hb); (try clear hb2); (try clear hk); (try clear hi); (try clear ho0); obtain ⟨Ao26, co26, eo26⟩ := Kd.R_slice HO1051.out; subst eo26))
  go_loopg [34] k (fun kq v334 w' => ∃ (x334_1 : Int) (x1045000_1 : List Int) (x1046000_1 : List Int) (u1045000 : Value) (u1046000 : Value), v334 = .int .i64 x334_1 ∧ Aside0 (Qaw.l1 kq a2 l3 l4 t1049 (t1049.length : Int) x334_1 x1045000_1 x1046000_1 = some (r1, r2)) ∧ Aside0 (kq ≤ k) ∧ Aside0 (Kd.R k346 346 w' w.heap.size (fun _ => True) (.slice Ao26 t1049.length co26) t1049) ∧ Aside0 (Kd.R (Kd.int .i64) 3 w' w.heap.size (fun k_ => some k_ ≠ (u1046000 : Value).ownBlock) u1045000 x1045000_1) ∧ Aside0 (Kd.R (Kd.int .i64) 3 w' w.heap.size (fun k_ => some k_ ≠ (u1045000 : Value).ownBlock) u1046000 x1046000_1) ∧ Aside0 (w'.heap[gb1043]? = some (.cells #[.string a1_0, .string a1_1] 81 (0, 0))) ∧ Aside0 (w'.heap[gb1044]? = some (.cells #[u1045000] 32 (0, 0))) ∧ Aside0 (w'.heap[gb1045]? = some (.cells #[u1046000] 32 (0, 0))) ∧ Aside0 (w'.heap[gb1046]? = some (.cells #[.string a1_0, .string a1_1] 81 (0, 0))) ∧ Aside0 (Below w.heap.size w w'))
  case atStart => exact ⟨(0), (([] : List Int)), (([] : List Int)), (.slice none 0 0), (.slice none 0 0), (Zs), H', ⟨Nat.le_refl _⟩, ⟨Zr HO1051.out⟩, ⟨by first | exact Kd.R_nil _ _ _ _ _ | exact Kd.N_nil _ _ _ _ _ | exact Kd.V_nil _ _ _ _ _ | exact Kd.Q_nil _ _ _ _ _ | exact Kd.S_nil _ _ _ _ _⟩, ⟨by first | exact Kd.R_nil _ _ _ _ _ | exact Kd.N_nil _ _ _ _ _ | exact Kd.V_nil _ _ _ _ _ | exact Kd.Q_nil _ _ _ _ _ | exact Kd.S_nil _ _ _ _ _⟩, ⟨Zu BK1043.out⟩, ⟨Zu BK1044.out⟩, ⟨Zu BK1045.out⟩, ⟨Zu BK1046.out⟩, ⟨Zc4 GE1043.out GE1044.out GE1045.out GE1046.out⟩⟩
  case round =>
   clear H'
   try clear c1
   try clear c2
   try clear p2
   try clear c3
   try clear c4
   try clear c10
   try clear c11
   try clear c14
   try clear c15
   try clear c16
   try clear c19
   try clear c19b0
   try clear c19b1
   try clear c21
   try clear c22
   try clear c23
   try clear c26
   try clear hcz12_0
   try clear hcz12_1
   try clear hcz17_0
   try clear hcz17_1
   try clear hcz24_0
   try clear hcz24_1
   try clear hfz12_0
   try clear hfz12_1
   try clear hfz17_0
   try clear hfz17_1
   try clear hfz24_0
   try clear hfz24_1
   obtain ⟨x334_1, x1045000_1, x1046000_1, u1045000, u1046000, rfl, HA, HK1, HO_332, HO_1045000, HO_1046000, BK1043, BK1044, BK1045, BK1046, HB⟩ := hrel
   cases gk with
   | zero => exact absurd HA.out (by simp [Qaw.l1])
   | succ k1 =>
    have H := HA.out
    clear HA
    simp only [Qaw.l1] at H
    by_cases c27 : x334_1 < (t1049.length : Int)
    ·rw [if_pos c27] at H
     have c27b0 : decide (x334_1 < (t1049.length : Int)) = T := decide_eq_true c27
     clear c27
     (try simp only [c27b0])
     by_cases c28 : 0 ≤ x334_1
     ·rw [if_pos c28] at H
      have c28b0 : decide (0 ≤ x334_1) = T := decide_eq_true c28
      clear c28
      by_cases c29 : x334_1 < (t1049.length : Int)
      ·rw [if_pos c29] at H
       have c29b0 : decide (x334_1 < (t1049.length : Int)) = T := decide_eq_true c29
       clear c29
       replace H := Option.bind_eq_some_iff.mp H
       obtain ⟨⟨t1059, t1060, t1061, t1062, t1063, t1064, t1065⟩, A300, H⟩ := H
       replace H : ((QaZ.f k1 t1059 t1060 t1061 t1062 t1063 t1064 ((Qaj t1049 x334_1).f2) l4).bind fun bt1067 => (if bt1067.2 = 0 then ((some (([bt1067.1] : List Int) : List Int)).bind fun y1070 => (if x1045000_1.length + y1070.length < 17592186044416 then ((some (([t1064] : List Int) : List Int)).bind fun y1076 => (if x1046000_1.length + y1076.length < 17592186044416 then (Qaw.l1 k1 a2 l3 l4 t1049 (t1049.length : Int) (wrap64 (x334_1 + 1)) (x1045000_1 ++ y1070) (x1046000_1 ++ y1076)) else (none))) else (none))) else (some (([] : List Int), bt1067.2)))) = some (r1, r2) := H
       have A30 := Aside0.mk A300
       clear A300
       replace H := Option.bind_eq_some_iff.mp H
       obtain ⟨⟨t1067, t1068⟩, A310, H⟩ := H
       replace H : (if t1068 = 0 then ((some (([t1067] : List Int) : List Int)).bind fun y1070 => (if x1045000_1.length + y1070.length < 17592186044416 then ((some (([t1064] : List Int) : List Int)).bind fun y1076 => (if x1046000_1.length + y1076.length < 17592186044416 then (Qaw.l1 k1 a2 l3 l4 t1049 (t1049.length : Int) (wrap64 (x334_1 + 1)) (x1045000_1 ++ y1070) (x1046000_1 ++ y1076)) else (none))) else (none))) else (some (([] : List Int), t1068))) = some (r1, r2) := H
       have A31 := Aside0.mk A310
       clear A310
       have p1057 : 0 ≤ (x334_1 : Int) := Ze
       have q1057 : x334_1 < (t1049.length : Int) := Ze
       obtain ⟨ad1057, e1057, hx1057_0, hx1057_1, hx1057_2, hx1057_3⟩ := QcK (Kd.R_reads' HO_332.out).2.2 x334_1 p1057 q1057
       cases e1057
       replace p1057 := eq_true p1057
       replace q1057 := eq_true q1057
       go_upto_if 54 with (first | ((with_reducible refine QaT (N := 14) rfl ?_); (refine gate_n (n := 61) rfl ?_); refine Zbx (N := 14) (cs := #[.string (⟨#[]⟩ : ByteArray), .string (⟨#[]⟩ : ByteArray), .string (⟨#[]⟩ : ByteArray), .int .i64 0]) (t := 346) ?_; intro gb1058 hg w32 hbox hb; have BK1058 := Aside0.mk (hbox); have GW1058 := Aside0.mk (Zt w hg (Zc4 GE1043.out GE1044.out GE1045.out GE1046.out)); have GE1058 := GW1058; have NB1043_1058 := Aside0.mk (Zn hg BK1043.out); have NB1058_1043 := Aside0.mk NB1043_1058.out.symm; have NB1044_1058 := Aside0.mk (Zn hg BK1044.out); have NB1058_1044 := Aside0.mk NB1044_1058.out.symm; have NB1045_1058 := Aside0.mk (Zn hg BK1045.out); have NB1058_1045 := Aside0.mk NB1045_1058.out.symm; have NB1046_1058 := Aside0.mk (Zn hg BK1046.out); have NB1058_1046 := Aside0.mk NB1046_1058.out.symm; replace HO_332 := Aside0.mk (Kd.R_below (Kd.R_elderB (Zr HO_332.out) gb1058 (Nat.le_of_eq hg.symm)) hb); replace HO_1045000 := Aside0.mk (Kd.R_below (Zr HO_1045000.out) hb); replace HO_1046000 := Aside0.mk (Kd.R_below (Zr HO_1046000.out) hb); replace BK1043 := Aside0.mk (Zi BK1043.out hb); replace BK1044 := Aside0.mk (Zi BK1044.out hb); replace BK1045 := Aside0.mk (Zi BK1045.out hb); replace BK1046 := Aside0.mk (Zi BK1046.out hb); replace HB := Aside0.mk (Qap (Zc4 GE1043.out GE1044.out GE1045.out GE1046.out) hb); clear hb hbox hg; have hnb33 := NB1058_1043.out; have hnc33 := NB1043_1058.out; have hnb34 := NB1058_1044.out; have hnc34 := NB1044_1058.out; have hnb35 := NB1058_1045.out; have hnc35 := NB1045_1058.out; have hnb36 := NB1058_1046.out; have hnc36 := NB1046_1058.out; obtain ⟨hcz37_0, hfz37_0⟩ := Zy (v := (.string (⟨#[]⟩ : ByteArray))) BK1058.out 0; obtain ⟨hcz37_1, hfz37_1⟩ := Zy (v := (.string (⟨#[]⟩ : ByteArray))) BK1058.out 1; obtain ⟨hcz37_2, hfz37_2⟩ := Zy (v := (.string (⟨#[]⟩ : ByteArray))) BK1058.out 2; obtain ⟨hcz37_3, hfz37_3⟩ := Zy (v := (.int .i64 0)) BK1058.out 3) | ((with_reducible refine Qay (f := 41) rfl ?_); refine goesL_ (some 42) rfl rfl Try.func41 (by kernel_rfl) rfl #[.slice A3 l3.length c3, .string ((Qaj t1049 x334_1).f1)] rfl (Zl) ?_; (with_reducible refine (Qbb.calls k1 _ _ l3 ((Qaj t1049 x334_1).f1) t1059 t1060 t1061 t1062 t1063 t1064 t1065 _ ?side1 ?side2 A30.out).mono ?_); (case side1 => exact Kd.C_below HR3.out (Zc5 GE1043.out GE1044.out GE1045.out GE1046.out GE1058.out)); (case side2 => exact HC3.out); rintro e w38 ⟨rfl, hb⟩; refine ⟨_, rfl, ?_⟩; replace HO_332 := Aside0.mk (Kd.R_below (by (with_reducible repeat (first | apply Kd.R_alloc | apply Kd.R_drewN | apply Kd.R_drew)); exact (Kd.R_mono (Kd.R_far (p := ⟨gb1058, 3, none⟩) (Kd.R_far (p := ⟨gb1058, 2, none⟩) (Kd.R_far (p := ⟨gb1058, 1, none⟩) (Kd.R_far (p := ⟨gb1058, 0, none⟩) (Kd.R_mono HO_332.out (fun k_ hk => (⟨hk, hk.2⟩ : _ ∧ k_ ≠ gb1058))) (fun _ hk => hk.2) (.string ((Qaj t1049 x334_1).f0.f0))) (fun _ hk => hk.2) (.string ((Qaj t1049 x334_1).f0.f1))) (fun _ hk => hk.2) (.string ((Qaj t1049 x334_1).f1))) (fun _ hk => hk.2) (.int .i64 ((Qaj t1049 x334_1).f2))) (fun _ h_ => h_.1))) hb); replace HO_1045000 := Aside0.mk (Kd.R_below (by (with_reducible repeat (first | apply Kd.R_alloc | apply Kd.R_drewN | apply Kd.R_drew)); exact (Kd.R_mono (Kd.R_far (p := ⟨gb1058, 3, none⟩) (Kd.R_far (p := ⟨gb1058, 2, none⟩) (Kd.R_far (p := ⟨gb1058, 1, none⟩) (Kd.R_far (p := ⟨gb1058, 0, none⟩) (Kd.R_types HO_1045000.out BK1058.out (by decide)) (fun _ hk => hk.2) (.string ((Qaj t1049 x334_1).f0.f0))) (fun _ hk => hk.2) (.string ((Qaj t1049 x334_1).f0.f1))) (fun _ hk => hk.2) (.string ((Qaj t1049 x334_1).f1))) (fun _ hk => hk.2) (.int .i64 ((Qaj t1049 x334_1).f2))) (fun _ h_ => h_.1))) hb); replace HO_1046000 := Aside0.mk (Kd.R_below (by (with_reducible repeat (first | apply Kd.R_alloc | apply Kd.R_drewN | apply Kd.R_drew)); exact (Kd.R_mono (Kd.R_far (p := ⟨gb1058, 3, none⟩) (Kd.R_far (p := ⟨gb1058, 2, none⟩) (Kd.R_far (p := ⟨gb1058, 1, none⟩) (Kd.R_far (p := ⟨gb1058, 0, none⟩) (Kd.R_types HO_1046000.out BK1058.out (by decide)) (fun _ hk => hk.2) (.string ((Qaj t1049 x334_1).f0.f0))) (fun _ hk => hk.2) (.string ((Qaj t1049 x334_1).f0.f1))) (fun _ hk => hk.2) (.string ((Qaj t1049 x334_1).f1))) (fun _ hk => hk.2) (.int .i64 ((Qaj t1049 x334_1).f2))) (fun _ h_ => h_.1))) hb); replace BK1043 := Aside0.mk (Qam (g := gb1043) (o := .cells #[.string a1_0, .string a1_1] 81 (0, 0)) (Zg4 BK1043.out NB1043_1058.out NB1043_1058.out NB1043_1058.out NB1043_1058.out) hb); replace BK1044 := Aside0.mk (Qam (g := gb1044) (o := .cells #[u1045000] 32 (0, 0)) (Zg4 BK1044.out NB1044_1058.out NB1044_1058.out NB1044_1058.out NB1044_1058.out) hb); replace BK1045 := Aside0.mk (Qam (g := gb1045) (o := .cells #[u1046000] 32 (0, 0)) (Zg4 BK1045.out NB1045_1058.out NB1045_1058.out NB1045_1058.out NB1045_1058.out) hb); replace BK1046 := Aside0.mk (Qam (g := gb1046) (o := .cells #[.string a1_0, .string a1_1] 81 (0, 0)) (Zg4 BK1046.out NB1046_1058.out NB1046_1058.out NB1046_1058.out NB1046_1058.out) hb); replace BK1058 := Aside0.mk (Zpi #[.string ((Qaj t1049 x334_1).f0.f0), .string ((Qaj t1049 x334_1).f0.f1), .string ((Qaj t1049 x334_1).f1), .int .i64 ((Qaj t1049 x334_1).f2)] BK1058.out hb); replace HB := Aside0.mk (Qap (Zc5 GE1043.out GE1044.out GE1045.out GE1046.out GE1058.out) hb); (try clear hb); (try clear hb2); (try clear hk); (try clear hi)) | ((with_reducible refine QaT (N := 15) rfl ?_); (refine gate_n (n := 61) rfl ?_); refine Zbx (N := 15) (cs := #[.string (⟨#[]⟩ : ByteArray), .int .i64 0, .int .i64 0, .int .i64 0, .int .i64 0, .int .i64 0]) (t := 112) ?_; intro gb1066 hg w39 hbox hb; have BK1066 := Aside0.mk (hbox); have GW1066 := Aside0.mk (Zt w hg (Zc5 GE1043.out GE1044.out GE1045.out GE1046.out GE1058.out)); have GE1066 := GW1066; have NB1043_1066 := Aside0.mk (Zn hg BK1043.out); have NB1066_1043 := Aside0.mk NB1043_1066.out.symm; have NB1044_1066 := Aside0.mk (Zn hg BK1044.out); have NB1066_1044 := Aside0.mk NB1044_1066.out.symm; have NB1045_1066 := Aside0.mk (Zn hg BK1045.out); have NB1066_1045 := Aside0.mk NB1045_1066.out.symm; have NB1046_1066 := Aside0.mk (Zn hg BK1046.out); have NB1066_1046 := Aside0.mk NB1046_1066.out.symm; have NB1058_1066 := Aside0.mk (Zn hg BK1058.out); have NB1066_1058 := Aside0.mk NB1058_1066.out.symm; replace HO_332 := Aside0.mk (Kd.R_below (Zr HO_332.out) hb); replace HO_1045000 := Aside0.mk (Kd.R_below (Zr HO_1045000.out) hb); replace HO_1046000 := Aside0.mk (Kd.R_below (Zr HO_1046000.out) hb); replace BK1043 := Aside0.mk (Zi BK1043.out hb); replace BK1044 := Aside0.mk (Zi BK1044.out hb); replace BK1045 := Aside0.mk (Zi BK1045.out hb); replace BK1046 := Aside0.mk (Zi BK1046.out hb); replace BK1058 := Aside0.mk (Zi BK1058.out hb); replace HB := Aside0.mk (Qap (Zc5 GE1043.out GE1044.out GE1045.out GE1046.out GE1058.out) hb); clear hb hbox hg; have hnb40 := NB1066_1043.out; have hnc40 := NB1043_1066.out; have hnb41 := NB1066_1044.out; have hnc41 := NB1044_1066.out; have hnb42 := NB1066_1045.out; have hnc42 := NB1045_1066.out; have hnb43 := NB1066_1046.out; have hnc43 := NB1046_1066.out; have hnb44 := NB1066_1058.out; have hnc44 := NB1058_1066.out; obtain ⟨hcz45_0, hfz45_0⟩ := Zy (v := (.string (⟨#[]⟩ : ByteArray))) BK1066.out 0; obtain ⟨hcz45_1, hfz45_1⟩ := Zy (v := (.int .i64 0)) BK1066.out 1; obtain ⟨hcz45_2, hfz45_2⟩ := Zy (v := (.int .i64 0)) BK1066.out 2; obtain ⟨hcz45_3, hfz45_3⟩ := Zy (v := (.int .i64 0)) BK1066.out 3; obtain ⟨hcz45_4, hfz45_4⟩ := Zy (v := (.int .i64 0)) BK1066.out 4; obtain ⟨hcz45_5, hfz45_5⟩ := Zy (v := (.int .i64 0)) BK1066.out 5; obtain ⟨hcz46_0, hfz46_0⟩ := Zy (v := (.string ((Qaj t1049 x334_1).f0.f0))) BK1058.out 0; obtain ⟨hcz46_1, hfz46_1⟩ := Zy (v := (.string ((Qaj t1049 x334_1).f0.f1))) BK1058.out 1; obtain ⟨hcz46_2, hfz46_2⟩ := Zy (v := (.string ((Qaj t1049 x334_1).f1))) BK1058.out 2; obtain ⟨hcz46_3, hfz46_3⟩ := Zy (v := (.int .i64 ((Qaj t1049 x334_1).f2))) BK1058.out 3) | ((with_reducible refine Qay (f := 44) rfl ?_); refine goesL_ (some 50) rfl rfl Try.func44 (by kernel_rfl) rfl #[.agg #[.string t1059, .int .i64 t1060, .int .i64 t1061, .int .i64 t1062, .int .i64 t1063, .int .i64 t1064], .int .i64 ((Qaj t1049 x334_1).f2), .slice A4 l4.length c4] rfl (Zl) ?_; (with_reducible refine (QaZ.calls k1 t1059 t1060 t1061 t1062 t1063 t1064 ((Qaj t1049 x334_1).f2) _ _ l4 t1067 t1068 _ ?side1 ?side2 A31.out).mono ?_); (case side1 => exact Kd.C_below HR4.out (Zc6 GE1043.out GE1044.out GE1045.out GE1046.out GE1058.out GE1066.out)); (case side2 => exact HC4.out); rintro e w47 ⟨rfl, hb⟩; refine ⟨_, rfl, ?_⟩; replace HO_332 := Aside0.mk (Kd.R_below (by (with_reducible repeat (first | apply Kd.R_alloc | apply Kd.R_drewN | apply Kd.R_drew)); exact (Kd.R_mono (Kd.R_far (p := ⟨gb1066, 5, none⟩) (Kd.R_far (p := ⟨gb1066, 4, none⟩) (Kd.R_far (p := ⟨gb1066, 3, none⟩) (Kd.R_far (p := ⟨gb1066, 2, none⟩) (Kd.R_far (p := ⟨gb1066, 1, none⟩) (Kd.R_far (p := ⟨gb1066, 0, none⟩) (Kd.R_types HO_332.out BK1066.out (by decide)) (fun _ hk => hk.2) (.string t1059)) (fun _ hk => hk.2) (.int .i64 t1060)) (fun _ hk => hk.2) (.int .i64 t1061)) (fun _ hk => hk.2) (.int .i64 t1062)) (fun _ hk => hk.2) (.int .i64 t1063)) (fun _ hk => hk.2) (.int .i64 t1064)) (fun _ h_ => h_.1))) hb); replace HO_1045000 := Aside0.mk (Kd.R_below (by (with_reducible repeat (first | apply Kd.R_alloc | apply Kd.R_drewN | apply Kd.R_drew)); exact (Kd.R_mono (Kd.R_far (p := ⟨gb1066, 5, none⟩) (Kd.R_far (p := ⟨gb1066, 4, none⟩) (Kd.R_far (p := ⟨gb1066, 3, none⟩) (Kd.R_far (p := ⟨gb1066, 2, none⟩) (Kd.R_far (p := ⟨gb1066, 1, none⟩) (Kd.R_far (p := ⟨gb1066, 0, none⟩) (Kd.R_types HO_1045000.out BK1066.out (by decide)) (fun _ hk => hk.2) (.string t1059)) (fun _ hk => hk.2) (.int .i64 t1060)) (fun _ hk => hk.2) (.int .i64 t1061)) (fun _ hk => hk.2) (.int .i64 t1062)) (fun _ hk => hk.2) (.int .i64 t1063)) (fun _ hk => hk.2) (.int .i64 t1064)) (fun _ h_ => h_.1))) hb); replace HO_1046000 := Aside0.mk (Kd.R_below (by (with_reducible repeat (first | apply Kd.R_alloc | apply Kd.R_drewN | apply Kd.R_drew)); exact (Kd.R_mono (Kd.R_far (p := ⟨gb1066, 5, none⟩) (Kd.R_far (p := ⟨gb1066, 4, none⟩) (Kd.R_far (p := ⟨gb1066, 3, none⟩) (Kd.R_far (p := ⟨gb1066, 2, none⟩) (Kd.R_far (p := ⟨gb1066, 1, none⟩) (Kd.R_far (p := ⟨gb1066, 0, none⟩) (Kd.R_types HO_1046000.out BK1066.out (by decide)) (fun _ hk => hk.2) (.string t1059)) (fun _ hk => hk.2) (.int .i64 t1060)) (fun _ hk => hk.2) (.int .i64 t1061)) (fun _ hk => hk.2) (.int .i64 t1062)) (fun _ hk => hk.2) (.int .i64 t1063)) (fun _ hk => hk.2) (.int .i64 t1064)) (fun _ h_ => h_.1))) hb); replace BK1043 := Aside0.mk (Qam (g := gb1043) (o := .cells #[.string a1_0, .string a1_1] 81 (0, 0)) (Zg6 BK1043.out NB1043_1066.out NB1043_1066.out NB1043_1066.out NB1043_1066.out NB1043_1066.out NB1043_1066.out) hb); replace BK1044 := Aside0.mk (Qam (g := gb1044) (o := .cells #[u1045000] 32 (0, 0)) (Zg6 BK1044.out NB1044_1066.out NB1044_1066.out NB1044_1066.out NB1044_1066.out NB1044_1066.out NB1044_1066.out) hb); replace BK1045 := Aside0.mk (Qam (g := gb1045) (o := .cells #[u1046000] 32 (0, 0)) (Zg6 BK1045.out NB1045_1066.out NB1045_1066.out NB1045_1066.out NB1045_1066.out NB1045_1066.out NB1045_1066.out) hb); replace BK1046 := Aside0.mk (Qam (g := gb1046) (o := .cells #[.string a1_0, .string a1_1] 81 (0, 0)) (Zg6 BK1046.out NB1046_1066.out NB1046_1066.out NB1046_1066.out NB1046_1066.out NB1046_1066.out NB1046_1066.out) hb); replace BK1058 := Aside0.mk (Qam (g := gb1058) (o := .cells #[.string ((Qaj t1049 x334_1).f0.f0), .string ((Qaj t1049 x334_1).f0.f1), .string ((Qaj t1049 x334_1).f1), .int .i64 ((Qaj t1049 x334_1).f2)] 346 (0, 0)) (Zg6 BK1058.out NB1058_1066.out NB1058_1066.out NB1058_1066.out NB1058_1066.out NB1058_1066.out NB1058_1066.out) hb); replace BK1066 := Aside0.mk (Zpi #[.string t1059, .int .i64 t1060, .int .i64 t1061, .int .i64 t1062, .int .i64 t1063, .int .i64 t1064] BK1066.out hb); replace HB := Aside0.mk (Qap (Zc6 GE1043.out GE1044.out GE1045.out GE1046.out GE1058.out GE1066.out) hb); (try clear hb); (try clear hb2); (try clear hk); (try clear hi)))
       (try simp only [Act.put, Zj, Zk, Zm])
       by_cases c48 : t1068 = 0
       ·rw [if_pos c48] at H
        have c48b0 : (t1068 == 0) = T := beq_iff_eq.mpr c48
        have c48b1 : (t1068 != 0) = F := bne_eq_false_iff_eq.mpr c48
        clear c48
        (try simp only [c48b0, c48b1])
        obtain ⟨y1070, hy1070⟩ : ∃ y_ : List Int, y_ = (([t1067] : List Int)) := ⟨_, rfl⟩
        replace H : (if x1045000_1.length + y1070.length < 17592186044416 then ((some (([t1064] : List Int) : List Int)).bind fun y1076 => (if x1046000_1.length + y1076.length < 17592186044416 then (Qaw.l1 k1 a2 l3 l4 t1049 (t1049.length : Int) (wrap64 (x334_1 + 1)) (x1045000_1 ++ y1070) (x1046000_1 ++ y1076)) else (none))) else (none)) = some (r1, r2) := by first | (rw [hy1070]; with_reducible exact H) | (have H2_ := (Option.bind_some _ _).symm.trans H; rw [hy1070]; with_reducible exact H2_) | (have H2_ := (Option.bind_some _ _).symm.trans H; with_reducible exact H2_) | with_reducible exact H | (rw [hy1070]; exact H) | exact H
        have Ny1070 := Aside0.mk hy1070
        clear hy1070
        by_cases c49 : x1045000_1.length + y1070.length < 17592186044416
        ·rw [if_pos c49] at H
         have LMc49 := Aside0.mk c49
         clear c49
         obtain ⟨y1073, hy1073⟩ : ∃ y_ : List Int, y_ = (x1045000_1 ++ y1070) := ⟨_, rfl⟩
         replace H : ((some (([t1064] : List Int) : List Int)).bind fun y1076 => (if x1046000_1.length + y1076.length < 17592186044416 then (Qaw.l1 k1 a2 l3 l4 t1049 (t1049.length : Int) (wrap64 (x334_1 + 1)) y1073 (x1046000_1 ++ y1076)) else (none))) = some (r1, r2) := by first | (rw [hy1073]; with_reducible exact H) | (have H2_ := (Option.bind_some _ _).symm.trans H; rw [hy1073]; with_reducible exact H2_) | (have H2_ := (Option.bind_some _ _).symm.trans H; with_reducible exact H2_) | with_reducible exact H | (rw [hy1073]; exact H) | exact H
         have Ny1073 := Aside0.mk hy1073
         clear hy1073
         obtain ⟨y1076, hy1076⟩ : ∃ y_ : List Int, y_ = (([t1064] : List Int)) := ⟨_, rfl⟩
         replace H : (if x1046000_1.length + y1076.length < 17592186044416 then (Qaw.l1 k1 a2 l3 l4 t1049 (t1049.length : Int) (wrap64 (x334_1 + 1)) y1073 (x1046000_1 ++ y1076)) else (none)) = some (r1, r2) := by first | (rw [hy1076]; with_reducible exact H) | (have H2_ := (Option.bind_some _ _).symm.trans H; rw [hy1076]; with_reducible exact H2_) | (have H2_ := (Option.bind_some _ _).symm.trans H; with_reducible exact H2_) | with_reducible exact H | (rw [hy1076]; exact H) | exact H
         have Ny1076 := Aside0.mk hy1076
         clear hy1076
         by_cases c50 : x1046000_1.length + y1076.length < 17592186044416
         ·rw [if_pos c50] at H
          have LMc50 := Aside0.mk c50
          clear c50
          obtain ⟨y1079, hy1079⟩ : ∃ y_ : List Int, y_ = (x1046000_1 ++ y1076) := ⟨_, rfl⟩
          replace H : (Qaw.l1 k1 a2 l3 l4 t1049 (t1049.length : Int) (wrap64 (x334_1 + 1)) y1073 y1079) = some (r1, r2) := by first | (rw [hy1079]; with_reducible exact H) | (have H2_ := (Option.bind_some _ _).symm.trans H; rw [hy1079]; with_reducible exact H2_) | (have H2_ := (Option.bind_some _ _).symm.trans H; with_reducible exact H2_) | with_reducible exact H | (rw [hy1079]; exact H) | exact H
          have Ny1079 := Aside0.mk hy1079
          clear hy1079
          have hnb51 := NB1066_1043.out
          have hnc51 := NB1043_1066.out
          have hnb52 := NB1066_1044.out
          have hnc52 := NB1044_1066.out
          have hnb53 := NB1066_1045.out
          have hnc53 := NB1045_1066.out
          have hnb54 := NB1066_1046.out
          have hnc54 := NB1046_1066.out
          have hnb55 := NB1066_1058.out
          have hnc55 := NB1058_1066.out
          obtain ⟨hcz56_0, hfz56_0⟩ := Zy (v := (.string t1059)) BK1066.out 0
          obtain ⟨hcz56_1, hfz56_1⟩ := Zy (v := (.int .i64 t1060)) BK1066.out 1
          obtain ⟨hcz56_2, hfz56_2⟩ := Zy (v := (.int .i64 t1061)) BK1066.out 2
          obtain ⟨hcz56_3, hfz56_3⟩ := Zy (v := (.int .i64 t1062)) BK1066.out 3
          obtain ⟨hcz56_4, hfz56_4⟩ := Zy (v := (.int .i64 t1063)) BK1066.out 4
          obtain ⟨hcz56_5, hfz56_5⟩ := Zy (v := (.int .i64 t1064)) BK1066.out 5
          try go_wp2_with (first | (go_at_call 245; go_in) | ((with_reducible refine QaT (N := 4) rfl ?_); (refine gate_n (n := 15) rfl ?_); refine Zbx (N := 4) (cs := #[.string t1059, .int .i64 t1060, .int .i64 t1061, .int .i64 t1062, .int .i64 t1063, .int .i64 t1064]) (t := 112) ?_; intro gb1069 hg w57 hbox hb; have BK1069 := Aside0.mk (hbox); have GW1069 := Aside0.mk (Zt w hg (Zc6 GE1043.out GE1044.out GE1045.out GE1046.out GE1058.out GE1066.out)); have GE1069 := GW1069; have NB1043_1069 := Aside0.mk (Zn hg BK1043.out); have NB1069_1043 := Aside0.mk NB1043_1069.out.symm; have NB1044_1069 := Aside0.mk (Zn hg BK1044.out); have NB1069_1044 := Aside0.mk NB1044_1069.out.symm; have NB1045_1069 := Aside0.mk (Zn hg BK1045.out); have NB1069_1045 := Aside0.mk NB1045_1069.out.symm; have NB1046_1069 := Aside0.mk (Zn hg BK1046.out); have NB1069_1046 := Aside0.mk NB1046_1069.out.symm; have NB1058_1069 := Aside0.mk (Zn hg BK1058.out); have NB1069_1058 := Aside0.mk NB1058_1069.out.symm; have NB1066_1069 := Aside0.mk (Zn hg BK1066.out); have NB1069_1066 := Aside0.mk NB1066_1069.out.symm; replace HO_332 := Aside0.mk (Kd.R_below (Zr HO_332.out) hb); replace HO_1045000 := Aside0.mk (Kd.R_below (Zr HO_1045000.out) hb); replace HO_1046000 := Aside0.mk (Kd.R_below (Zr HO_1046000.out) hb); replace BK1043 := Aside0.mk (Zi BK1043.out hb); replace BK1044 := Aside0.mk (Zi BK1044.out hb); replace BK1045 := Aside0.mk (Zi BK1045.out hb); replace BK1046 := Aside0.mk (Zi BK1046.out hb); replace BK1058 := Aside0.mk (Zi BK1058.out hb); replace BK1066 := Aside0.mk (Zi BK1066.out hb); replace HB := Aside0.mk (Qap (Zc6 GE1043.out GE1044.out GE1045.out GE1046.out GE1058.out GE1066.out) hb); clear hb hbox hg; obtain ⟨Ao58, co58, eo58⟩ := Kd.R_slice HO_1045000.out; subst eo58; obtain ⟨Ao59, co59, eo59⟩ := Kd.R_slice HO_1046000.out; subst eo59))
          replace HO_332 := Aside0.mk (Kd.R_drew HO_332.out)
          replace HO_1045000 := Aside0.mk (Kd.R_drew HO_1045000.out)
          replace HO_1046000 := Aside0.mk (Kd.R_drew HO_1046000.out)
          replace BK1043 := Aside0.mk (Qad BK1043.out)
          replace BK1044 := Aside0.mk (Qad BK1044.out)
          replace BK1045 := Aside0.mk (Qad BK1045.out)
          replace BK1046 := Aside0.mk (Qad BK1046.out)
          replace BK1058 := Aside0.mk (Qad BK1058.out)
          replace BK1066 := Aside0.mk (Qad BK1066.out)
          replace BK1069 := Aside0.mk (Qad BK1069.out)
          replace HB := Aside0.mk (Qai HB.out)
          refine start_ (n := 11) (S := fun w' => w'.cell? ⟨gb1044, 0, none⟩ = some (.slice Ao58 x1045000_1.length co58) ∧ w'.cell? ⟨gb1045, 0, none⟩ = some (.slice Ao59 x1046000_1.length co59) ∧ w'.cell? ⟨gb1069, 0, none⟩ = some (.string t1059) ∧ w'.cell? ⟨gb1069, 1, none⟩ = some (.int .i64 t1060) ∧ w'.cell? ⟨gb1069, 2, none⟩ = some (.int .i64 t1061) ∧ w'.cell? ⟨gb1069, 3, none⟩ = some (.int .i64 t1062) ∧ w'.cell? ⟨gb1069, 4, none⟩ = some (.int .i64 t1063) ∧ w'.cell? ⟨gb1069, 5, none⟩ = some (.int .i64 t1064)) (ds := [9, 10]) #[F, F, F, F, F, F, F, F, F, F, F] (by kernel_rfl) rfl rfl ⟨(Qaf BK1044.out 0).trans rfl, (Qaf BK1045.out 0).trans rfl, (Qaf BK1069.out 0).trans rfl, (Qaf BK1069.out 1).trans rfl, (Qaf BK1069.out 2).trans rfl, (Qaf BK1069.out 3).trans rfl, (Qaf BK1069.out 4).trans rfl, (Qaf BK1069.out 5).trans rfl⟩ (fun hHeld => ?_)
          generalize w57.drew = w60 at HO_332 HO_1045000 HO_1046000 BK1043 BK1044 BK1045 BK1046 BK1058 BK1066 BK1069 HB hHeld ⊢
          refine pure_ (i := 1) (N := some 7) (v := ?_) (a' := ?_) #[F, T, F, F, F, F, F, F, F, F, F] rfl rfl (by kernel_rfl) (fun _ _ _ h => h) (Or.inl ⟨by rfl, ?_⟩) ?_ ?_
          rotate_left
          ·intro w'
           go_simp
           with_reducible rfl
          rotate_left
          ·simp only [Act.put, Zj, Zk, Zm, i64_w, i32_w]
           rfl
          refine pure_ (i := 5) (N := some 11) (v := ?_) (a' := ?_) #[F, T, F, F, F, T, F, F, F, F, F] rfl rfl (by kernel_rfl) (fun _ _ _ h => h) (Or.inl ⟨by rfl, ?_⟩) ?_ ?_
          rotate_left
          ·intro w'
           go_simp
           with_reducible rfl
          rotate_left
          ·simp only [Act.put, Zj, Zk, Zm, i64_w, i32_w]
           rfl
          refine take_ (i := 0) (N := some 6) (v := ?_) (a' := ?_) #[T, T, F, F, F, T, F, F, F, F, F] rfl rfl (by kernel_rfl) (fun _ _ _ h => h) (Or.inl ⟨by rfl, ?_⟩) hHeld ?_ ?_
          rotate_left
          ·rintro w' ⟨s0, s1, s2, s3, s4, s5, s6, s7⟩
           go_simp
           with_reducible rfl
          rotate_left
          ·simp only [Act.put, Zj, Zk, Zm, i64_w, i32_w]
           rfl
          refine take_ (i := 4) (N := some 10) (v := ?_) (a' := ?_) #[T, T, F, F, T, T, F, F, F, F, F] rfl rfl (by kernel_rfl) (fun _ _ _ h => h) (Or.inl ⟨by rfl, ?_⟩) hHeld ?_ ?_
          rotate_left
          ·rintro w' ⟨s0, s1, s2, s3, s4, s5, s6, s7⟩
           go_simp
           with_reducible rfl
          rotate_left
          ·simp only [Act.put, Zj, Zk, Zm, i64_w, i32_w]
           rfl
          refine take_ (i := 6) (N := some 12) (v := ?_) (a' := ?_) #[T, T, F, F, T, T, T, F, F, F, F] rfl rfl (by kernel_rfl) (fun _ _ _ h => h) (Or.inl ⟨by rfl, ?_⟩) hHeld ?_ ?_
          rotate_left
          ·rintro w' ⟨s0, s1, s2, s3, s4, s5, s6, s7⟩
           go_simp
           with_reducible rfl
          rotate_left
          ·simp only [Act.put, Zj, Zk, Zm, i64_w, i32_w]
           rfl
          refine join_ (σ := Value × Value × Value) 3 #[T, T, T, T, T, T, T, T, F, F, F] (fun s_ => [(8, s_.1), (9, s_.2.1), (13, s_.2.2)]) (fun s_ w' => (w'.cell? ⟨gb1044, 0, none⟩ = some (.slice Ao58 x1045000_1.length co58) ∧ w'.cell? ⟨gb1045, 0, none⟩ = some (.slice Ao59 x1046000_1.length co59) ∧ w'.cell? ⟨gb1069, 0, none⟩ = some (.string t1059) ∧ w'.cell? ⟨gb1069, 1, none⟩ = some (.int .i64 t1060) ∧ w'.cell? ⟨gb1069, 2, none⟩ = some (.int .i64 t1061) ∧ w'.cell? ⟨gb1069, 3, none⟩ = some (.int .i64 t1062) ∧ w'.cell? ⟨gb1069, 4, none⟩ = some (.int .i64 t1063) ∧ w'.cell? ⟨gb1069, 5, none⟩ = some (.int .i64 t1064)) ∧ (Kd.R (Kd.int .i64) 3 w' w.heap.size (fun k_ => some k_ ≠ (s_.2.1 : Value).ownBlock ∧ some k_ ≠ (s_.2.2 : Value).ownBlock ∧ some k_ ≠ (.slice Ao59 x1046000_1.length co59 : Value).ownBlock) s_.1 y1070) ∧ (Kd.R (Kd.int .i64) 3 w' w.heap.size (fun k_ => some k_ ≠ (s_.1 : Value).ownBlock ∧ some k_ ≠ (s_.2.2 : Value).ownBlock ∧ some k_ ≠ (.slice Ao59 x1046000_1.length co59 : Value).ownBlock) s_.2.1 y1073) ∧ (Kd.R (Kd.int .i64) 3 w' w.heap.size (fun k_ => some k_ ≠ (s_.1 : Value).ownBlock ∧ some k_ ≠ (s_.2.1 : Value).ownBlock ∧ some k_ ≠ (.slice Ao59 x1046000_1.length co59 : Value).ownBlock) s_.2.2 y1076) ∧ (Kd.R (Kd.int .i64) 3 w' w.heap.size (fun k_ => some k_ ≠ (s_.1 : Value).ownBlock ∧ some k_ ≠ (s_.2.1 : Value).ownBlock ∧ some k_ ≠ (s_.2.2 : Value).ownBlock) (.slice Ao59 x1046000_1.length co59) x1046000_1) ∧ (Kd.R k346 346 w' w.heap.size (fun k_ => k_ ≠ gb1058) (.slice (some ad1057) t1049.length co26) t1049) ∧ (w'.heap[gb1043]? = some (.cells #[.string a1_0, .string a1_1] 81 (0, 0))) ∧ (w'.heap[gb1044]? = some (.cells #[.slice Ao58 x1045000_1.length co58] 32 (0, 0))) ∧ (w'.heap[gb1045]? = some (.cells #[.slice Ao59 x1046000_1.length co59] 32 (0, 0))) ∧ (w'.heap[gb1046]? = some (.cells #[.string a1_0, .string a1_1] 81 (0, 0))) ∧ (w'.heap[gb1058]? = some (.cells #[.string ((Qaj t1049 x334_1).f0.f0), .string ((Qaj t1049 x334_1).f0.f1), .string ((Qaj t1049 x334_1).f1), .int .i64 ((Qaj t1049 x334_1).f2)] 346 (0, 0))) ∧ (w'.heap[gb1066]? = some (.cells #[.string t1059, .int .i64 t1060, .int .i64 t1061, .int .i64 t1062, .int .i64 t1063, .int .i64 t1064] 112 (0, 0))) ∧ (w'.heap[gb1069]? = some (.cells #[.string t1059, .int .i64 t1060, .int .i64 t1061, .int .i64 t1062, .int .i64 t1063, .int .i64 t1064] 112 (0, 0))) ∧ (Below w.heap.size w w')) ?_ ?_
          rotate_left
          ·intro hCont
           refine two_ (i := 2) (j := 7) (Ni := some 8) (Nj := some 13) #[T, T, T, F, T, T, T, F, F, F, F] #[T, T, F, F, T, T, T, T, F, F, F] rfl rfl rfl rfl (by kernel_rfl) (by decide) (by decide) (fun K hK => ?_) (fun K hK => ?_)
           ·skip
            refine Kd.R_lit_step (Kd.int .i64) _ 3 ?hg (N := 8) ?hd (xs := ([t1067] : List Int)) (inner := [.int .i64 t1067]) (ok := fun _ => True) (okp := fun _ => True) ?hr ?hp (fun _ hk => hk) trivial (Below.refl _ _) (Nat.le_refl _) (by simp) ?_; (case hd => rfl); (case hg => rfl); (case hr => first | (go_simp; done) | (go_simp; rfl)); (case hp => exact (Reps.one (show Kd.M (Kd.int .i64) _ _ _ t1067 [.int .i64 t1067] from rfl) (Reps.none _ _)))
            intro v1071 w61 ho62 hb hg_ hnew_
            clear hg_ hnew_
            (first | rw [← Ny1070.out] at ho62 | (simp only [Int.reduceToNat] at ho62; rw [← Ny1070.out] at ho62))
            have HO1072 := Aside0.mk (Kd.R_lower (Kd.R_new' (Kd.R_new' ho62 (Kd.R_lt (Zr HO_1045000.out))) (Kd.R_lt (Zr HO_1046000.out))) (Qar (Zc7 GE1043.out GE1044.out GE1045.out GE1046.out GE1058.out GE1066.out GE1069.out)))
            replace HO_332 := Aside0.mk (Kd.R_below (Zr HO_332.out) hb)
            replace HO_1045000 := Aside0.mk (Kd.R_elder' (Zr HO_1045000.out) (Kd.R_base ho62) hb)
            replace HO_1046000 := Aside0.mk (Kd.R_elder' (Zr HO_1046000.out) (Kd.R_base ho62) hb)
            replace BK1043 := Aside0.mk (Zi BK1043.out hb)
            replace BK1044 := Aside0.mk (Zi BK1044.out hb)
            replace BK1045 := Aside0.mk (Zi BK1045.out hb)
            replace BK1046 := Aside0.mk (Zi BK1046.out hb)
            replace BK1058 := Aside0.mk (Zi BK1058.out hb)
            replace BK1066 := Aside0.mk (Zi BK1066.out hb)
            replace BK1069 := Aside0.mk (Zi BK1069.out hb)
            replace HB := Aside0.mk (Qap (Zc7 GE1043.out GE1044.out GE1045.out GE1046.out GE1058.out GE1066.out GE1069.out) hb)
            clear hb ho62
            obtain ⟨Ao64, co64, eo64⟩ := Kd.R_slice HO1072.out
            (first | subst eo64 | (injection eo64 with f1_ f2_ f3_; have f4_ := f1_.symm; have f5_ := f3_.symm; clear f1_ f2_ f3_; subst f4_; subst f5_))
            refine hK.out _ _ ⟨(Qaf BK1044.out 0).trans rfl, (Qaf BK1045.out 0).trans rfl, (Qaf BK1069.out 0).trans rfl, (Qaf BK1069.out 1).trans rfl, (Qaf BK1069.out 2).trans rfl, (Qaf BK1069.out 3).trans rfl, (Qaf BK1069.out 4).trans rfl, (Qaf BK1069.out 5).trans rfl⟩ (fun hHeld => ?_)
            clear hK K
            refine norm_ (a' := ?_) ?_ ?_
            rotate_left
            ·show Act.put _ (some 8) _ = _
             simp only [Act.put, Zj, Zk, Zm, i64_w, i32_w]
             rfl
            refine two_ (i := 3) (j := 7) (Ni := some 9) (Nj := some 13) #[T, T, T, T, T, T, T, F, F, F, F] #[T, T, T, F, T, T, T, T, F, F, F] rfl rfl rfl rfl (by kernel_rfl) (by decide) (by decide) (fun K hK => ?_) (fun K hK => ?_)
            ·skip
             refine Kd.R_append_rows_step (Kd.int .i64) (w0 := w) w.heap.size (by rfl) (.tmp 6) (.tmp 8) 32 3 (.int .i64 0) 8 rfl Try.underlying32 info3 rfl (by decide) (by omega) (.slice Ao58 x1045000_1.length co58) x1045000_1 y1070 _ _ _ (fun k_ => some k_ ≠ (.slice Ao59 x1046000_1.length co59 : Value).ownBlock ∧ some k_ ≠ (.slice Ao64 y1070.length co64 : Value).ownBlock) (fun _ => False) rfl rfl ?aO ?aR (fun _ _ h => h) (fun _ h => h.elim) ?aF ?aB ?aS ?aL ?_
             (case aR => exact Zv (Kd.R_reads' HO1072.out).2.2)
             (case aB => exact (Zc7 GE1043.out GE1044.out GE1045.out GE1046.out GE1058.out GE1066.out GE1069.out))
             (case aF => exact (fun k_ hk => ⟨Kd.fresh' (Kd.R_lt (Zr HO_1046000.out)) k_ hk, Kd.fresh' (Kd.R_lt (Zr HO1072.out)) k_ hk⟩))
             (case aO => exact (Zr HO_1045000.out))
             (case aS => exact (Qar (Zc7 GE1043.out GE1044.out GE1045.out GE1046.out GE1058.out GE1066.out GE1069.out)))
             (case aL => have := LMc49.out; omega)
             intro v1074 w63 ho hb hg hat
             rw [← Ny1073.out] at ho
             have HO1075 := Aside0.mk (ho)
             replace HO_332 := Aside0.mk (Kd.R_over' (Zr HO_332.out) (Kd.R_typed (Zr HO_1045000.out)) (by decide) hg)
             replace HO_1046000 := Aside0.mk (Kd.R_after (ok := (fun k_ => some k_ ≠ (.slice Ao64 y1070.length co64 : Value).ownBlock)) (by (with_reducible repeat (first | apply Kd.R_alloc | apply Kd.R_drewN | apply Kd.R_drew)); exact Kd.R_mono HO_1046000.out (fun _ hk => ⟨hk.2, hk.1⟩)) hg hat)
             replace BK1043 := Aside0.mk (Qa7 (g := gb1043) (o := .cells #[.string a1_0, .string a1_1] 81 (0, 0)) (Zu BK1043.out) hg (Kd.R_ne HO_1045000.out BK1043.out (by decide)))
             replace BK1044 := Aside0.mk (Qa7 (g := gb1044) (o := .cells #[.slice Ao58 x1045000_1.length co58] 32 (0, 0)) (Zu BK1044.out) hg (Kd.R_ne HO_1045000.out BK1044.out (by decide)))
             replace BK1045 := Aside0.mk (Qa7 (g := gb1045) (o := .cells #[.slice Ao59 x1046000_1.length co59] 32 (0, 0)) (Zu BK1045.out) hg (Kd.R_ne HO_1045000.out BK1045.out (by decide)))
             replace BK1046 := Aside0.mk (Qa7 (g := gb1046) (o := .cells #[.string a1_0, .string a1_1] 81 (0, 0)) (Zu BK1046.out) hg (Kd.R_ne HO_1045000.out BK1046.out (by decide)))
             replace BK1058 := Aside0.mk (Qa7 (g := gb1058) (o := .cells #[.string ((Qaj t1049 x334_1).f0.f0), .string ((Qaj t1049 x334_1).f0.f1), .string ((Qaj t1049 x334_1).f1), .int .i64 ((Qaj t1049 x334_1).f2)] 346 (0, 0)) (Zu BK1058.out) hg (Kd.R_ne HO_1045000.out BK1058.out (by decide)))
             replace BK1066 := Aside0.mk (Qa7 (g := gb1066) (o := .cells #[.string t1059, .int .i64 t1060, .int .i64 t1061, .int .i64 t1062, .int .i64 t1063, .int .i64 t1064] 112 (0, 0)) (Zu BK1066.out) hg (Kd.R_ne HO_1045000.out BK1066.out (by decide)))
             replace BK1069 := Aside0.mk (Qa7 (g := gb1069) (o := .cells #[.string t1059, .int .i64 t1060, .int .i64 t1061, .int .i64 t1062, .int .i64 t1063, .int .i64 t1064] 112 (0, 0)) (Zu BK1069.out) hg (Kd.R_ne HO_1045000.out BK1069.out (by decide)))
             replace HO1072 := Aside0.mk (Kd.R_after (ok := (fun k_ => some k_ ≠ (.slice Ao59 x1046000_1.length co59 : Value).ownBlock)) (by (with_reducible repeat (first | apply Kd.R_alloc | apply Kd.R_drewN | apply Kd.R_drew)); exact Kd.R_mono HO1072.out (fun _ hk => ⟨hk.2, hk.1.2⟩)) hg hat)
             replace HB := Aside0.mk (hb)
             clear HO_1045000
             clear ho hb hg hat
             refine hK.out _ _ ⟨(Qaf BK1044.out 0).trans rfl, (Qaf BK1045.out 0).trans rfl, (Qaf BK1069.out 0).trans rfl, (Qaf BK1069.out 1).trans rfl, (Qaf BK1069.out 2).trans rfl, (Qaf BK1069.out 3).trans rfl, (Qaf BK1069.out 4).trans rfl, (Qaf BK1069.out 5).trans rfl⟩ (fun hHeld => ?_)
             clear hK K
             refine norm_ (a' := ?_) ?_ ?_
             rotate_left
             ·show Act.put _ (some 9) _ = _
              simp only [Act.put, Zj, Zk, Zm, i64_w, i32_w]
              rfl
             refine one_ (i := 7) (N := some 13) #[T, T, T, T, T, T, T, T, F, F, F] rfl rfl (by kernel_rfl) (by decide) (fun K hK => ?_)
             refine Kd.R_lit_step (Kd.int .i64) _ 3 ?hg (N := 13) ?hd (xs := ([t1064] : List Int)) (inner := [.int .i64 t1064]) (ok := fun _ => True) (okp := fun _ => True) ?hr ?hp (fun _ hk => hk) trivial (Below.refl _ _) (Nat.le_refl _) (by simp) ?_; (case hd => rfl); (case hg => rfl); (case hr => first | (go_simp; done) | (go_simp; rfl)); (case hp => exact (Reps.one (show Kd.M (Kd.int .i64) _ _ _ t1064 [.int .i64 t1064] from rfl) (Reps.none _ _)))
             intro v1077 w65 ho66 hb hg_ hnew_
             clear hg_ hnew_
             (first | rw [← Ny1076.out] at ho66 | (simp only [Int.reduceToNat] at ho66; rw [← Ny1076.out] at ho66))
             have HO1078 := Aside0.mk (Kd.R_lower (Kd.R_new' (Kd.R_new' (Kd.R_new' ho66 (Kd.R_lt (Zr HO_1046000.out))) (Kd.R_lt (Zr HO1072.out))) (Kd.R_lt (Zr HO1075.out))) (Qar (Zc7 GE1043.out GE1044.out GE1045.out GE1046.out GE1058.out GE1066.out GE1069.out)))
             replace HO_332 := Aside0.mk (Kd.R_below (Zr HO_332.out) hb)
             replace HO_1046000 := Aside0.mk (Kd.R_elder' (Zr HO_1046000.out) (Kd.R_base ho66) hb)
             replace HO1072 := Aside0.mk (Kd.R_elder' (Zr HO1072.out) (Kd.R_base ho66) hb)
             replace HO1075 := Aside0.mk (Kd.R_elder' (Zr HO1075.out) (Kd.R_base ho66) hb)
             replace BK1043 := Aside0.mk (Zi BK1043.out hb)
             replace BK1044 := Aside0.mk (Zi BK1044.out hb)
             replace BK1045 := Aside0.mk (Zi BK1045.out hb)
             replace BK1046 := Aside0.mk (Zi BK1046.out hb)
             replace BK1058 := Aside0.mk (Zi BK1058.out hb)
             replace BK1066 := Aside0.mk (Zi BK1066.out hb)
             replace BK1069 := Aside0.mk (Zi BK1069.out hb)
             replace HB := Aside0.mk (Qap (Zc7 GE1043.out GE1044.out GE1045.out GE1046.out GE1058.out GE1066.out GE1069.out) hb)
             clear hb ho66
             refine hK.out _ _ ⟨(Qaf BK1044.out 0).trans rfl, (Qaf BK1045.out 0).trans rfl, (Qaf BK1069.out 0).trans rfl, (Qaf BK1069.out 1).trans rfl, (Qaf BK1069.out 2).trans rfl, (Qaf BK1069.out 3).trans rfl, (Qaf BK1069.out 4).trans rfl, (Qaf BK1069.out 5).trans rfl⟩ (fun hHeld => ?_)
             clear hK K
             refine norm_ (a' := ?_) ?_ ?_
             rotate_left
             ·show Act.put _ (some 13) _ = _
              simp only [Act.put, Zj, Zk, Zm, i64_w, i32_w]
              rfl
             exact norm_ (by simp only [putAll, Act.put, Zj, Zk, Zm]) (hCont (.slice Ao64 y1070.length co64, v1074, v1077) _ ⟨hHeld, (by (with_reducible repeat (first | apply Kd.R_alloc | apply Kd.R_drewN | apply Kd.R_drew)); exact Kd.R_mono HO1072.out (fun _ hk => ⟨hk.1.2, ⟨hk.2, hk.1.1⟩⟩)), (by (with_reducible repeat (first | apply Kd.R_alloc | apply Kd.R_drewN | apply Kd.R_drew)); exact Kd.R_mono HO1075.out (fun _ hk => ⟨hk.1.2, ⟨hk.2, hk.1.1⟩⟩)), (by (with_reducible repeat (first | apply Kd.R_alloc | apply Kd.R_drewN | apply Kd.R_drew)); exact Kd.R_mono HO1078.out (fun _ hk => ⟨hk.1.2, ⟨hk.2, hk.1.1.2⟩⟩)), (by (with_reducible repeat (first | apply Kd.R_alloc | apply Kd.R_drewN | apply Kd.R_drew)); exact Kd.R_mono HO_1046000.out (fun _ hk => ⟨hk.1.1, ⟨hk.1.2, hk.2⟩⟩)), (by (with_reducible repeat (first | apply Kd.R_alloc | apply Kd.R_drewN | apply Kd.R_drew)); exact Kd.R_mono HO_332.out (fun _ hk => hk.2)), (Zu BK1043.out), (Zu BK1044.out), (Zu BK1045.out), (Zu BK1046.out), (Zu BK1058.out), (Zu BK1066.out), (Zu BK1069.out), (Zc7 GE1043.out GE1044.out GE1045.out GE1046.out GE1058.out GE1066.out GE1069.out)⟩)
            skip
            refine Kd.R_lit_step (Kd.int .i64) _ 3 ?hg (N := 13) ?hd (xs := ([t1064] : List Int)) (inner := [.int .i64 t1064]) (ok := fun _ => True) (okp := fun _ => True) ?hr ?hp (fun _ hk => hk) trivial (Below.refl _ _) (Nat.le_refl _) (by simp) ?_; (case hd => rfl); (case hg => rfl); (case hr => first | (go_simp; done) | (go_simp; rfl)); (case hp => exact (Reps.one (show Kd.M (Kd.int .i64) _ _ _ t1064 [.int .i64 t1064] from rfl) (Reps.none _ _)))
            intro v1077 w63 ho64 hb hg_ hnew_
            clear hg_ hnew_
            (first | rw [← Ny1076.out] at ho64 | (simp only [Int.reduceToNat] at ho64; rw [← Ny1076.out] at ho64))
            have HO1078 := Aside0.mk (Kd.R_lower (Kd.R_new' (Kd.R_new' (Kd.R_new' ho64 (Kd.R_lt (Zr HO_1045000.out))) (Kd.R_lt (Zr HO_1046000.out))) (Kd.R_lt (Zr HO1072.out))) (Qar (Zc7 GE1043.out GE1044.out GE1045.out GE1046.out GE1058.out GE1066.out GE1069.out)))
            replace HO_332 := Aside0.mk (Kd.R_below (Zr HO_332.out) hb)
            replace HO_1045000 := Aside0.mk (Kd.R_elder' (Zr HO_1045000.out) (Kd.R_base ho64) hb)
            replace HO_1046000 := Aside0.mk (Kd.R_elder' (Zr HO_1046000.out) (Kd.R_base ho64) hb)
            replace HO1072 := Aside0.mk (Kd.R_elder' (Zr HO1072.out) (Kd.R_base ho64) hb)
            replace BK1043 := Aside0.mk (Zi BK1043.out hb)
            replace BK1044 := Aside0.mk (Zi BK1044.out hb)
            replace BK1045 := Aside0.mk (Zi BK1045.out hb)
            replace BK1046 := Aside0.mk (Zi BK1046.out hb)
            replace BK1058 := Aside0.mk (Zi BK1058.out hb)
            replace BK1066 := Aside0.mk (Zi BK1066.out hb)
            replace BK1069 := Aside0.mk (Zi BK1069.out hb)
            replace HB := Aside0.mk (Qap (Zc7 GE1043.out GE1044.out GE1045.out GE1046.out GE1058.out GE1066.out GE1069.out) hb)
            clear hb ho64
            obtain ⟨Ao66, co66, eo66⟩ := Kd.R_slice HO1072.out
            (first | subst eo66 | (injection eo66 with f1_ f2_ f3_; have f4_ := f1_.symm; have f5_ := f3_.symm; clear f1_ f2_ f3_; subst f4_; subst f5_))
            refine hK.out _ _ ⟨(Qaf BK1044.out 0).trans rfl, (Qaf BK1045.out 0).trans rfl, (Qaf BK1069.out 0).trans rfl, (Qaf BK1069.out 1).trans rfl, (Qaf BK1069.out 2).trans rfl, (Qaf BK1069.out 3).trans rfl, (Qaf BK1069.out 4).trans rfl, (Qaf BK1069.out 5).trans rfl⟩ (fun hHeld => ?_)
            clear hK K
            refine norm_ (a' := ?_) ?_ ?_
            rotate_left
            ·show Act.put _ (some 13) _ = _
             simp only [Act.put, Zj, Zk, Zm, i64_w, i32_w]
             rfl
            refine one_ (i := 3) (N := some 9) #[T, T, T, T, T, T, T, T, F, F, F] rfl rfl (by kernel_rfl) (by decide) (fun K hK => ?_)
            refine Kd.R_append_rows_step (Kd.int .i64) (w0 := w) w.heap.size (by rfl) (.tmp 6) (.tmp 8) 32 3 (.int .i64 0) 8 rfl Try.underlying32 info3 rfl (by decide) (by omega) (.slice Ao58 x1045000_1.length co58) x1045000_1 y1070 _ _ _ (fun k_ => some k_ ≠ (.slice Ao59 x1046000_1.length co59 : Value).ownBlock ∧ some k_ ≠ (.slice Ao66 y1070.length co66 : Value).ownBlock ∧ some k_ ≠ (v1077 : Value).ownBlock) (fun _ => False) rfl rfl ?aO ?aR (fun _ _ h => h) (fun _ h => h.elim) ?aF ?aB ?aS ?aL ?_
            (case aR => exact Zv (Kd.R_reads' HO1072.out).2.2)
            (case aB => exact (Zc7 GE1043.out GE1044.out GE1045.out GE1046.out GE1058.out GE1066.out GE1069.out))
            (case aF => exact (fun k_ hk => ⟨Kd.fresh' (Kd.R_lt (Zr HO_1046000.out)) k_ hk, Kd.fresh' (Kd.R_lt (Zr HO1072.out)) k_ hk, Kd.fresh' (Kd.R_lt (Zr HO1078.out)) k_ hk⟩))
            (case aO => exact (by (with_reducible repeat (first | apply Kd.R_alloc | apply Kd.R_drewN | apply Kd.R_drew)); exact Kd.R_mono HO_1045000.out (fun _ hk => ⟨hk.1.1, ⟨hk.1.2, hk.2⟩⟩)))
            (case aS => exact (Qar (Zc7 GE1043.out GE1044.out GE1045.out GE1046.out GE1058.out GE1066.out GE1069.out)))
            (case aL => have := LMc49.out; omega)
            intro v1074 w65 ho hb hg hat
            rw [← Ny1073.out] at ho
            have HO1075 := Aside0.mk (ho)
            replace HO_332 := Aside0.mk (Kd.R_over' (Zr HO_332.out) (Kd.R_typed (Zr HO_1045000.out)) (by decide) hg)
            replace HO_1046000 := Aside0.mk (Kd.R_after (ok := (fun k_ => some k_ ≠ (.slice Ao66 y1070.length co66 : Value).ownBlock ∧ some k_ ≠ (v1077 : Value).ownBlock)) (by (with_reducible repeat (first | apply Kd.R_alloc | apply Kd.R_drewN | apply Kd.R_drew)); exact Kd.R_mono HO_1046000.out (fun _ hk => ⟨⟨hk.1.2, hk.2⟩, hk.1.1⟩)) hg hat)
            replace BK1043 := Aside0.mk (Qa7 (g := gb1043) (o := .cells #[.string a1_0, .string a1_1] 81 (0, 0)) (Zu BK1043.out) hg (Kd.R_ne HO_1045000.out BK1043.out (by decide)))
            replace BK1044 := Aside0.mk (Qa7 (g := gb1044) (o := .cells #[.slice Ao58 x1045000_1.length co58] 32 (0, 0)) (Zu BK1044.out) hg (Kd.R_ne HO_1045000.out BK1044.out (by decide)))
            replace BK1045 := Aside0.mk (Qa7 (g := gb1045) (o := .cells #[.slice Ao59 x1046000_1.length co59] 32 (0, 0)) (Zu BK1045.out) hg (Kd.R_ne HO_1045000.out BK1045.out (by decide)))
            replace BK1046 := Aside0.mk (Qa7 (g := gb1046) (o := .cells #[.string a1_0, .string a1_1] 81 (0, 0)) (Zu BK1046.out) hg (Kd.R_ne HO_1045000.out BK1046.out (by decide)))
            replace BK1058 := Aside0.mk (Qa7 (g := gb1058) (o := .cells #[.string ((Qaj t1049 x334_1).f0.f0), .string ((Qaj t1049 x334_1).f0.f1), .string ((Qaj t1049 x334_1).f1), .int .i64 ((Qaj t1049 x334_1).f2)] 346 (0, 0)) (Zu BK1058.out) hg (Kd.R_ne HO_1045000.out BK1058.out (by decide)))
            replace BK1066 := Aside0.mk (Qa7 (g := gb1066) (o := .cells #[.string t1059, .int .i64 t1060, .int .i64 t1061, .int .i64 t1062, .int .i64 t1063, .int .i64 t1064] 112 (0, 0)) (Zu BK1066.out) hg (Kd.R_ne HO_1045000.out BK1066.out (by decide)))
            replace BK1069 := Aside0.mk (Qa7 (g := gb1069) (o := .cells #[.string t1059, .int .i64 t1060, .int .i64 t1061, .int .i64 t1062, .int .i64 t1063, .int .i64 t1064] 112 (0, 0)) (Zu BK1069.out) hg (Kd.R_ne HO_1045000.out BK1069.out (by decide)))
            replace HO1072 := Aside0.mk (Kd.R_after (ok := (fun k_ => some k_ ≠ (.slice Ao59 x1046000_1.length co59 : Value).ownBlock ∧ some k_ ≠ (v1077 : Value).ownBlock)) (by (with_reducible repeat (first | apply Kd.R_alloc | apply Kd.R_drewN | apply Kd.R_drew)); exact Kd.R_mono HO1072.out (fun _ hk => ⟨⟨hk.1.2, hk.2⟩, hk.1.1.2⟩)) hg hat)
            replace HO1078 := Aside0.mk (Kd.R_after (ok := (fun k_ => some k_ ≠ (.slice Ao59 x1046000_1.length co59 : Value).ownBlock ∧ some k_ ≠ (.slice Ao66 y1070.length co66 : Value).ownBlock)) (by (with_reducible repeat (first | apply Kd.R_alloc | apply Kd.R_drewN | apply Kd.R_drew)); exact Kd.R_mono HO1078.out (fun _ hk => ⟨⟨hk.1.2, hk.2⟩, hk.1.1.2⟩)) hg hat)
            replace HB := Aside0.mk (hb)
            clear HO_1045000
            clear ho hb hg hat
            refine hK.out _ _ ⟨(Qaf BK1044.out 0).trans rfl, (Qaf BK1045.out 0).trans rfl, (Qaf BK1069.out 0).trans rfl, (Qaf BK1069.out 1).trans rfl, (Qaf BK1069.out 2).trans rfl, (Qaf BK1069.out 3).trans rfl, (Qaf BK1069.out 4).trans rfl, (Qaf BK1069.out 5).trans rfl⟩ (fun hHeld => ?_)
            clear hK K
            refine norm_ (a' := ?_) ?_ ?_
            rotate_left
            ·show Act.put _ (some 9) _ = _
             simp only [Act.put, Zj, Zk, Zm, i64_w, i32_w]
             rfl
            exact norm_ (by simp only [putAll, Act.put, Zj, Zk, Zm]) (hCont (.slice Ao66 y1070.length co66, v1074, v1077) _ ⟨hHeld, (by (with_reducible repeat (first | apply Kd.R_alloc | apply Kd.R_drewN | apply Kd.R_drew)); exact Kd.R_mono HO1072.out (fun _ hk => ⟨hk.2, ⟨hk.1.2, hk.1.1⟩⟩)), (by (with_reducible repeat (first | apply Kd.R_alloc | apply Kd.R_drewN | apply Kd.R_drew)); exact Kd.R_mono HO1075.out (fun _ hk => ⟨hk.2.1, ⟨hk.2.2, hk.1⟩⟩)), (by (with_reducible repeat (first | apply Kd.R_alloc | apply Kd.R_drewN | apply Kd.R_drew)); exact Kd.R_mono HO1078.out (fun _ hk => ⟨hk.1.2, ⟨hk.2, hk.1.1⟩⟩)), (by (with_reducible repeat (first | apply Kd.R_alloc | apply Kd.R_drewN | apply Kd.R_drew)); exact Kd.R_mono HO_1046000.out (fun _ hk => ⟨hk.1.1, ⟨hk.2, hk.1.2⟩⟩)), (by (with_reducible repeat (first | apply Kd.R_alloc | apply Kd.R_drewN | apply Kd.R_drew)); exact Kd.R_mono HO_332.out (fun _ hk => hk.2)), (Zu BK1043.out), (Zu BK1044.out), (Zu BK1045.out), (Zu BK1046.out), (Zu BK1058.out), (Zu BK1066.out), (Zu BK1069.out), (Zc7 GE1043.out GE1044.out GE1045.out GE1046.out GE1058.out GE1066.out GE1069.out)⟩)
           skip
           refine Kd.R_lit_step (Kd.int .i64) _ 3 ?hg (N := 13) ?hd (xs := ([t1064] : List Int)) (inner := [.int .i64 t1064]) (ok := fun _ => True) (okp := fun _ => True) ?hr ?hp (fun _ hk => hk) trivial (Below.refl _ _) (Nat.le_refl _) (by simp) ?_; (case hd => rfl); (case hg => rfl); (case hr => first | (go_simp; done) | (go_simp; rfl)); (case hp => exact (Reps.one (show Kd.M (Kd.int .i64) _ _ _ t1064 [.int .i64 t1064] from rfl) (Reps.none _ _)))
           intro v1077 w61 ho62 hb hg_ hnew_
           clear hg_ hnew_
           (first | rw [← Ny1076.out] at ho62 | (simp only [Int.reduceToNat] at ho62; rw [← Ny1076.out] at ho62))
           have HO1078 := Aside0.mk (Kd.R_lower (Kd.R_new' (Kd.R_new' ho62 (Kd.R_lt (Zr HO_1045000.out))) (Kd.R_lt (Zr HO_1046000.out))) (Qar (Zc7 GE1043.out GE1044.out GE1045.out GE1046.out GE1058.out GE1066.out GE1069.out)))
           replace HO_332 := Aside0.mk (Kd.R_below (Zr HO_332.out) hb)
           replace HO_1045000 := Aside0.mk (Kd.R_elder' (Zr HO_1045000.out) (Kd.R_base ho62) hb)
           replace HO_1046000 := Aside0.mk (Kd.R_elder' (Zr HO_1046000.out) (Kd.R_base ho62) hb)
           replace BK1043 := Aside0.mk (Zi BK1043.out hb)
           replace BK1044 := Aside0.mk (Zi BK1044.out hb)
           replace BK1045 := Aside0.mk (Zi BK1045.out hb)
           replace BK1046 := Aside0.mk (Zi BK1046.out hb)
           replace BK1058 := Aside0.mk (Zi BK1058.out hb)
           replace BK1066 := Aside0.mk (Zi BK1066.out hb)
           replace BK1069 := Aside0.mk (Zi BK1069.out hb)
           replace HB := Aside0.mk (Qap (Zc7 GE1043.out GE1044.out GE1045.out GE1046.out GE1058.out GE1066.out GE1069.out) hb)
           clear hb ho62
           refine hK.out _ _ ⟨(Qaf BK1044.out 0).trans rfl, (Qaf BK1045.out 0).trans rfl, (Qaf BK1069.out 0).trans rfl, (Qaf BK1069.out 1).trans rfl, (Qaf BK1069.out 2).trans rfl, (Qaf BK1069.out 3).trans rfl, (Qaf BK1069.out 4).trans rfl, (Qaf BK1069.out 5).trans rfl⟩ (fun hHeld => ?_)
           clear hK K
           refine norm_ (a' := ?_) ?_ ?_
           rotate_left
           ·show Act.put _ (some 13) _ = _
            simp only [Act.put, Zj, Zk, Zm, i64_w, i32_w]
            rfl
           refine one_ (i := 2) (N := some 8) #[T, T, T, F, T, T, T, T, F, F, F] rfl rfl (by kernel_rfl) (by decide) (fun K hK => ?_)
           refine Kd.R_lit_step (Kd.int .i64) _ 3 ?hg (N := 8) ?hd (xs := ([t1067] : List Int)) (inner := [.int .i64 t1067]) (ok := fun _ => True) (okp := fun _ => True) ?hr ?hp (fun _ hk => hk) trivial (Below.refl _ _) (Nat.le_refl _) (by simp) ?_; (case hd => rfl); (case hg => rfl); (case hr => first | (go_simp; done) | (go_simp; rfl)); (case hp => exact (Reps.one (show Kd.M (Kd.int .i64) _ _ _ t1067 [.int .i64 t1067] from rfl) (Reps.none _ _)))
           intro v1071 w63 ho64 hb hg_ hnew_
           clear hg_ hnew_
           (first | rw [← Ny1070.out] at ho64 | (simp only [Int.reduceToNat] at ho64; rw [← Ny1070.out] at ho64))
           have HO1072 := Aside0.mk (Kd.R_lower (Kd.R_new' (Kd.R_new' (Kd.R_new' ho64 (Kd.R_lt (Zr HO_1045000.out))) (Kd.R_lt (Zr HO_1046000.out))) (Kd.R_lt (Zr HO1078.out))) (Qar (Zc7 GE1043.out GE1044.out GE1045.out GE1046.out GE1058.out GE1066.out GE1069.out)))
           replace HO_332 := Aside0.mk (Kd.R_below (Zr HO_332.out) hb)
           replace HO_1045000 := Aside0.mk (Kd.R_elder' (Zr HO_1045000.out) (Kd.R_base ho64) hb)
           replace HO_1046000 := Aside0.mk (Kd.R_elder' (Zr HO_1046000.out) (Kd.R_base ho64) hb)
           replace HO1078 := Aside0.mk (Kd.R_elder' (Zr HO1078.out) (Kd.R_base ho64) hb)
           replace BK1043 := Aside0.mk (Zi BK1043.out hb)
           replace BK1044 := Aside0.mk (Zi BK1044.out hb)
           replace BK1045 := Aside0.mk (Zi BK1045.out hb)
           replace BK1046 := Aside0.mk (Zi BK1046.out hb)
           replace BK1058 := Aside0.mk (Zi BK1058.out hb)
           replace BK1066 := Aside0.mk (Zi BK1066.out hb)
           replace BK1069 := Aside0.mk (Zi BK1069.out hb)
           replace HB := Aside0.mk (Qap (Zc7 GE1043.out GE1044.out GE1045.out GE1046.out GE1058.out GE1066.out GE1069.out) hb)
           clear hb ho64
           obtain ⟨Ao66, co66, eo66⟩ := Kd.R_slice HO1072.out
           (first | subst eo66 | (injection eo66 with f1_ f2_ f3_; have f4_ := f1_.symm; have f5_ := f3_.symm; clear f1_ f2_ f3_; subst f4_; subst f5_))
           refine hK.out _ _ ⟨(Qaf BK1044.out 0).trans rfl, (Qaf BK1045.out 0).trans rfl, (Qaf BK1069.out 0).trans rfl, (Qaf BK1069.out 1).trans rfl, (Qaf BK1069.out 2).trans rfl, (Qaf BK1069.out 3).trans rfl, (Qaf BK1069.out 4).trans rfl, (Qaf BK1069.out 5).trans rfl⟩ (fun hHeld => ?_)
           clear hK K
           refine norm_ (a' := ?_) ?_ ?_
           rotate_left
           ·show Act.put _ (some 8) _ = _
            simp only [Act.put, Zj, Zk, Zm, i64_w, i32_w]
            rfl
           refine one_ (i := 3) (N := some 9) #[T, T, T, T, T, T, T, T, F, F, F] rfl rfl (by kernel_rfl) (by decide) (fun K hK => ?_)
           refine Kd.R_append_rows_step (Kd.int .i64) (w0 := w) w.heap.size (by rfl) (.tmp 6) (.tmp 8) 32 3 (.int .i64 0) 8 rfl Try.underlying32 info3 rfl (by decide) (by omega) (.slice Ao58 x1045000_1.length co58) x1045000_1 y1070 _ _ _ (fun k_ => some k_ ≠ (.slice Ao59 x1046000_1.length co59 : Value).ownBlock ∧ some k_ ≠ (v1077 : Value).ownBlock ∧ some k_ ≠ (.slice Ao66 y1070.length co66 : Value).ownBlock) (fun _ => False) rfl rfl ?aO ?aR (fun _ _ h => h) (fun _ h => h.elim) ?aF ?aB ?aS ?aL ?_
           (case aR => exact Zv (Kd.R_reads' HO1072.out).2.2)
           (case aB => exact (Zc7 GE1043.out GE1044.out GE1045.out GE1046.out GE1058.out GE1066.out GE1069.out))
           (case aF => exact (fun k_ hk => ⟨Kd.fresh' (Kd.R_lt (Zr HO_1046000.out)) k_ hk, Kd.fresh' (Kd.R_lt (Zr HO1078.out)) k_ hk, Kd.fresh' (Kd.R_lt (Zr HO1072.out)) k_ hk⟩))
           (case aO => exact (by (with_reducible repeat (first | apply Kd.R_alloc | apply Kd.R_drewN | apply Kd.R_drew)); exact Kd.R_mono HO_1045000.out (fun _ hk => ⟨hk.1.1, ⟨hk.1.2, hk.2⟩⟩)))
           (case aS => exact (Qar (Zc7 GE1043.out GE1044.out GE1045.out GE1046.out GE1058.out GE1066.out GE1069.out)))
           (case aL => have := LMc49.out; omega)
           intro v1074 w65 ho hb hg hat
           rw [← Ny1073.out] at ho
           have HO1075 := Aside0.mk (ho)
           replace HO_332 := Aside0.mk (Kd.R_over' (Zr HO_332.out) (Kd.R_typed (Zr HO_1045000.out)) (by decide) hg)
           replace HO_1046000 := Aside0.mk (Kd.R_after (ok := (fun k_ => some k_ ≠ (v1077 : Value).ownBlock ∧ some k_ ≠ (.slice Ao66 y1070.length co66 : Value).ownBlock)) (by (with_reducible repeat (first | apply Kd.R_alloc | apply Kd.R_drewN | apply Kd.R_drew)); exact Kd.R_mono HO_1046000.out (fun _ hk => ⟨⟨hk.1.2, hk.2⟩, hk.1.1⟩)) hg hat)
           replace BK1043 := Aside0.mk (Qa7 (g := gb1043) (o := .cells #[.string a1_0, .string a1_1] 81 (0, 0)) (Zu BK1043.out) hg (Kd.R_ne HO_1045000.out BK1043.out (by decide)))
           replace BK1044 := Aside0.mk (Qa7 (g := gb1044) (o := .cells #[.slice Ao58 x1045000_1.length co58] 32 (0, 0)) (Zu BK1044.out) hg (Kd.R_ne HO_1045000.out BK1044.out (by decide)))
           replace BK1045 := Aside0.mk (Qa7 (g := gb1045) (o := .cells #[.slice Ao59 x1046000_1.length co59] 32 (0, 0)) (Zu BK1045.out) hg (Kd.R_ne HO_1045000.out BK1045.out (by decide)))
           replace BK1046 := Aside0.mk (Qa7 (g := gb1046) (o := .cells #[.string a1_0, .string a1_1] 81 (0, 0)) (Zu BK1046.out) hg (Kd.R_ne HO_1045000.out BK1046.out (by decide)))
           replace BK1058 := Aside0.mk (Qa7 (g := gb1058) (o := .cells #[.string ((Qaj t1049 x334_1).f0.f0), .string ((Qaj t1049 x334_1).f0.f1), .string ((Qaj t1049 x334_1).f1), .int .i64 ((Qaj t1049 x334_1).f2)] 346 (0, 0)) (Zu BK1058.out) hg (Kd.R_ne HO_1045000.out BK1058.out (by decide)))
           replace BK1066 := Aside0.mk (Qa7 (g := gb1066) (o := .cells #[.string t1059, .int .i64 t1060, .int .i64 t1061, .int .i64 t1062, .int .i64 t1063, .int .i64 t1064] 112 (0, 0)) (Zu BK1066.out) hg (Kd.R_ne HO_1045000.out BK1066.out (by decide)))
           replace BK1069 := Aside0.mk (Qa7 (g := gb1069) (o := .cells #[.string t1059, .int .i64 t1060, .int .i64 t1061, .int .i64 t1062, .int .i64 t1063, .int .i64 t1064] 112 (0, 0)) (Zu BK1069.out) hg (Kd.R_ne HO_1045000.out BK1069.out (by decide)))
           replace HO1078 := Aside0.mk (Kd.R_after (ok := (fun k_ => some k_ ≠ (.slice Ao59 x1046000_1.length co59 : Value).ownBlock ∧ some k_ ≠ (.slice Ao66 y1070.length co66 : Value).ownBlock)) (by (with_reducible repeat (first | apply Kd.R_alloc | apply Kd.R_drewN | apply Kd.R_drew)); exact Kd.R_mono HO1078.out (fun _ hk => ⟨⟨hk.1.2, hk.2⟩, hk.1.1.2⟩)) hg hat)
           replace HO1072 := Aside0.mk (Kd.R_after (ok := (fun k_ => some k_ ≠ (.slice Ao59 x1046000_1.length co59 : Value).ownBlock ∧ some k_ ≠ (v1077 : Value).ownBlock)) (by (with_reducible repeat (first | apply Kd.R_alloc | apply Kd.R_drewN | apply Kd.R_drew)); exact Kd.R_mono HO1072.out (fun _ hk => ⟨⟨hk.1.2, hk.2⟩, hk.1.1.2⟩)) hg hat)
           replace HB := Aside0.mk (hb)
           clear HO_1045000
           clear ho hb hg hat
           refine hK.out _ _ ⟨(Qaf BK1044.out 0).trans rfl, (Qaf BK1045.out 0).trans rfl, (Qaf BK1069.out 0).trans rfl, (Qaf BK1069.out 1).trans rfl, (Qaf BK1069.out 2).trans rfl, (Qaf BK1069.out 3).trans rfl, (Qaf BK1069.out 4).trans rfl, (Qaf BK1069.out 5).trans rfl⟩ (fun hHeld => ?_)
           clear hK K
           refine norm_ (a' := ?_) ?_ ?_
           rotate_left
           ·show Act.put _ (some 9) _ = _
            simp only [Act.put, Zj, Zk, Zm, i64_w, i32_w]
            rfl
           exact norm_ (by simp only [putAll, Act.put, Zj, Zk, Zm]) (hCont (.slice Ao66 y1070.length co66, v1074, v1077) _ ⟨hHeld, (by (with_reducible repeat (first | apply Kd.R_alloc | apply Kd.R_drewN | apply Kd.R_drew)); exact Kd.R_mono HO1072.out (fun _ hk => ⟨hk.2, ⟨hk.1.2, hk.1.1⟩⟩)), (by (with_reducible repeat (first | apply Kd.R_alloc | apply Kd.R_drewN | apply Kd.R_drew)); exact Kd.R_mono HO1075.out (fun _ hk => ⟨hk.2.2, ⟨hk.2.1, hk.1⟩⟩)), (by (with_reducible repeat (first | apply Kd.R_alloc | apply Kd.R_drewN | apply Kd.R_drew)); exact Kd.R_mono HO1078.out (fun _ hk => ⟨hk.1.2, ⟨hk.2, hk.1.1⟩⟩)), (by (with_reducible repeat (first | apply Kd.R_alloc | apply Kd.R_drewN | apply Kd.R_drew)); exact Kd.R_mono HO_1046000.out (fun _ hk => ⟨hk.1.2, ⟨hk.2, hk.1.1⟩⟩)), (by (with_reducible repeat (first | apply Kd.R_alloc | apply Kd.R_drewN | apply Kd.R_drew)); exact Kd.R_mono HO_332.out (fun _ hk => hk.2)), (Zu BK1043.out), (Zu BK1044.out), (Zu BK1045.out), (Zu BK1046.out), (Zu BK1058.out), (Zu BK1066.out), (Zu BK1069.out), (Zc7 GE1043.out GE1044.out GE1045.out GE1046.out GE1058.out GE1066.out GE1069.out)⟩)
          rintro ⟨v1071, v1074, v1077⟩ w67 ⟨hS_, h0_, h1_, h2_, h3_, h4_, h5_, h6_, h7_, h8_, h9_, h10_, h11_, h12_⟩
          have n0_ : Aside0 (Kd.R (Kd.int .i64) 3 w67 w.heap.size (fun k_ => some k_ ≠ (v1074 : Value).ownBlock ∧ some k_ ≠ (v1077 : Value).ownBlock ∧ some k_ ≠ (.slice Ao59 x1046000_1.length co59 : Value).ownBlock) v1071 y1070) := ⟨h0_⟩
          have n1_ : Aside0 (Kd.R (Kd.int .i64) 3 w67 w.heap.size (fun k_ => some k_ ≠ (v1071 : Value).ownBlock ∧ some k_ ≠ (v1077 : Value).ownBlock ∧ some k_ ≠ (.slice Ao59 x1046000_1.length co59 : Value).ownBlock) v1074 y1073) := ⟨h1_⟩
          have n2_ : Aside0 (Kd.R (Kd.int .i64) 3 w67 w.heap.size (fun k_ => some k_ ≠ (v1071 : Value).ownBlock ∧ some k_ ≠ (v1074 : Value).ownBlock ∧ some k_ ≠ (.slice Ao59 x1046000_1.length co59 : Value).ownBlock) v1077 y1076) := ⟨h2_⟩
          have n3_ : Aside0 (Kd.R (Kd.int .i64) 3 w67 w.heap.size (fun k_ => some k_ ≠ (v1071 : Value).ownBlock ∧ some k_ ≠ (v1074 : Value).ownBlock ∧ some k_ ≠ (v1077 : Value).ownBlock) (.slice Ao59 x1046000_1.length co59) x1046000_1) := ⟨h3_⟩
          have n4_ : Aside0 (Kd.R k346 346 w67 w.heap.size (fun k_ => k_ ≠ gb1058) (.slice (some ad1057) t1049.length co26) t1049) := ⟨h4_⟩
          have n5_ : Aside0 (w67.heap[gb1043]? = some (.cells #[.string a1_0, .string a1_1] 81 (0, 0))) := ⟨h5_⟩
          have n6_ : Aside0 (w67.heap[gb1044]? = some (.cells #[.slice Ao58 x1045000_1.length co58] 32 (0, 0))) := ⟨h6_⟩
          have n7_ : Aside0 (w67.heap[gb1045]? = some (.cells #[.slice Ao59 x1046000_1.length co59] 32 (0, 0))) := ⟨h7_⟩
          have n8_ : Aside0 (w67.heap[gb1046]? = some (.cells #[.string a1_0, .string a1_1] 81 (0, 0))) := ⟨h8_⟩
          have n9_ : Aside0 (w67.heap[gb1058]? = some (.cells #[.string ((Qaj t1049 x334_1).f0.f0), .string ((Qaj t1049 x334_1).f0.f1), .string ((Qaj t1049 x334_1).f1), .int .i64 ((Qaj t1049 x334_1).f2)] 346 (0, 0))) := ⟨h9_⟩
          have n10_ : Aside0 (w67.heap[gb1066]? = some (.cells #[.string t1059, .int .i64 t1060, .int .i64 t1061, .int .i64 t1062, .int .i64 t1063, .int .i64 t1064] 112 (0, 0))) := ⟨h10_⟩
          have n11_ : Aside0 (w67.heap[gb1069]? = some (.cells #[.string t1059, .int .i64 t1060, .int .i64 t1061, .int .i64 t1062, .int .i64 t1063, .int .i64 t1064] 112 (0, 0))) := ⟨h11_⟩
          have n12_ : Aside0 (Below w.heap.size w w67) := ⟨h12_⟩
          clear HO_332
          clear HO_1045000
          clear HO_1046000
          clear BK1043
          clear BK1044
          clear BK1045
          clear BK1046
          clear BK1058
          clear BK1066
          clear BK1069
          clear HB
          clear h0_ h1_ h2_ h3_ h4_ h5_ h6_ h7_ h8_ h9_ h10_ h11_ h12_
          have HO1072 := n0_
          have HO1075 := n1_
          have HO1078 := n2_
          have HO_1046000 := n3_
          have HO_332 := n4_
          have BK1043 := n5_
          have BK1044 := n6_
          have BK1045 := n7_
          have BK1046 := n8_
          have BK1058 := n9_
          have BK1066 := n10_
          have BK1069 := n11_
          have HB := n12_
          clear n0_ n1_ n2_ n3_ n4_ n5_ n6_ n7_ n8_ n9_ n10_ n11_ n12_
          have hHeld : w67.cell? ⟨gb1044, 0, none⟩ = some (.slice Ao58 x1045000_1.length co58) ∧ w67.cell? ⟨gb1045, 0, none⟩ = some (.slice Ao59 x1046000_1.length co59) ∧ w67.cell? ⟨gb1069, 0, none⟩ = some (.string t1059) ∧ w67.cell? ⟨gb1069, 1, none⟩ = some (.int .i64 t1060) ∧ w67.cell? ⟨gb1069, 2, none⟩ = some (.int .i64 t1061) ∧ w67.cell? ⟨gb1069, 3, none⟩ = some (.int .i64 t1062) ∧ w67.cell? ⟨gb1069, 4, none⟩ = some (.int .i64 t1063) ∧ w67.cell? ⟨gb1069, 5, none⟩ = some (.int .i64 t1064) := hS_
          obtain ⟨Ao69, co69, eo69⟩ := Kd.R_slice HO1078.out
          (first | subst eo69 | (injection eo69 with f1_ f2_ f3_; have f4_ := f1_.symm; have f5_ := f3_.symm; clear f1_ f2_ f3_; subst f4_; subst f5_))
          refine norm_ (a' := ?_) ?_ ?_
          rotate_left
          ·simp only [putAll, Act.put, Zj, Zk, Zm]
           rfl
          refine one_ (i := 8) (N := some 14) #[T, T, T, T, T, T, T, T, T, F, F] rfl rfl (by kernel_rfl) (by decide) (fun K hK => ?_)
          refine Kd.R_append_rows_step (Kd.int .i64) (w0 := w) w.heap.size (by rfl) (.tmp 10) (.tmp 13) 32 3 (.int .i64 0) 8 rfl Try.underlying32 info3 rfl (by decide) (by omega) (.slice Ao59 x1046000_1.length co59) x1046000_1 y1076 _ _ _ (fun k_ => some k_ ≠ (v1071 : Value).ownBlock ∧ some k_ ≠ (v1074 : Value).ownBlock ∧ some k_ ≠ (.slice Ao69 y1076.length co69 : Value).ownBlock) (fun _ => False) rfl rfl ?aO ?aR (fun _ _ h => h) (fun _ h => h.elim) ?aF ?aB ?aS ?aL ?_
          (case aR => exact Zv (Kd.R_reads' HO1078.out).2.2)
          (case aB => exact (Zc7 GE1043.out GE1044.out GE1045.out GE1046.out GE1058.out GE1066.out GE1069.out))
          (case aF => exact (fun k_ hk => ⟨Kd.fresh' (Kd.R_lt (Zr HO1072.out)) k_ hk, Kd.fresh' (Kd.R_lt (Zr HO1075.out)) k_ hk, Kd.fresh' (Kd.R_lt (Zr HO1078.out)) k_ hk⟩))
          (case aO => exact (Zr HO_1046000.out))
          (case aS => exact (Qar (Zc7 GE1043.out GE1044.out GE1045.out GE1046.out GE1058.out GE1066.out GE1069.out)))
          (case aL => have := LMc50.out; omega)
          intro v1080 w68 ho hb hg hat
          rw [← Ny1079.out] at ho
          have HO1081 := Aside0.mk (ho)
          replace HO_332 := Aside0.mk (Kd.R_over' (Zr HO_332.out) (Kd.R_typed (Zr HO_1046000.out)) (by decide) hg)
          replace BK1043 := Aside0.mk (Qa7 (g := gb1043) (o := .cells #[.string a1_0, .string a1_1] 81 (0, 0)) (Zu BK1043.out) hg (Kd.R_ne HO_1046000.out BK1043.out (by decide)))
          replace BK1044 := Aside0.mk (Qa7 (g := gb1044) (o := .cells #[.slice Ao58 x1045000_1.length co58] 32 (0, 0)) (Zu BK1044.out) hg (Kd.R_ne HO_1046000.out BK1044.out (by decide)))
          replace BK1045 := Aside0.mk (Qa7 (g := gb1045) (o := .cells #[.slice Ao59 x1046000_1.length co59] 32 (0, 0)) (Zu BK1045.out) hg (Kd.R_ne HO_1046000.out BK1045.out (by decide)))
          replace BK1046 := Aside0.mk (Qa7 (g := gb1046) (o := .cells #[.string a1_0, .string a1_1] 81 (0, 0)) (Zu BK1046.out) hg (Kd.R_ne HO_1046000.out BK1046.out (by decide)))
          replace BK1058 := Aside0.mk (Qa7 (g := gb1058) (o := .cells #[.string ((Qaj t1049 x334_1).f0.f0), .string ((Qaj t1049 x334_1).f0.f1), .string ((Qaj t1049 x334_1).f1), .int .i64 ((Qaj t1049 x334_1).f2)] 346 (0, 0)) (Zu BK1058.out) hg (Kd.R_ne HO_1046000.out BK1058.out (by decide)))
          replace BK1066 := Aside0.mk (Qa7 (g := gb1066) (o := .cells #[.string t1059, .int .i64 t1060, .int .i64 t1061, .int .i64 t1062, .int .i64 t1063, .int .i64 t1064] 112 (0, 0)) (Zu BK1066.out) hg (Kd.R_ne HO_1046000.out BK1066.out (by decide)))
          replace BK1069 := Aside0.mk (Qa7 (g := gb1069) (o := .cells #[.string t1059, .int .i64 t1060, .int .i64 t1061, .int .i64 t1062, .int .i64 t1063, .int .i64 t1064] 112 (0, 0)) (Zu BK1069.out) hg (Kd.R_ne HO_1046000.out BK1069.out (by decide)))
          replace HO1072 := Aside0.mk (Kd.R_after (ok := (fun k_ => some k_ ≠ (v1074 : Value).ownBlock ∧ some k_ ≠ (.slice Ao69 y1076.length co69 : Value).ownBlock)) (by (with_reducible repeat (first | apply Kd.R_alloc | apply Kd.R_drewN | apply Kd.R_drew)); exact Kd.R_mono HO1072.out (fun _ hk => ⟨⟨hk.1, hk.2.1⟩, hk.2.2⟩)) hg hat)
          replace HO1075 := Aside0.mk (Kd.R_after (ok := (fun k_ => some k_ ≠ (v1071 : Value).ownBlock ∧ some k_ ≠ (.slice Ao69 y1076.length co69 : Value).ownBlock)) (by (with_reducible repeat (first | apply Kd.R_alloc | apply Kd.R_drewN | apply Kd.R_drew)); exact Kd.R_mono HO1075.out (fun _ hk => ⟨⟨hk.1, hk.2.1⟩, hk.2.2⟩)) hg hat)
          replace HO1078 := Aside0.mk (Kd.R_after (ok := (fun k_ => some k_ ≠ (v1071 : Value).ownBlock ∧ some k_ ≠ (v1074 : Value).ownBlock)) (by (with_reducible repeat (first | apply Kd.R_alloc | apply Kd.R_drewN | apply Kd.R_drew)); exact Kd.R_mono HO1078.out (fun _ hk => ⟨⟨hk.1, hk.2.1⟩, hk.2.2⟩)) hg hat)
          replace HB := Aside0.mk (hb)
          clear HO_1046000
          clear ho hb hg hat
          obtain ⟨Ao70, co70, eo70⟩ := Kd.R_slice HO1075.out
          (first | subst eo70 | (injection eo70 with f1_ f2_ f3_; have f4_ := f1_.symm; have f5_ := f3_.symm; clear f1_ f2_ f3_; subst f4_; subst f5_))
          obtain ⟨Ao72, co72, eo72⟩ := Kd.R_slice HO1081.out
          (first | subst eo72 | (injection eo72 with f1_ f2_ f3_; have f4_ := f1_.symm; have f5_ := f3_.symm; clear f1_ f2_ f3_; subst f4_; subst f5_))
          refine hK.out _ _ ⟨(Qaf BK1044.out 0).trans rfl, (Qaf BK1045.out 0).trans rfl, (Qaf BK1069.out 0).trans rfl, (Qaf BK1069.out 1).trans rfl, (Qaf BK1069.out 2).trans rfl, (Qaf BK1069.out 3).trans rfl, (Qaf BK1069.out 4).trans rfl, (Qaf BK1069.out 5).trans rfl⟩ (fun hHeld => ?_)
          clear hK K
          refine norm_ (a' := ?_) ?_ ?_
          rotate_left
          ·show Act.put _ (some 14) _ = _
           simp only [Act.put, Zj, Zk, Zm, i64_w, i32_w]
           rfl
          refine last_ (i := 9) (N := none) #[T, T, T, T, T, T, T, T, T, T, F] rfl rfl (by kernel_rfl) (by decide) (fun K hK => ?_)
          have hs71 : w68.cell? ⟨gb1044, 0, none⟩ = some (.slice Ao58 x1045000_1.length co58) := (Qaf BK1044.out 0).trans rfl
          have hfs71 := Qah BK1044.out 0
          have hns71_0 := NB1043_1044.out
          have hns71_2 := NB1045_1044.out
          have hns71_3 := NB1046_1044.out
          have hns71_4 := NB1058_1044.out
          have hns71_5 := NB1066_1044.out
          have hns71_6 := NB1069_1044.out
          have hms71_0 := NB1044_1043.out
          have hms71_2 := NB1044_1045.out
          have hms71_3 := NB1044_1046.out
          have hms71_4 := NB1044_1058.out
          have hms71_5 := NB1044_1066.out
          have hms71_6 := NB1044_1069.out
          refine skip_ (w1 := ?_) (by rfl) rfl ?_ ?_
          rotate_left
          ·go_simp
           rfl
          refine hK.out _ _ ?_
          clear hK K
          refine last_ (i := 10) (N := none) #[T, T, T, T, T, T, T, T, T, T, T] rfl rfl (by kernel_rfl) (by decide) (fun K hK => ?_)
          have hs73 : w68.cell? ⟨gb1045, 0, none⟩ = some (.slice Ao59 x1046000_1.length co59) := (Qaf BK1045.out 0).trans rfl
          have hfs73 := Qah BK1045.out 0
          have hns73_0 := NB1043_1045.out
          have hns73_1 := NB1044_1045.out
          have hns73_3 := NB1046_1045.out
          have hns73_4 := NB1058_1045.out
          have hns73_5 := NB1066_1045.out
          have hns73_6 := NB1069_1045.out
          have hms73_0 := NB1045_1043.out
          have hms73_1 := NB1045_1044.out
          have hms73_3 := NB1045_1046.out
          have hms73_4 := NB1045_1058.out
          have hms73_5 := NB1045_1066.out
          have hms73_6 := NB1045_1069.out
          refine skip_ (w1 := ?_) (by rfl) rfl ?_ ?_
          rotate_left
          ·go_simp
           rfl
          refine hK.out _ _ ?_
          clear hK K
          refine done_ (by kernel_rfl) ?_
          go_upto_region 12 with (first | ((first | go_end0 | (refine bodyPost_ret (results_none rfl _ _ _) rfl ?_))))
          (try simp only [Act.put, Zj, Zk, Zm])
          have H' := Aside0.mk H
          clear H
          go_wp2
          go_roundg k1
          case measure => have := HK1.out; omega
          case rel => exact ⟨(wrap64 (x334_1 + 1)), (y1073), (y1079), (.slice Ao70 y1073.length co70), (.slice Ao72 y1079.length co72), (Zs), H', ⟨by have := HK1.out; omega⟩, ⟨by (with_reducible repeat (first | apply Kd.R_alloc | apply Kd.R_drewN | apply Kd.R_drew)); exact Kd.R_mono (Kd.R_far (p := ⟨gb1045, 0, none⟩) (Kd.R_far (p := ⟨gb1044, 0, none⟩) (Kd.R_types (Kd.R_types HO_332.out BK1044.out (by decide)) BK1045.out (by decide)) (fun _ hk => hk.1.2) (.slice Ao70 y1073.length co70)) (fun _ hk => hk.2) (.slice Ao72 y1079.length co72)) (fun _ hk => trivial)⟩, ⟨by (with_reducible repeat (first | apply Kd.R_alloc | apply Kd.R_drewN | apply Kd.R_drew)); exact Kd.R_mono (Kd.R_far (p := ⟨gb1045, 0, none⟩) (Kd.R_far (p := ⟨gb1044, 0, none⟩) (Kd.R_types (Kd.R_types HO1075.out BK1044.out (by decide)) BK1045.out (by decide)) (fun _ hk => hk.1.2) (.slice Ao70 y1073.length co70)) (fun _ hk => hk.2) (.slice Ao72 y1079.length co72)) (fun _ hk => hk.1.1.2)⟩, ⟨by (with_reducible repeat (first | apply Kd.R_alloc | apply Kd.R_drewN | apply Kd.R_drew)); exact Kd.R_mono (Kd.R_far (p := ⟨gb1045, 0, none⟩) (Kd.R_far (p := ⟨gb1044, 0, none⟩) (Kd.R_types (Kd.R_types HO1081.out BK1044.out (by decide)) BK1045.out (by decide)) (fun _ hk => hk.1.2) (.slice Ao70 y1073.length co70)) (fun _ hk => hk.2) (.slice Ao72 y1079.length co72)) (fun _ hk => hk.1.1.2.1)⟩, ⟨Zg2 BK1043.out NB1043_1045.out NB1043_1044.out⟩, ⟨by (with_reducible repeat (first | refine Qac ?_ _ | refine Qad ?_ | refine Qab ?_ _)); refine Qas ?_ NB1044_1045.out _; (with_reducible repeat (first | refine Qac ?_ _ | refine Qad ?_ | refine Qab ?_ _)); refine Qav (cs := #[.slice Ao58 x1045000_1.length co58]) ?_ 0 _ rfl; (with_reducible repeat (first | refine Qac ?_ _ | refine Qad ?_ | refine Qab ?_ _)); exact BK1044.out⟩, ⟨by (with_reducible repeat (first | refine Qac ?_ _ | refine Qad ?_ | refine Qab ?_ _)); refine Qav (cs := #[.slice Ao59 x1046000_1.length co59]) ?_ 0 _ rfl; (with_reducible repeat (first | refine Qac ?_ _ | refine Qad ?_ | refine Qab ?_ _)); refine Qas ?_ NB1045_1044.out _; (with_reducible repeat (first | refine Qac ?_ _ | refine Qad ?_ | refine Qab ?_ _)); exact BK1045.out⟩, ⟨Zg2 BK1046.out NB1046_1045.out NB1046_1044.out⟩, ⟨Zc7 GE1043.out GE1044.out GE1045.out GE1046.out GE1058.out GE1066.out GE1069.out⟩⟩
         rw [if_neg c50] at H
         exact absurd H (by simp)
        rw [if_neg c49] at H
        exact absurd H (by simp)
       rw [if_neg c48] at H
       have c48b0 : (t1068 == 0) = F := beq_eq_false_iff_ne.mpr c48
       have c48b1 : (t1068 != 0) = T := bne_iff_ne.mpr c48
       (try simp only [c48b0, c48b1])
       go_upto_region 3 with (fail)
       simp only [Option.some.injEq, Prod.mk.injEq] at H
       obtain ⟨rfl, rfl⟩ := H
       have hnb74 := NB1044_1043.out
       have hnc74 := NB1043_1044.out
       have hnb75 := NB1044_1045.out
       have hnc75 := NB1045_1044.out
       have hnb76 := NB1044_1046.out
       have hnc76 := NB1046_1044.out
       have hnb77 := NB1044_1058.out
       have hnc77 := NB1058_1044.out
       have hnb78 := NB1044_1066.out
       have hnc78 := NB1066_1044.out
       obtain ⟨hcz79_0, hfz79_0⟩ := Zy (v := (u1045000)) BK1044.out 0
       go_wp2
       refine bodyPost_ret (Qci rfl _ _ gb1044 32 (.slice none 0 0) (0, 0) _ rfl (Zp2 BK1044.out) Try.underlying32 rfl (by kernel_rfl)) rfl ?_
       exact ⟨_, Zq, by first | exact Kd.R_nil _ _ _ _ _ | exact Kd.N_nil _ _ _ _ _ | exact Kd.V_nil _ _ _ _ _ | exact Kd.Q_nil _ _ _ _ _ | exact Kd.S_nil _ _ _ _ _, Zc6 GE1043.out GE1044.out GE1045.out GE1046.out GE1058.out GE1066.out⟩
      rw [if_neg c29] at H
      exact absurd H (by simp)
     rw [if_neg c28] at H
     exact absurd H (by simp)
    rw [if_neg c27] at H
    have c27b0 : decide (x334_1 < (t1049.length : Int)) = F := decide_eq_false c27
    clear c27
    (try simp only [c27b0])
    go_upto_region 3 with (fail)
    have HC80 := Aside0.mk H
    clear H
    go_upto_region 5 with (fail)
    go_cut [30] (fun v30 wc => ∃ (kq : Nat) (x30_79 : Bool), v30 = .bool x30_79 ∧ Aside0 (Qaw.j1 kq a2 x30_79 x1045000_1 x1046000_1 = some (r1, r2)) ∧ Aside0 (kq ≤ k1) ∧ Aside0 (Kd.R (Kd.int .i64) 3 wc w.heap.size (fun k_ => some k_ ≠ (u1046000 : Value).ownBlock) u1045000 x1045000_1) ∧ Aside0 (Kd.R (Kd.int .i64) 3 wc w.heap.size (fun k_ => some k_ ≠ (u1045000 : Value).ownBlock) u1046000 x1046000_1) ∧ Aside0 (wc.heap[gb1043]? = some (.cells #[.string a1_0, .string a1_1] 81 (0, 0))) ∧ Aside0 (wc.heap[gb1044]? = some (.cells #[u1045000] 32 (0, 0))) ∧ Aside0 (wc.heap[gb1045]? = some (.cells #[u1046000] 32 (0, 0))) ∧ Aside0 (wc.heap[gb1046]? = some (.cells #[.string a1_0, .string a1_1] 81 (0, 0))) ∧ Aside0 (Below w.heap.size w wc))
    case first =>
     have H := HC80.out
     clear HC80
     by_cases c81 : a2 < 0
     ·rw [if_pos c81] at H
      have c81b0 : decide (a2 < 0) = T := decide_eq_true c81
      clear c81
      have H' := Aside0.mk H
      clear H
      go_wp2
      go_meet
      case rel => exact ⟨_, (T), (Zs), H', ⟨by have := HK1.out; first | omega | exact Nat.le_refl _⟩, ⟨Zr HO_1045000.out⟩, ⟨Zr HO_1046000.out⟩, ⟨Zu BK1043.out⟩, ⟨Zu BK1044.out⟩, ⟨Zu BK1045.out⟩, ⟨Zu BK1046.out⟩, ⟨Zc4 GE1043.out GE1044.out GE1045.out GE1046.out⟩⟩
     rw [if_neg c81] at H
     have c81b0 : decide (a2 < 0) = F := decide_eq_false c81
     clear c81
     have H' := Aside0.mk H
     clear H
     go_wp2
     go_meet
     case rel => exact ⟨_, (decide (a2 > 1152921504606846976)), (Zs), H', ⟨by have := HK1.out; first | omega | exact Nat.le_refl _⟩, ⟨Zr HO_1045000.out⟩, ⟨Zr HO_1046000.out⟩, ⟨Zu BK1043.out⟩, ⟨Zu BK1044.out⟩, ⟨Zu BK1045.out⟩, ⟨Zu BK1046.out⟩, ⟨Zc4 GE1043.out GE1044.out GE1045.out GE1046.out⟩⟩
    case rest =>
     clear HC80
     try clear c2
     try clear p2
     try clear c4
     try clear c5
     try clear p6
     try clear c7
     try clear c8
     try clear c27
     try clear c27b0
     try clear c28
     try clear c29
     try clear c48
     try clear c48b0
     try clear c48b1
     try clear c49
     try clear c50
     try clear p64
     try clear c74
     try clear c75
     try clear c76
     try clear c77
     try clear c78
     try clear c81
     try clear c81b0
     try clear hcz79_0
     try clear hfz79_0
     obtain ⟨kq, x30_79, rfl, HA, HJ79, HO_1045000, HO_1046000, BK1043, BK1044, BK1045, BK1046, HB⟩ := hcut
     cases kq with
     | zero => exact absurd HA.out (by simp [Qaw.j1])
     | succ kj79 =>
      have H := HA.out
      clear HA
      simp only [Qaw.j1] at H
      by_cases c82 : x30_79 = T
      ·subst c82
       have H1 : (some (([] : List Int), 2)) = some (r1, r2) := by rw [if_pos rfl] at H; exact H
       clear H
       have H := H1
       clear H1
       simp only [Option.some.injEq, Prod.mk.injEq] at H
       obtain ⟨rfl, rfl⟩ := H
       have hnb83 := NB1044_1043.out
       have hnc83 := NB1043_1044.out
       have hnb84 := NB1044_1045.out
       have hnc84 := NB1045_1044.out
       have hnb85 := NB1044_1046.out
       have hnc85 := NB1046_1044.out
       obtain ⟨hcz86_0, hfz86_0⟩ := Zy (v := (u1045000)) BK1044.out 0
       go_wp2
       refine bodyPost_ret (Qci rfl _ _ gb1044 32 (.slice none 0 0) (0, 0) _ rfl (Zp2 BK1044.out) Try.underlying32 rfl (by kernel_rfl)) rfl ?_
       exact ⟨_, Zq, by first | exact Kd.R_nil _ _ _ _ _ | exact Kd.N_nil _ _ _ _ _ | exact Kd.V_nil _ _ _ _ _ | exact Kd.Q_nil _ _ _ _ _ | exact Kd.S_nil _ _ _ _ _, Zc4 GE1043.out GE1044.out GE1045.out GE1046.out⟩
      replace c82 := Bool.eq_false_iff.mpr c82
      subst c82
      have H1 : (Qaw.l0 kj79 a2 (x1045000_1.length : Int) 0 x1045000_1 x1046000_1) = some (r1, r2) := by rw [if_neg (show ¬ (F = T) by decide)] at H; exact H
      clear H
      have H := H1
      clear H1
      have H' := Aside0.mk H
      clear H
      have hnb87 := NB1044_1043.out
      have hnc87 := NB1043_1044.out
      have hnb88 := NB1044_1045.out
      have hnc88 := NB1045_1044.out
      have hnb89 := NB1044_1046.out
      have hnc89 := NB1046_1044.out
      obtain ⟨hcz90_0, hfz90_0⟩ := Zy (v := (u1045000)) BK1044.out 0
      obtain ⟨Ao91, co91, eo91⟩ := Kd.R_slice HO_1045000.out
      subst eo91
      go_wp2
      go_loopg [33] kj79 (fun kq v33 w' => ∃ (x33_3 : Int) (x1045000_3 : List Int) (x1046000_3 : List Int) (u1045000 : Value) (u1046000 : Value), v33 = .int .i64 x33_3 ∧ Aside0 (Qaw.l0 kq a2 (x1045000_1.length : Int) x33_3 x1045000_3 x1046000_3 = some (r1, r2)) ∧ Aside0 (kq ≤ kj79) ∧ Aside0 (Kd.R (Kd.int .i64) 3 w' w.heap.size (fun k_ => some k_ ≠ (u1046000 : Value).ownBlock) u1045000 x1045000_3) ∧ Aside0 (Kd.R (Kd.int .i64) 3 w' w.heap.size (fun k_ => some k_ ≠ (u1045000 : Value).ownBlock) u1046000 x1046000_3) ∧ Aside0 (w'.heap[gb1043]? = some (.cells #[.string a1_0, .string a1_1] 81 (0, 0))) ∧ Aside0 (w'.heap[gb1044]? = some (.cells #[u1045000] 32 (0, 0))) ∧ Aside0 (w'.heap[gb1045]? = some (.cells #[u1046000] 32 (0, 0))) ∧ Aside0 (w'.heap[gb1046]? = some (.cells #[.string a1_0, .string a1_1] 81 (0, 0))) ∧ Aside0 (Below w.heap.size w w'))
      case atStart => exact ⟨(0), (x1045000_1), (x1046000_1), (.slice Ao91 x1045000_1.length co91), (u1046000), (Zs), H', ⟨Nat.le_refl _⟩, ⟨Zr HO_1045000.out⟩, ⟨Zr HO_1046000.out⟩, ⟨Zu BK1043.out⟩, ⟨Zu BK1044.out⟩, ⟨Zu BK1045.out⟩, ⟨Zu BK1046.out⟩, ⟨Zc4 GE1043.out GE1044.out GE1045.out GE1046.out⟩⟩
      case round =>
       clear H'
       try clear c2
       try clear p2
       try clear c4
       try clear c5
       try clear p6
       try clear c7
       try clear c8
       try clear c27
       try clear c27b0
       try clear c28
       try clear c29
       try clear c48
       try clear c48b0
       try clear c48b1
       try clear c49
       try clear c50
       try clear p64
       try clear c74
       try clear c75
       try clear c76
       try clear c77
       try clear c78
       try clear c81
       try clear c81b0
       try clear c82
       try clear c83
       try clear c84
       try clear c85
       try clear c87
       try clear c88
       try clear c89
       try clear hcz79_0
       try clear hcz86_0
       try clear hcz90_0
       try clear hfz79_0
       try clear hfz86_0
       try clear hfz90_0
       try clear p2
       try clear p6
       try clear p64
       obtain ⟨x33_3, x1045000_3, x1046000_3, u1045000, u1046000, rfl, HA, HK3, HO_1045000, HO_1046000, BK1043, BK1044, BK1045, BK1046, HB⟩ := hrel
       cases gk with
       | zero => exact absurd HA.out (by simp [Qaw.l0])
       | succ k3 =>
        have H := HA.out
        clear HA
        simp only [Qaw.l0] at H
        by_cases c92 : x33_3 < (x1045000_1.length : Int)
        ·rw [if_pos c92] at H
         have c92b0 : decide (x33_3 < (x1045000_1.length : Int)) = T := decide_eq_true c92
         clear c92
         (try simp only [c92b0])
         by_cases c93 : 0 ≤ x33_3
         ·rw [if_pos c93] at H
          have c93b0 : decide (0 ≤ x33_3) = T := decide_eq_true c93
          clear c93
          by_cases c94 : x33_3 < (x1046000_3.length : Int)
          ·rw [if_pos c94] at H
           have c94b0 : decide (x33_3 < (x1046000_3.length : Int)) = T := decide_eq_true c94
           clear c94
           replace H := Option.bind_eq_some_iff.mp H
           obtain ⟨⟨t1053, t1054⟩, A950, H⟩ := H
           replace H : (if t1054 = 0 then (if x33_3 < (x1045000_3.length : Int) then (Qaw.l0 k3 a2 (x1045000_1.length : Int) (wrap64 (x33_3 + 1)) (x1045000_3.set (x33_3 : Int).toNat (mn (rd x1045000_3 x33_3) t1053)) x1046000_3) else (none)) else (some (([] : List Int), t1054))) = some (r1, r2) := H
           have A95 := Aside0.mk A950
           clear A950
           have hnb96 := NB1045_1043.out
           have hnc96 := NB1043_1045.out
           have hnb97 := NB1045_1044.out
           have hnc97 := NB1044_1045.out
           have hnb98 := NB1045_1046.out
           have hnc98 := NB1046_1045.out
           obtain ⟨hcz99_0, hfz99_0⟩ := Zy (v := (u1046000)) BK1045.out 0
           obtain ⟨Ao100, co100, eo100⟩ := Kd.R_slice HO_1046000.out
           subst eo100
           have p1052 : 0 ≤ (x33_3 : Int) := Ze
           have q1052 : x33_3 < (x1046000_3.length : Int) := Ze
           obtain ⟨ad1052, e1052, hx1052_0⟩ := Kd.at_int (Kd.R_reads' HO_1046000.out).2.2 x33_3 p1052 q1052
           cases e1052
           replace p1052 := eq_true p1052
           replace q1052 := eq_true q1052
           go_upto_if 46 with (first | ((with_reducible refine Qay (f := 120) rfl ?_); refine goesL_ (some 42) rfl rfl Try.func120 (by kernel_rfl) rfl #[.int .i64 a2, .int .i64 (rd x1046000_3 x33_3), .int .i64 1000, .int .i64 3] rfl (Zl) ?_; (with_reducible refine (QaU.calls a2 (rd x1046000_3 x33_3) 1000 3 t1053 t1054 _ A95.out).mono ?_); rintro e w101 ⟨rfl, hb⟩; refine ⟨_, rfl, ?_⟩; replace HO_1045000 := Aside0.mk (Kd.R_below (Zr HO_1045000.out) hb); replace HO_1046000 := Aside0.mk (Kd.R_below (Zr HO_1046000.out) hb); replace BK1043 := Aside0.mk (Zi BK1043.out hb); replace BK1044 := Aside0.mk (Zi BK1044.out hb); replace BK1045 := Aside0.mk (Zi BK1045.out hb); replace BK1046 := Aside0.mk (Zi BK1046.out hb); replace HB := Aside0.mk (Qap (Zc4 GE1043.out GE1044.out GE1045.out GE1046.out) hb); (try clear hb); (try clear hb2); (try clear hk); (try clear hi)))
           (try simp only [Act.put, Zj, Zk, Zm])
           by_cases c102 : t1054 = 0
           ·rw [if_pos c102] at H
            have c102b0 : (t1054 == 0) = T := beq_iff_eq.mpr c102
            have c102b1 : (t1054 != 0) = F := bne_eq_false_iff_eq.mpr c102
            clear c102
            (try simp only [c102b0, c102b1])
            by_cases c103 : x33_3 < (x1045000_3.length : Int)
            ·rw [if_pos c103] at H
             have c103b0 : decide (x33_3 < (x1045000_3.length : Int)) = T := decide_eq_true c103
             clear c103
             obtain ⟨ji104, hji104⟩ : ∃ j_ : Int, (mn (rd x1045000_3 x33_3) t1053) = j_ := ⟨_, rfl⟩
             replace H : (Qaw.l0 k3 a2 (x1045000_1.length : Int) (wrap64 (x33_3 + 1)) (x1045000_3.set (x33_3 : Int).toNat (ji104)) x1046000_3) = some (r1, r2) := by first | (rw [hji104] at H; exact H) | (simp only [hji104] at H ⊢; exact H)
             have hji104_ : (if t1053 < (rd x1045000_3 x33_3) then t1053 else (rd x1045000_3 x33_3)) = ji104 := hji104
             obtain ⟨y1056, hy1056⟩ : ∃ y_ : List Int, y_ = (x1045000_3.set (x33_3 : Int).toNat (ji104)) := ⟨_, rfl⟩
             replace H : (Qaw.l0 k3 a2 (x1045000_1.length : Int) (wrap64 (x33_3 + 1)) y1056 x1046000_3) = some (r1, r2) := by first | (rw [hy1056]; with_reducible exact H) | (have H2_ := (Option.bind_some _ _).symm.trans H; rw [hy1056]; with_reducible exact H2_) | (have H2_ := (Option.bind_some _ _).symm.trans H; with_reducible exact H2_) | with_reducible exact H | (rw [hy1056]; exact H) | exact H
             have Ny1056 := Aside0.mk hy1056
             clear hy1056
             have H' := Aside0.mk H
             clear H
             try go_wp2
             replace HO_1045000 := Aside0.mk (Kd.R_drew HO_1045000.out)
             replace HO_1046000 := Aside0.mk (Kd.R_drew HO_1046000.out)
             replace BK1043 := Aside0.mk (Qad BK1043.out)
             replace BK1044 := Aside0.mk (Qad BK1044.out)
             replace BK1045 := Aside0.mk (Qad BK1045.out)
             replace BK1046 := Aside0.mk (Qad BK1046.out)
             replace HB := Aside0.mk (Qai HB.out)
             obtain ⟨Ao107, co107, eo107⟩ := Kd.R_slice HO_1045000.out
             (first | subst eo107 | (injection eo107 with f1_ f2_ f3_; have f4_ := f1_.symm; have f5_ := f3_.symm; clear f1_ f2_ f3_; subst f4_; subst f5_))
             have p1055 : 0 ≤ (x33_3 : Int) := Ze
             have q1055 : x33_3 < (x1045000_3.length : Int) := Ze
             obtain ⟨ad1055, e1055, hx1055_0⟩ := Kd.at_int (Kd.R_reads' HO_1045000.out).2.2 x33_3 p1055 q1055
             cases e1055
             replace p1055 := eq_true p1055
             replace q1055 := eq_true q1055
             have p105 : 0 ≤ (x33_3 : Int) := Ze
             have q105 : (x33_3 : Int) < ((x1045000_3.length : Int) : Int) := Ze
             obtain ⟨go105, co105, eo105, gb105, gl105, cl105, HG105⟩ := Kd.R_form HO_1045000.out (by omega)
             (first | cases eo105 | (injection eo105 with ea_ en_ ec_; (first | subst ea_ | (injection ea_ with ea_; subst ea_)); subst ec_; clear en_))
             have GB105 := Aside0.mk gb105
             have GG105 := Aside0.mk HG105
             clear gb105 gl105 HG105
             (first | simp only [Qc0] at hx1055_0 | skip)
             obtain ⟨hx105_0, hf105_0⟩ := Kd.R_celln 0 HO_1045000.out (x33_3 : Int) p105 q105
             replace p105 := eq_true p105
             replace q105 := eq_true q105
             have HP108 := Kd.R_putn HO_1045000.out (x33_3 : Int) ji104
             rw [← Ny1056.out] at HP108
             have HQ108 := Aside0.mk HP108
             clear HP108
             refine start_ (n := 10) (S := fun w' => w'.cell? ⟨gb1044, 0, none⟩ = some (.slice (some ⟨go105, 0, none⟩) x1045000_3.length co107) ∧ w'.cell? ⟨go105, (x33_3).toNat, none⟩ = some (.int .i64 (rd x1045000_3 x33_3))) (ds := [9]) #[F, F, F, F, F, F, F, F, F, F] (by kernel_rfl) rfl rfl ⟨(Qaf BK1044.out 0).trans rfl, hx1055_0⟩ (fun hHeld => ?_); refine Qcf Qaw.tab13 Qaw.bits13 (fun HT_ HW_ => ?_)
             generalize w101.drew = w106 at HO_1045000 HO_1046000 BK1043 BK1044 BK1045 BK1046 HB GG105 HQ108 hf105_0 hx1055_0 hx105_0 hHeld ⊢
             refine Zsp (i := 1) (N := some 49) #[F, T, F, F, F, F, F, F, F, F] HT_ ?_
             refine Zsp (i := 3) (N := some 51) #[F, T, F, T, F, F, F, F, F, F] HT_ ?_
             refine Zsp (i := 6) (N := some 54) #[F, T, F, T, F, F, T, F, F, F] HT_ ?_
             refine Zst (i := 0) (N := some 48) #[T, T, F, T, F, F, T, F, F, F] HT_ HW_ hHeld ?_ (hy := by (refine Or.inl ⟨by rfl, ?_⟩; rintro w' ⟨s0, s1⟩; go_simp; with_reducible rfl))
             refine Zst (i := 2) (N := some 50) #[T, T, T, T, F, F, T, F, F, F] HT_ HW_ hHeld ?_ (hy := by (refine Or.inl ⟨by rfl, ?_⟩; rintro w' ⟨s0, s1⟩; go_simp; with_reducible rfl))
             refine Zsp (i := 4) (N := some 52) #[T, T, T, T, T, F, T, F, F, F] HT_ ?_
             refine Zst (i := 5) (N := some 53) (pm 10 7) HT_ HW_ hHeld ?_ (hy := by (refine Or.inl ⟨by rfl, ?_⟩; rintro w' ⟨s0, s1⟩; go_simp; with_reducible rfl))
             refine Zsp (i := 7) (N := some 55) (pm 10 8) HT_ ?_
             refine Zsp (i := 8) (N := some 56) (pm 10 9) HT_ ?_
             refine last_ (i := 9) (N := none) #[T, T, T, T, T, T, T, T, T, T] rfl rfl (one_of HT_.out (by kernel_rfl)) (by decide) (fun K hK => ?_)
             refine skip_ (w1 := ?_) (by rfl) rfl ?_ ?_
             rotate_left
             ·go_simp
              rfl
             refine hK.out _ _ ?_
             clear hK K
             refine done_ (Qcu HT_.out (by kernel_rfl)) ?_
             try go_wp2
             go_roundg k3
             case measure => have := HK1.out; have := HJ79.out; have := HK3.out; omega
             case rel => exact ⟨(wrap64 (x33_3 + 1)), (y1056), (x1046000_3), (.slice (some ⟨go105, 0, none⟩) x1045000_3.length co107), (.slice (some ad1052) x1046000_3.length co100), (Zs), H', ⟨by have := HK1.out; have := HJ79.out; have := HK3.out; omega⟩, ⟨by (with_reducible repeat (first | apply Kd.R_alloc | apply Kd.R_drewN | apply Kd.R_drew)); exact HQ108.out⟩, ⟨by (with_reducible repeat (first | apply Kd.R_alloc | apply Kd.R_drewN | apply Kd.R_drew)); exact Kd.R_mono (Kd.R_far (p := ⟨go105, (x33_3 : Int).toNat, none⟩) (Kd.R_mono HO_1046000.out (fun k_ hk => (⟨hk, fun e_ => hk (by rw [e_]; rfl)⟩ : _ ∧ k_ ≠ go105))) (fun _ hk => hk.2) (.int .i64 ji104)) (fun _ hk => hk.1)⟩, ⟨by (with_reducible repeat (first | refine Qac ?_ _ | refine Qad ?_ | refine Qab ?_ _)); refine Qas ?_ (by have h_ := Kd.R_ne HO_1045000.out BK1043.out (by decide); intro e_; exact h_ (by rw [e_]; rfl)) _; (with_reducible repeat (first | refine Qac ?_ _ | refine Qad ?_ | refine Qab ?_ _)); exact BK1043.out⟩, ⟨by (with_reducible repeat (first | refine Qac ?_ _ | refine Qad ?_ | refine Qab ?_ _)); refine Qas ?_ (by have h_ := Kd.R_ne HO_1045000.out BK1044.out (by decide); intro e_; exact h_ (by rw [e_]; rfl)) _; (with_reducible repeat (first | refine Qac ?_ _ | refine Qad ?_ | refine Qab ?_ _)); exact BK1044.out⟩, ⟨by (with_reducible repeat (first | refine Qac ?_ _ | refine Qad ?_ | refine Qab ?_ _)); refine Qas ?_ (by have h_ := Kd.R_ne HO_1045000.out BK1045.out (by decide); intro e_; exact h_ (by rw [e_]; rfl)) _; (with_reducible repeat (first | refine Qac ?_ _ | refine Qad ?_ | refine Qab ?_ _)); exact BK1045.out⟩, ⟨by (with_reducible repeat (first | refine Qac ?_ _ | refine Qad ?_ | refine Qab ?_ _)); refine Qas ?_ (by have h_ := Kd.R_ne HO_1045000.out BK1046.out (by decide); intro e_; exact h_ (by rw [e_]; rfl)) _; (with_reducible repeat (first | refine Qac ?_ _ | refine Qad ?_ | refine Qab ?_ _)); exact BK1046.out⟩, ⟨by repeat (first | (with_reducible first | exact HB.out | apply Qag | apply Qaa | apply Qai | refine Qae ?_ GB105.out | refine Qae ?_ GE1043.out | refine Qae ?_ GE1044.out | refine Qae ?_ GE1045.out | refine Qae ?_ GE1046.out) | exact HB.out)⟩⟩
            rw [if_neg c103] at H
            exact absurd H (by simp)
           rw [if_neg c102] at H
           have c102b0 : (t1054 == 0) = F := beq_eq_false_iff_ne.mpr c102
           have c102b1 : (t1054 != 0) = T := bne_iff_ne.mpr c102
           (try simp only [c102b0, c102b1])
           simp only [Option.some.injEq, Prod.mk.injEq] at H
           obtain ⟨rfl, rfl⟩ := H
           have hnb109 := NB1044_1043.out
           have hnc109 := NB1043_1044.out
           have hnb110 := NB1044_1045.out
           have hnc110 := NB1045_1044.out
           have hnb111 := NB1044_1046.out
           have hnc111 := NB1046_1044.out
           obtain ⟨hcz112_0, hfz112_0⟩ := Zy (v := (u1045000)) BK1044.out 0
           go_wp2
           refine bodyPost_ret (Qci rfl _ _ gb1044 32 (.slice none 0 0) (0, 0) _ rfl (Zp2 BK1044.out) Try.underlying32 rfl (by kernel_rfl)) rfl ?_
           exact ⟨_, Zq, by first | exact Kd.R_nil _ _ _ _ _ | exact Kd.N_nil _ _ _ _ _ | exact Kd.V_nil _ _ _ _ _ | exact Kd.Q_nil _ _ _ _ _ | exact Kd.S_nil _ _ _ _ _, Zc4 GE1043.out GE1044.out GE1045.out GE1046.out⟩
          rw [if_neg c94] at H
          exact absurd H (by simp)
         rw [if_neg c93] at H
         exact absurd H (by simp)
        rw [if_neg c92] at H
        have c92b0 : decide (x33_3 < (x1045000_1.length : Int)) = F := decide_eq_false c92
        clear c92
        (try simp only [c92b0])
        simp only [Option.some.injEq, Prod.mk.injEq] at H
        obtain ⟨rfl, rfl⟩ := H
        have hnb113 := NB1044_1043.out
        have hnc113 := NB1043_1044.out
        have hnb114 := NB1044_1045.out
        have hnc114 := NB1045_1044.out
        have hnb115 := NB1044_1046.out
        have hnc115 := NB1046_1044.out
        obtain ⟨hcz116_0, hfz116_0⟩ := Zy (v := (u1045000)) BK1044.out 0
        obtain ⟨Ao117, co117, eo117⟩ := Kd.R_slice HO_1045000.out
        subst eo117
        go_wp2
        refine bodyPost_ret (Qci rfl _ _ gb1044 32 (.slice Ao117 x1045000_3.length co117) (0, 0) _ rfl (Zp2 BK1044.out) Try.underlying32 rfl (by kernel_rfl)) rfl ?_
        exact ⟨_, Zq, by (with_reducible repeat (first | apply Kd.R_alloc | apply Kd.R_drewN | apply Kd.R_drew)); exact Kd.R_mono (Kd.R_far (p := ⟨gb1044, 0, none⟩) (Kd.R_types HO_1045000.out BK1044.out (by decide)) (fun _ hk => hk.2) (.slice Ao117 x1045000_3.length co117)) (fun _ hk => trivial), Zc4 GE1043.out GE1044.out GE1045.out GE1046.out⟩
 rw [if_neg c19] at H
 have c19b0 : (t1048 == 0) = F := beq_eq_false_iff_ne.mpr c19
 have c19b1 : (t1048 != 0) = T := bne_iff_ne.mpr c19
 (try simp only [c19b0, c19b1])
 go_upto_region 4 with (fail)
 simp only [Option.some.injEq, Prod.mk.injEq] at H
 obtain ⟨rfl, rfl⟩ := H
 have hnb118 := NB1044_1043.out
 have hnc118 := NB1043_1044.out
 have hnb119 := NB1044_1045.out
 have hnc119 := NB1045_1044.out
 have hnb120 := NB1044_1046.out
 have hnc120 := NB1046_1044.out
 obtain ⟨hcz121_0, hfz121_0⟩ := Zy (v := (.slice none 0 0)) BK1044.out 0
 go_wp2
 refine bodyPost_ret (Qci rfl _ _ gb1044 32 (.slice none 0 0) (0, 0) _ rfl (Zp2 BK1044.out) Try.underlying32 rfl (by kernel_rfl)) rfl ?_
 exact ⟨_, Zq, by first | exact Kd.R_nil _ _ _ _ _ | exact Kd.N_nil _ _ _ _ _ | exact Kd.V_nil _ _ _ _ _ | exact Kd.Q_nil _ _ _ _ _ | exact Kd.S_nil _ _ _ _ _, Zc4 GE1043.out GE1044.out GE1045.out GE1046.out⟩
def Qbx.f (k : Nat) (l0 : List (S346)) (a1_0 : ByteArray) (a1_1 : ByteArray) (a2 : Int) (l3 : List (S112)) (l4 : List (S279)) : Option (Int × Int) := (Qaw.f k l0 a1_0 a1_1 a2 l3 l4).bind fun bt1083 => (if bt1083.2 = 0 then ((Qa1.f k bt1083.1).bind fun bt1087 => (some (bt1087.1, bt1087.2))) else (some (0, bt1083.2)))
theorem Qbx.mono : ∀ a0 a1 a2 a3 a4 a5 k, LeO (Qbx.f k a0 a1 a2 a3 a4 a5) (Qbx.f (k + 1) a0 a1 a2 a3 a4 a5) := by
 intro a0 a1 a2 a3 a4 a5 k
 unfold Qbx.f
 exact ZM2 Qa1.mono Qaw.mono
theorem Qbx.calls (k : Nat) (A0 : Option Addr) (c0 : Nat) (l0 : List (S346)) (a1_0 : ByteArray) (a1_1 : ByteArray) (a2 : Int) (A3 : Option Addr) (c3 : Nat) (l3 : List (S112)) (A4 : Option Addr) (c4 : Nat) (l4 : List (S279)) (r1 : Int) (r2 : Int) (w : World) (hr0 : Kd.C k346 w A0 l0.length l0) (hc0 : l0.length ≤ c0) (hr3 : Kd.C k112 w A3 l3.length l3) (hc3 : l3.length ≤ c3) (hr4 : Kd.C k279 w A4 l4.length l4) (hc4 : l4.length ≤ c4) (h : Qbx.f k l0 a1_0 a1_1 a2 l3 l4 = some (r1, r2)) :
  Calls Try.prog 179 #[.slice A0 l0.length c0, .agg #[.string a1_0, .string a1_1], .int .i64 a2, .slice A3 l3.length c3, .slice A4 l4.length c4] w fun e w' => e = .returned (.tuple #[.int .i64 r1, .int .i64 r2]) ∧ Below w.heap.size w w' := by
 have hu81 := Try.underlying81
 have HR0 := Aside0.mk hr0
 have HC0 := Aside0.mk hc0
 clear hr0 hc0
 have HR3 := Aside0.mk hr3
 have HC3 := Aside0.mk hc3
 clear hr3 hc3
 have HR4 := Aside0.mk hr4
 have HC4 := Aside0.mk hc4
 clear hr4 hc4
 have HB := Aside0.mk (Below.refl w.heap.size w)
 have H : ((Qaw.f k l0 a1_0 a1_1 a2 l3 l4).bind fun bt1083 => (if bt1083.2 = 0 then ((Qa1.f k bt1083.1).bind fun bt1087 => (some (bt1087.1, bt1087.2))) else (some (0, bt1083.2)))) = some (r1, r2) := h
 clear h
 replace H := Option.bind_eq_some_iff.mp H
 obtain ⟨⟨t1083, t1086⟩, A60, H⟩ := H
 replace H : (if t1086 = 0 then ((Qa1.f k t1083).bind fun bt1087 => (some (bt1087.1, bt1087.2))) else (some (0, t1086))) = some (r1, r2) := H
 have A6 := Aside0.mk A60
 clear A60
 go_enter Try.func179, Try.ntmps179
 go_upto_if 23 with (first | ((with_reducible refine QaT (N := 6) rfl ?_); refine Zbx (N := 6) (cs := #[.string a1_0, .string a1_1]) (t := 81) ?_; intro gb1082 hg w7 hbox hb; have BK1082 := Aside0.mk (hbox); have GW1082 := Aside0.mk (Zt w hg (Zb)); have GE1082 := GW1082; replace HB := Aside0.mk (Qap (Zb) hb); clear hb hbox hg; obtain ⟨hcz8_0, hfz8_0⟩ := Zy (v := (.string a1_0)) BK1082.out 0; obtain ⟨hcz8_1, hfz8_1⟩ := Zy (v := (.string a1_1)) BK1082.out 1) | ((with_reducible refine Qay (f := 217) rfl ?_); refine goesL_ (some 19) rfl rfl Try.func217 (by kernel_rfl) rfl #[.slice A0 l0.length c0, .agg #[.string a1_0, .string a1_1], .int .i64 a2, .slice A3 l3.length c3, .slice A4 l4.length c4] rfl (Zl) ?_; (with_reducible refine (Qaw.calls k _ _ l0 a1_0 a1_1 a2 _ _ l3 _ _ l4 t1083 t1086 _ ?side1 ?side2 ?side3 ?side4 ?side5 ?side6 A6.out).mono ?_); (case side1 => exact Zv (Kd.C_below HR0.out HB.out)); (case side2 => exact HC0.out); (case side3 => exact Zv (Kd.C_below HR3.out HB.out)); (case side4 => exact HC3.out); (case side5 => exact Zv (Kd.C_below HR4.out HB.out)); (case side6 => exact HC4.out); rintro e w9 ⟨v1084, rfl, ho0, hb⟩; refine ⟨_, rfl, ?_⟩; have HO1085 := Aside0.mk (Kd.R_lower ho0 (Qar (Zc1 GE1082.out))); replace BK1082 := Aside0.mk (Zi BK1082.out hb); replace HB := Aside0.mk (Qap (Zc1 GE1082.out) hb); (try clear hb); (try clear hb2); (try clear hk); (try clear hi); (try clear ho0)))
 (try simp only [Act.put, Zj, Zk, Zm])
 by_cases c10 : t1086 = 0
 ·rw [if_pos c10] at H
  have c10b0 : (t1086 == 0) = T := beq_iff_eq.mpr c10
  have c10b1 : (t1086 != 0) = F := bne_eq_false_iff_eq.mpr c10
  clear c10
  (try simp only [c10b0, c10b1])
  replace H := Option.bind_eq_some_iff.mp H
  obtain ⟨⟨t1087, t1088⟩, A110, H⟩ := H
  replace H : (some (t1087, t1088)) = some (r1, r2) := H
  have A11 := Aside0.mk A110
  clear A110
  simp only [Option.some.injEq, Prod.mk.injEq] at H
  obtain ⟨rfl, rfl⟩ := H
  obtain ⟨Ao12, co12, eo12⟩ := Kd.R_slice HO1085.out
  subst eo12
  go_wp2_with (first | ((with_reducible refine Qay (f := 56) rfl ?_); refine goesL_ (some 26) rfl rfl Try.func56 (by kernel_rfl) rfl #[.slice Ao12 t1083.length co12] rfl (Zl) ?_; (with_reducible refine (Qa1.calls k _ _ t1083 t1087 t1088 _ ?side1 ?side2 A11.out).mono ?_); (case side1 => exact Zv (Kd.R_reads' HO1085.out).2.2); (case side2 => exact (Kd.R_reads' HO1085.out).2.1); rintro e w' ⟨rfl, ⟨nd, rfl⟩⟩; refine ⟨_, rfl, ?_⟩))
  go_ret2
  exact ⟨Zq, Zc1 GE1082.out⟩
 rw [if_neg c10] at H
 have c10b0 : (t1086 == 0) = F := beq_eq_false_iff_ne.mpr c10
 have c10b1 : (t1086 != 0) = T := bne_iff_ne.mpr c10
 (try simp only [c10b0, c10b1])
 simp only [Option.some.injEq, Prod.mk.injEq] at H
 obtain ⟨rfl, rfl⟩ := H
 go_wp2
 go_ret2
 exact ⟨Zq, Zc1 GE1082.out⟩
end Go.Proofs.Ytgnmhfjfefgbfaa.Pr
