/- Functions' values and contracts, as the print wrote them. -/
import Derived.Test.YtgnmhfjfefgbfaaQ3D7P0
import Derived.Test.YtgnmhfjfefgbfaaQ3D7P7
import Derived.Test.YtgnmhfjfefgbfaaQ3D7P4
namespace Go.Proofs.Ytgnmhfjfefgbfaa.Pr
open Go.RowKit Go.Proofs.YtgnmhfjfefgbfaaW.PrintWords Go.Proofs.YtgnmhfjfefgbfaaW.PrintLast Go.Proofs.YtgnmhfjfefgbfaaW.PrintMore
attribute [local go_sem] QaN QaP QaW QaX QaH QaI QaO QaQ   -- for this text's walks alone
set_option linter.unusedVariables false
set_option linter.unusedSimpArgs false
set_option maxRecDepth 100000
set_option maxHeartbeats 8000000
def Qbf.l0 : Nat → List (S108) → List (S101) → Int → Int → List (S346) → List (S112) → List (S279) → Option ((List (S108)) × Int)
 | 0, _, _, _, _, _, _, _ => none
 | k + 1, x11, x21, x22, x23, x1093000, x1094000, x1095000 => if x23 < x22 then (if 0 ≤ x23 then (if x23 < (x21.length : Int) then ((Qbz.f ((Qao x21 x23).f7)).bind fun t1097 => (if t1097 = true then ((Qbx.f k x1093000 ((Qao x21 x23).f0.f0) ((Qao x21 x23).f0.f1) ((Qao x21 x23).f7) x1094000 x1095000).bind fun bt1099 => (if bt1099.2 = 0 then ((QbS.f ((Qao x21 x23).f7) bt1099.1).bind fun bt1101 => (if bt1101.2 = 0 then (if x11.length < 2513169434916 then (Qbf.l0 k (x11 ++ [(⟨(⟨(Qao x21 x23).f0.f0, (Qao x21 x23).f0.f1⟩ : S81), (Qao x21 x23).f7, bt1099.1, bt1101.1⟩ : S108)]) x21 x22 (wrap64 (x23 + 1)) x1093000 x1094000 x1095000) else (none)) else (some (([] : List (S108)), bt1101.2)))) else (some (([] : List (S108)), bt1099.2)))) else (some (([] : List (S108)), 2)))) else (none)) else (none)) else (some (x11, 0))
def Qbf.f (k : Nat) (l0 : List (S101)) (l1 : List (S346)) (l2 : List (S112)) (l3 : List (S279)) : Option ((List (S108)) × Int) := if (l0.length : Int) > 1024 then (some (([] : List (S108)), 8)) else (Qbf.l0 k ([] : List (S108)) l0 (l0.length : Int) 0 l1 l2 l3)
theorem Qbf.mono_l : ∀ k, (∀ y0 y1 y2 y3 y4 y5 y6, LeO (Qbf.l0 k y0 y1 y2 y3 y4 y5 y6) (Qbf.l0 (k + 1) y0 y1 y2 y3 y4 y5 y6))
 | 0 => fun _ _ _ _ _ _ _ r h => by simp [Qbf.l0] at h
 | k + 1 => by
  have ih0 := Qbf.mono_l k
  intro y0 y1 y2 y3 y4 y5 y6
  unfold Qbf.l0
  exact ZM2 ih0 Qbx.mono
theorem Qbf.mono : ∀ a0 a1 a2 a3 k, LeO (Qbf.f k a0 a1 a2 a3) (Qbf.f (k + 1) a0 a1 a2 a3) := by
 intro a0 a1 a2 a3 k
 have ih0 := Qbf.mono_l k
 unfold Qbf.f
 exact ZM2 ih0 Qbx.mono
theorem Qbf.calls (k : Nat) (A0 : Option Addr) (c0 : Nat) (l0 : List (S101)) (A1 : Option Addr) (c1 : Nat) (l1 : List (S346)) (A2 : Option Addr) (c2 : Nat) (l2 : List (S112)) (A3 : Option Addr) (c3 : Nat) (l3 : List (S279)) (r1 : List (S108)) (r2 : Int) (w : World) (hr0 : Kd.C k101 w A0 l0.length l0) (hc0 : l0.length ≤ c0) (hr1 : Kd.C k346 w A1 l1.length l1) (hc1 : l1.length ≤ c1) (hr2 : Kd.C k112 w A2 l2.length l2) (hc2 : l2.length ≤ c2) (hr3 : Kd.C k279 w A3 l3.length l3) (hc3 : l3.length ≤ c3) (h : Qbf.f k l0 l1 l2 l3 = some (r1, r2)) :
  Calls Try.prog 108 #[.slice A0 l0.length c0, .slice A1 l1.length c1, .slice A2 l2.length c2, .slice A3 l3.length c3] w fun e w' => ∃ v0_ : Value, e = .returned (.tuple #[v0_, .int .i64 r2]) ∧ Kd.R k108 108 w' w.heap.size (fun _ => True) v0_ r1 ∧ Below w.heap.size w w' := by
 have hu101 := Try.underlying101
 have hu81 := Try.underlying81
 have hu108 := Try.underlying108
 have HR0 := Aside0.mk hr0
 have HC0 := Aside0.mk hc0
 clear hr0 hc0
 have HR1 := Aside0.mk hr1
 have HC1 := Aside0.mk hc1
 clear hr1 hc1
 have HR2 := Aside0.mk hr2
 have HC2 := Aside0.mk hc2
 clear hr2 hc2
 have HR3 := Aside0.mk hr3
 have HC3 := Aside0.mk hc3
 clear hr3 hc3
 have HB := Aside0.mk (Below.refl w.heap.size w)
 have H : (if (l0.length : Int) > 1024 then (some (([] : List (S108)), 8)) else (Qbf.l0 k ([] : List (S108)) l0 (l0.length : Int) 0 l1 l2 l3)) = some (r1, r2) := h
 clear h
 go_enter Try.func108, Try.ntmps108
 go_upto_if 19 with (first | ((with_reducible refine QaT (N := 5) rfl ?_); (refine gate_n (n := 65) rfl ?_); refine Zbx (N := 5) (cs := #[.slice A1 l1.length c1]) (t := 102) ?_; intro gb1092 hg w5 hbox hb; have BK1092 := Aside0.mk (hbox); have GW1092 := Aside0.mk (Zt w hg (Zb)); have GE1092 := GW1092; replace HB := Aside0.mk (Qap (Zb) hb); clear hb hbox hg) | ((with_reducible refine QaT (N := 6) rfl ?_); (refine gate_n (n := 65) rfl ?_); refine Zbx (N := 6) (cs := #[.slice A2 l2.length c2]) (t := 103) ?_; intro gb1093 hg w6 hbox hb; have BK1093 := Aside0.mk (hbox); have GW1093 := Aside0.mk (Zt w hg (Zc1 GE1092.out)); have GE1093 := GW1093; have NB1092_1093 := Aside0.mk (Zn hg BK1092.out); have NB1093_1092 := Aside0.mk NB1092_1093.out.symm; replace BK1092 := Aside0.mk (Zi BK1092.out hb); replace HB := Aside0.mk (Qap (Zc1 GE1092.out) hb); clear hb hbox hg) | ((with_reducible refine QaT (N := 7) rfl ?_); (refine gate_n (n := 65) rfl ?_); refine Zbx (N := 7) (cs := #[.slice A3 l3.length c3]) (t := 104) ?_; intro gb1094 hg w7 hbox hb; have BK1094 := Aside0.mk (hbox); have GW1094 := Aside0.mk (Zt w hg (Zc2 GE1092.out GE1093.out)); have GE1094 := GW1094; have NB1092_1094 := Aside0.mk (Zn hg BK1092.out); have NB1094_1092 := Aside0.mk NB1092_1094.out.symm; have NB1093_1094 := Aside0.mk (Zn hg BK1093.out); have NB1094_1093 := Aside0.mk NB1093_1094.out.symm; replace BK1092 := Aside0.mk (Zi BK1092.out hb); replace BK1093 := Aside0.mk (Zi BK1093.out hb); replace HB := Aside0.mk (Qap (Zc2 GE1092.out GE1093.out) hb); clear hb hbox hg))
 (try simp only [Act.put, Zj, Zk, Zm])
 by_cases c8 : (l0.length : Int) > 1024
 ·rw [if_pos c8] at H
  have c8b0 : decide (1024 < (l0.length : Int)) = true := decide_eq_true c8
  have c8b1 : decide (1024 < l0.length) = true := decide_eq_true (by omega)
  clear c8
  (try simp only [c8b0, c8b1])
  simp only [Option.some.injEq, Prod.mk.injEq] at H
  obtain ⟨rfl, rfl⟩ := H
  go_wp2
  go_ret2
  exact ⟨_, Zq, by first | exact Kd.R_nil _ _ _ _ _ | exact Kd.N_nil _ _ _ _ _ | exact Kd.V_nil _ _ _ _ _ | exact Kd.Q_nil _ _ _ _ _ | exact Kd.S_nil _ _ _ _ _, Zc3 GE1092.out GE1093.out GE1094.out⟩
 rw [if_neg c8] at H
 have c8b0 : decide (1024 < (l0.length : Int)) = false := decide_eq_false c8
 have c8b1 : decide (1024 < l0.length) = false := decide_eq_false (by omega)
 clear c8
 (try simp only [c8b0, c8b1])
 have H' := Aside0.mk H
 clear H
 go_wp2
 go_loopg [11, 23] k (fun kq v11 v23 w' => ∃ (x11_1 : List (S108)) (x23_1 : Int), v23 = .int .i64 x23_1 ∧ Aside0 (Qbf.l0 kq x11_1 l0 (l0.length : Int) x23_1 l1 l2 l3 = some (r1, r2)) ∧ Aside0 (kq ≤ k) ∧ Aside0 (Kd.R k108 108 w' w.heap.size (fun _ => True) v11 x11_1) ∧ Aside0 (w'.heap[gb1092]? = some (.cells #[(.slice A1 l1.length c1)] 102 (0, 0))) ∧ Aside0 (w'.heap[gb1093]? = some (.cells #[(.slice A2 l2.length c2)] 103 (0, 0))) ∧ Aside0 (w'.heap[gb1094]? = some (.cells #[(.slice A3 l3.length c3)] 104 (0, 0))) ∧ Aside0 (Below w.heap.size w w'))
 case atStart => exact ⟨(([] : List (S108))), (0), (Zs), H', ⟨Nat.le_refl _⟩, ⟨by first | exact Kd.R_nil _ _ _ _ _ | exact Kd.N_nil _ _ _ _ _ | exact Kd.V_nil _ _ _ _ _ | exact Kd.Q_nil _ _ _ _ _ | exact Kd.S_nil _ _ _ _ _⟩, ⟨Zu BK1092.out⟩, ⟨Zu BK1093.out⟩, ⟨Zu BK1094.out⟩, ⟨Zc3 GE1092.out GE1093.out GE1094.out⟩⟩
 case round =>
  clear H'
  try clear c1
  try clear c2
  try clear p2
  try clear c3
  try clear c8
  try clear c8b0
  try clear c8b1
  obtain ⟨x11_1, x23_1, rfl, HA, HK1, HO_11, BK1092, BK1093, BK1094, HB⟩ := hrel
  cases gk with
  | zero => exact absurd HA.out (by simp [Qbf.l0])
  | succ k1 =>
   have H := HA.out
   clear HA
   simp only [Qbf.l0] at H
   by_cases c9 : x23_1 < (l0.length : Int)
   ·rw [if_pos c9] at H
    have c9b0 : decide (x23_1 < (l0.length : Int)) = true := decide_eq_true c9
    clear c9
    (try simp only [c9b0])
    by_cases c10 : 0 ≤ x23_1
    ·rw [if_pos c10] at H
     have c10b0 : decide (0 ≤ x23_1) = true := decide_eq_true c10
     clear c10
     by_cases c11 : x23_1 < (l0.length : Int)
     ·rw [if_pos c11] at H
      have c11b0 : decide (x23_1 < (l0.length : Int)) = true := decide_eq_true c11
      clear c11
      replace H := Option.bind_eq_some_iff.mp H
      obtain ⟨t1097, A120, H⟩ := H
      replace H : (if t1097 = true then ((Qbx.f k1 l1 ((Qao l0 x23_1).f0.f0) ((Qao l0 x23_1).f0.f1) ((Qao l0 x23_1).f7) l2 l3).bind fun bt1099 => (if bt1099.2 = 0 then ((QbS.f ((Qao l0 x23_1).f7) bt1099.1).bind fun bt1101 => (if bt1101.2 = 0 then (if x11_1.length < 2513169434916 then (Qbf.l0 k1 (x11_1 ++ [(⟨(⟨(Qao l0 x23_1).f0.f0, (Qao l0 x23_1).f0.f1⟩ : S81), (Qao l0 x23_1).f7, bt1099.1, bt1101.1⟩ : S108)]) l0 (l0.length : Int) (wrap64 (x23_1 + 1)) l1 l2 l3) else (none)) else (some (([] : List (S108)), bt1101.2)))) else (some (([] : List (S108)), bt1099.2)))) else (some (([] : List (S108)), 2))) = some (r1, r2) := H
      have A12 := Aside0.mk A120
      clear A120
      have p1095 : 0 ≤ (x23_1 : Int) := Ze
      have q1095 : x23_1 < (l0.length : Int) := Ze
      obtain ⟨ad1095, e1095, hx1095_0, hx1095_1, hx1095_2, hx1095_3, hx1095_4, hx1095_5, hx1095_6, hx1095_7, hx1095_8⟩ := Qf0 HR0.out x23_1 p1095 q1095
      cases e1095
      replace hx1095_0 := Zx HB.out hx1095_0
      replace hx1095_1 := Zx HB.out hx1095_1
      replace hx1095_2 := Zx HB.out hx1095_2
      replace hx1095_3 := Zx HB.out hx1095_3
      replace hx1095_4 := Zx HB.out hx1095_4
      replace hx1095_5 := Zx HB.out hx1095_5
      replace hx1095_6 := Zx HB.out hx1095_6
      replace hx1095_7 := Zx HB.out hx1095_7
      replace hx1095_8 := Zx HB.out hx1095_8
      replace p1095 := eq_true p1095
      replace q1095 := eq_true q1095
      go_upto_if 30 with (first | ((with_reducible refine QaT (N := 13) rfl ?_); (refine gate_n (n := 65) rfl ?_); refine Zbx (N := 13) (cs := #[.string (⟨#[]⟩ : ByteArray), .string (⟨#[]⟩ : ByteArray), .int .i64 0, .int .i64 0, .int .i64 0, .int .i64 0, .int .i64 0, .int .i64 0, .int .i64 0]) (t := 101) ?_; intro gb1096 hg w13 hbox hb; have BK1096 := Aside0.mk (hbox); have GW1096 := Aside0.mk (Zt w hg (Zc3 GE1092.out GE1093.out GE1094.out)); have GE1096 := GW1096; have NB1092_1096 := Aside0.mk (Zn hg BK1092.out); have NB1096_1092 := Aside0.mk NB1092_1096.out.symm; have NB1093_1096 := Aside0.mk (Zn hg BK1093.out); have NB1096_1093 := Aside0.mk NB1093_1096.out.symm; have NB1094_1096 := Aside0.mk (Zn hg BK1094.out); have NB1096_1094 := Aside0.mk NB1094_1096.out.symm; replace HO_11 := Aside0.mk (Kd.R_below (Zr HO_11.out) hb); replace BK1092 := Aside0.mk (Zi BK1092.out hb); replace BK1093 := Aside0.mk (Zi BK1093.out hb); replace BK1094 := Aside0.mk (Zi BK1094.out hb); replace HB := Aside0.mk (Qap (Zc3 GE1092.out GE1093.out GE1094.out) hb); clear hb hbox hg; have hnb14 := NB1096_1092.out; have hnc14 := NB1092_1096.out; have hnb15 := NB1096_1093.out; have hnc15 := NB1093_1096.out; have hnb16 := NB1096_1094.out; have hnc16 := NB1094_1096.out; obtain ⟨hcz17_0, hfz17_0⟩ := Zy (v := (.string (⟨#[]⟩ : ByteArray))) BK1096.out 0; obtain ⟨hcz17_1, hfz17_1⟩ := Zy (v := (.string (⟨#[]⟩ : ByteArray))) BK1096.out 1; obtain ⟨hcz17_2, hfz17_2⟩ := Zy (v := (.int .i64 0)) BK1096.out 2; obtain ⟨hcz17_3, hfz17_3⟩ := Zy (v := (.int .i64 0)) BK1096.out 3; obtain ⟨hcz17_4, hfz17_4⟩ := Zy (v := (.int .i64 0)) BK1096.out 4; obtain ⟨hcz17_5, hfz17_5⟩ := Zy (v := (.int .i64 0)) BK1096.out 5; obtain ⟨hcz17_6, hfz17_6⟩ := Zy (v := (.int .i64 0)) BK1096.out 6; obtain ⟨hcz17_7, hfz17_7⟩ := Zy (v := (.int .i64 0)) BK1096.out 7; obtain ⟨hcz17_8, hfz17_8⟩ := Zy (v := (.int .i64 0)) BK1096.out 8) | ((with_reducible refine Qay (f := 180) rfl ?_); refine goesL_ (some 29) rfl rfl Try.func180 (by kernel_rfl) rfl #[.int .i64 ((Qao l0 x23_1).f7)] rfl (Zl) ?_; (with_reducible refine (Qbz.calls ((Qao l0 x23_1).f7) t1097 _ A12.out).mono ?_); rintro e w' ⟨rfl, ⟨nd, rfl⟩⟩; refine ⟨_, rfl, ?_⟩))
      (try simp only [Act.put, Zj, Zk, Zm])
      by_cases c18 : t1097 = true
      ·subst c18
       have H1 : ((Qbx.f k1 l1 ((Qao l0 x23_1).f0.f0) ((Qao l0 x23_1).f0.f1) ((Qao l0 x23_1).f7) l2 l3).bind fun bt1099 => (if bt1099.2 = 0 then ((QbS.f ((Qao l0 x23_1).f7) bt1099.1).bind fun bt1101 => (if bt1101.2 = 0 then (if x11_1.length < 2513169434916 then (Qbf.l0 k1 (x11_1 ++ [(⟨(⟨(Qao l0 x23_1).f0.f0, (Qao l0 x23_1).f0.f1⟩ : S81), (Qao l0 x23_1).f7, bt1099.1, bt1101.1⟩ : S108)]) l0 (l0.length : Int) (wrap64 (x23_1 + 1)) l1 l2 l3) else (none)) else (some (([] : List (S108)), bt1101.2)))) else (some (([] : List (S108)), bt1099.2)))) = some (r1, r2) := by rw [if_pos rfl] at H; exact H
       clear H
       have H := H1
       clear H1
       replace H := Option.bind_eq_some_iff.mp H
       obtain ⟨⟨t1099, t1100⟩, A190, H⟩ := H
       replace H : (if t1100 = 0 then ((QbS.f ((Qao l0 x23_1).f7) t1099).bind fun bt1101 => (if bt1101.2 = 0 then (if x11_1.length < 2513169434916 then (Qbf.l0 k1 (x11_1 ++ [(⟨(⟨(Qao l0 x23_1).f0.f0, (Qao l0 x23_1).f0.f1⟩ : S81), (Qao l0 x23_1).f7, t1099, bt1101.1⟩ : S108)]) l0 (l0.length : Int) (wrap64 (x23_1 + 1)) l1 l2 l3) else (none)) else (some (([] : List (S108)), bt1101.2)))) else (some (([] : List (S108)), t1100))) = some (r1, r2) := H
       have A19 := Aside0.mk A190
       clear A190
       have hnb20 := NB1096_1092.out
       have hnc20 := NB1092_1096.out
       have hnb21 := NB1096_1093.out
       have hnc21 := NB1093_1096.out
       have hnb22 := NB1096_1094.out
       have hnc22 := NB1094_1096.out
       obtain ⟨hcz23_0, hfz23_0⟩ := Zy (v := (.string (⟨#[]⟩ : ByteArray))) BK1096.out 0
       obtain ⟨hcz23_1, hfz23_1⟩ := Zy (v := (.string (⟨#[]⟩ : ByteArray))) BK1096.out 1
       obtain ⟨hcz23_2, hfz23_2⟩ := Zy (v := (.int .i64 0)) BK1096.out 2
       obtain ⟨hcz23_3, hfz23_3⟩ := Zy (v := (.int .i64 0)) BK1096.out 3
       obtain ⟨hcz23_4, hfz23_4⟩ := Zy (v := (.int .i64 0)) BK1096.out 4
       obtain ⟨hcz23_5, hfz23_5⟩ := Zy (v := (.int .i64 0)) BK1096.out 5
       obtain ⟨hcz23_6, hfz23_6⟩ := Zy (v := (.int .i64 0)) BK1096.out 6
       obtain ⟨hcz23_7, hfz23_7⟩ := Zy (v := (.int .i64 0)) BK1096.out 7
       obtain ⟨hcz23_8, hfz23_8⟩ := Zy (v := (.int .i64 0)) BK1096.out 8
       go_upto_region 11 with (first | (go_at_call 178; go_in) | ((with_reducible refine QaT (N := 5) rfl ?_); (refine gate_n (n := 17) rfl ?_); refine Zbx (N := 5) (cs := #[.string ((Qao l0 x23_1).f0.f0), .string ((Qao l0 x23_1).f0.f1)]) (t := 81) ?_; intro gb1098 hg w24 hbox hb; have BK1098 := Aside0.mk (hbox); have GW1098 := Aside0.mk (Zt w hg (Zc4 GE1092.out GE1093.out GE1094.out GE1096.out)); have GE1098 := GW1098; have NB1092_1098 := Aside0.mk ((by rw [hg]; exact Nat.ne_of_lt (blk_lt (g := gb1092) (o := .cells #[.slice A1 l1.length c1] 102 (0, 0)) (by (with_reducible repeat (first | refine Qac ?_ _ | refine Qad ?_ | refine Qab ?_ _)); refine Qas ?_ NB1092_1096.out _; (with_reducible repeat (first | refine Qac ?_ _ | refine Qad ?_ | refine Qab ?_ _)); refine Qas ?_ NB1092_1096.out _; (with_reducible repeat (first | refine Qac ?_ _ | refine Qad ?_ | refine Qab ?_ _)); refine Qas ?_ NB1092_1096.out _; (with_reducible repeat (first | refine Qac ?_ _ | refine Qad ?_ | refine Qab ?_ _)); refine Qas ?_ NB1092_1096.out _; (with_reducible repeat (first | refine Qac ?_ _ | refine Qad ?_ | refine Qab ?_ _)); refine Qas ?_ NB1092_1096.out _; (with_reducible repeat (first | refine Qac ?_ _ | refine Qad ?_ | refine Qab ?_ _)); refine Qas ?_ NB1092_1096.out _; (with_reducible repeat (first | refine Qac ?_ _ | refine Qad ?_ | refine Qab ?_ _)); refine Qas ?_ NB1092_1096.out _; (with_reducible repeat (first | refine Qac ?_ _ | refine Qad ?_ | refine Qab ?_ _)); refine Qas ?_ NB1092_1096.out _; (with_reducible repeat (first | refine Qac ?_ _ | refine Qad ?_ | refine Qab ?_ _)); refine Qas ?_ NB1092_1096.out _; (with_reducible repeat (first | refine Qac ?_ _ | refine Qad ?_ | refine Qab ?_ _)); exact BK1092.out)) : gb1092 ≠ gb1098)); have NB1098_1092 := Aside0.mk ((by rw [hg]; exact Nat.ne_of_gt (blk_lt (g := gb1092) (o := .cells #[.slice A1 l1.length c1] 102 (0, 0)) (by (with_reducible repeat (first | refine Qac ?_ _ | refine Qad ?_ | refine Qab ?_ _)); refine Qas ?_ NB1092_1096.out _; (with_reducible repeat (first | refine Qac ?_ _ | refine Qad ?_ | refine Qab ?_ _)); refine Qas ?_ NB1092_1096.out _; (with_reducible repeat (first | refine Qac ?_ _ | refine Qad ?_ | refine Qab ?_ _)); refine Qas ?_ NB1092_1096.out _; (with_reducible repeat (first | refine Qac ?_ _ | refine Qad ?_ | refine Qab ?_ _)); refine Qas ?_ NB1092_1096.out _; (with_reducible repeat (first | refine Qac ?_ _ | refine Qad ?_ | refine Qab ?_ _)); refine Qas ?_ NB1092_1096.out _; (with_reducible repeat (first | refine Qac ?_ _ | refine Qad ?_ | refine Qab ?_ _)); refine Qas ?_ NB1092_1096.out _; (with_reducible repeat (first | refine Qac ?_ _ | refine Qad ?_ | refine Qab ?_ _)); refine Qas ?_ NB1092_1096.out _; (with_reducible repeat (first | refine Qac ?_ _ | refine Qad ?_ | refine Qab ?_ _)); refine Qas ?_ NB1092_1096.out _; (with_reducible repeat (first | refine Qac ?_ _ | refine Qad ?_ | refine Qab ?_ _)); refine Qas ?_ NB1092_1096.out _; (with_reducible repeat (first | refine Qac ?_ _ | refine Qad ?_ | refine Qab ?_ _)); exact BK1092.out)) : gb1098 ≠ gb1092)); have NB1093_1098 := Aside0.mk ((by rw [hg]; exact Nat.ne_of_lt (blk_lt (g := gb1093) (o := .cells #[.slice A2 l2.length c2] 103 (0, 0)) (by (with_reducible repeat (first | refine Qac ?_ _ | refine Qad ?_ | refine Qab ?_ _)); refine Qas ?_ NB1093_1096.out _; (with_reducible repeat (first | refine Qac ?_ _ | refine Qad ?_ | refine Qab ?_ _)); refine Qas ?_ NB1093_1096.out _; (with_reducible repeat (first | refine Qac ?_ _ | refine Qad ?_ | refine Qab ?_ _)); refine Qas ?_ NB1093_1096.out _; (with_reducible repeat (first | refine Qac ?_ _ | refine Qad ?_ | refine Qab ?_ _)); refine Qas ?_ NB1093_1096.out _; (with_reducible repeat (first | refine Qac ?_ _ | refine Qad ?_ | refine Qab ?_ _)); refine Qas ?_ NB1093_1096.out _; (with_reducible repeat (first | refine Qac ?_ _ | refine Qad ?_ | refine Qab ?_ _)); refine Qas ?_ NB1093_1096.out _; (with_reducible repeat (first | refine Qac ?_ _ | refine Qad ?_ | refine Qab ?_ _)); refine Qas ?_ NB1093_1096.out _; (with_reducible repeat (first | refine Qac ?_ _ | refine Qad ?_ | refine Qab ?_ _)); refine Qas ?_ NB1093_1096.out _; (with_reducible repeat (first | refine Qac ?_ _ | refine Qad ?_ | refine Qab ?_ _)); refine Qas ?_ NB1093_1096.out _; (with_reducible repeat (first | refine Qac ?_ _ | refine Qad ?_ | refine Qab ?_ _)); exact BK1093.out)) : gb1093 ≠ gb1098)); have NB1098_1093 := Aside0.mk ((by rw [hg]; exact Nat.ne_of_gt (blk_lt (g := gb1093) (o := .cells #[.slice A2 l2.length c2] 103 (0, 0)) (by (with_reducible repeat (first | refine Qac ?_ _ | refine Qad ?_ | refine Qab ?_ _)); refine Qas ?_ NB1093_1096.out _; (with_reducible repeat (first | refine Qac ?_ _ | refine Qad ?_ | refine Qab ?_ _)); refine Qas ?_ NB1093_1096.out _; (with_reducible repeat (first | refine Qac ?_ _ | refine Qad ?_ | refine Qab ?_ _)); refine Qas ?_ NB1093_1096.out _; (with_reducible repeat (first | refine Qac ?_ _ | refine Qad ?_ | refine Qab ?_ _)); refine Qas ?_ NB1093_1096.out _; (with_reducible repeat (first | refine Qac ?_ _ | refine Qad ?_ | refine Qab ?_ _)); refine Qas ?_ NB1093_1096.out _; (with_reducible repeat (first | refine Qac ?_ _ | refine Qad ?_ | refine Qab ?_ _)); refine Qas ?_ NB1093_1096.out _; (with_reducible repeat (first | refine Qac ?_ _ | refine Qad ?_ | refine Qab ?_ _)); refine Qas ?_ NB1093_1096.out _; (with_reducible repeat (first | refine Qac ?_ _ | refine Qad ?_ | refine Qab ?_ _)); refine Qas ?_ NB1093_1096.out _; (with_reducible repeat (first | refine Qac ?_ _ | refine Qad ?_ | refine Qab ?_ _)); refine Qas ?_ NB1093_1096.out _; (with_reducible repeat (first | refine Qac ?_ _ | refine Qad ?_ | refine Qab ?_ _)); exact BK1093.out)) : gb1098 ≠ gb1093)); have NB1094_1098 := Aside0.mk ((by rw [hg]; exact Nat.ne_of_lt (blk_lt (g := gb1094) (o := .cells #[.slice A3 l3.length c3] 104 (0, 0)) (by (with_reducible repeat (first | refine Qac ?_ _ | refine Qad ?_ | refine Qab ?_ _)); refine Qas ?_ NB1094_1096.out _; (with_reducible repeat (first | refine Qac ?_ _ | refine Qad ?_ | refine Qab ?_ _)); refine Qas ?_ NB1094_1096.out _; (with_reducible repeat (first | refine Qac ?_ _ | refine Qad ?_ | refine Qab ?_ _)); refine Qas ?_ NB1094_1096.out _; (with_reducible repeat (first | refine Qac ?_ _ | refine Qad ?_ | refine Qab ?_ _)); refine Qas ?_ NB1094_1096.out _; (with_reducible repeat (first | refine Qac ?_ _ | refine Qad ?_ | refine Qab ?_ _)); refine Qas ?_ NB1094_1096.out _; (with_reducible repeat (first | refine Qac ?_ _ | refine Qad ?_ | refine Qab ?_ _)); refine Qas ?_ NB1094_1096.out _; (with_reducible repeat (first | refine Qac ?_ _ | refine Qad ?_ | refine Qab ?_ _)); refine Qas ?_ NB1094_1096.out _; (with_reducible repeat (first | refine Qac ?_ _ | refine Qad ?_ | refine Qab ?_ _)); refine Qas ?_ NB1094_1096.out _; (with_reducible repeat (first | refine Qac ?_ _ | refine Qad ?_ | refine Qab ?_ _)); refine Qas ?_ NB1094_1096.out _; (with_reducible repeat (first | refine Qac ?_ _ | refine Qad ?_ | refine Qab ?_ _)); exact BK1094.out)) : gb1094 ≠ gb1098)); have NB1098_1094 := Aside0.mk ((by rw [hg]; exact Nat.ne_of_gt (blk_lt (g := gb1094) (o := .cells #[.slice A3 l3.length c3] 104 (0, 0)) (by (with_reducible repeat (first | refine Qac ?_ _ | refine Qad ?_ | refine Qab ?_ _)); refine Qas ?_ NB1094_1096.out _; (with_reducible repeat (first | refine Qac ?_ _ | refine Qad ?_ | refine Qab ?_ _)); refine Qas ?_ NB1094_1096.out _; (with_reducible repeat (first | refine Qac ?_ _ | refine Qad ?_ | refine Qab ?_ _)); refine Qas ?_ NB1094_1096.out _; (with_reducible repeat (first | refine Qac ?_ _ | refine Qad ?_ | refine Qab ?_ _)); refine Qas ?_ NB1094_1096.out _; (with_reducible repeat (first | refine Qac ?_ _ | refine Qad ?_ | refine Qab ?_ _)); refine Qas ?_ NB1094_1096.out _; (with_reducible repeat (first | refine Qac ?_ _ | refine Qad ?_ | refine Qab ?_ _)); refine Qas ?_ NB1094_1096.out _; (with_reducible repeat (first | refine Qac ?_ _ | refine Qad ?_ | refine Qab ?_ _)); refine Qas ?_ NB1094_1096.out _; (with_reducible repeat (first | refine Qac ?_ _ | refine Qad ?_ | refine Qab ?_ _)); refine Qas ?_ NB1094_1096.out _; (with_reducible repeat (first | refine Qac ?_ _ | refine Qad ?_ | refine Qab ?_ _)); refine Qas ?_ NB1094_1096.out _; (with_reducible repeat (first | refine Qac ?_ _ | refine Qad ?_ | refine Qab ?_ _)); exact BK1094.out)) : gb1098 ≠ gb1094)); have NB1096_1098 := Aside0.mk ((by rw [hg]; exact Nat.ne_of_lt (blk_lt (g := gb1096) (o := .cells #[.string ((Qao l0 x23_1).f0.f0), .string ((Qao l0 x23_1).f0.f1), .int .i64 ((Qao l0 x23_1).f1), .int .i64 ((Qao l0 x23_1).f2), .int .i64 ((Qao l0 x23_1).f3), .int .i64 ((Qao l0 x23_1).f4), .int .i64 ((Qao l0 x23_1).f5), .int .i64 ((Qao l0 x23_1).f6), .int .i64 ((Qao l0 x23_1).f7)] 101 (0, 0)) (Zp2 BK1096.out)) : gb1096 ≠ gb1098)); have NB1098_1096 := Aside0.mk ((by rw [hg]; exact Nat.ne_of_gt (blk_lt (g := gb1096) (o := .cells #[.string ((Qao l0 x23_1).f0.f0), .string ((Qao l0 x23_1).f0.f1), .int .i64 ((Qao l0 x23_1).f1), .int .i64 ((Qao l0 x23_1).f2), .int .i64 ((Qao l0 x23_1).f3), .int .i64 ((Qao l0 x23_1).f4), .int .i64 ((Qao l0 x23_1).f5), .int .i64 ((Qao l0 x23_1).f6), .int .i64 ((Qao l0 x23_1).f7)] 101 (0, 0)) (Zp2 BK1096.out)) : gb1098 ≠ gb1096)); replace HO_11 := Aside0.mk (Kd.R_below (by (with_reducible repeat (first | apply Kd.R_alloc | apply Kd.R_drewN | apply Kd.R_drew)); exact (Kd.R_mono (Zf gb1096 8 (Zf gb1096 7 (Zf gb1096 6 (Zf gb1096 5 (Zf gb1096 4 (Zf gb1096 3 (Zf gb1096 2 (Zf gb1096 1 (Zf gb1096 0 (Kd.R_types HO_11.out BK1096.out (by decide)) (.string ((Qao l0 x23_1).f0.f0))) (.string ((Qao l0 x23_1).f0.f1))) (.int .i64 ((Qao l0 x23_1).f1))) (.int .i64 ((Qao l0 x23_1).f2))) (.int .i64 ((Qao l0 x23_1).f3))) (.int .i64 ((Qao l0 x23_1).f4))) (.int .i64 ((Qao l0 x23_1).f5))) (.int .i64 ((Qao l0 x23_1).f6))) (.int .i64 ((Qao l0 x23_1).f7))) (fun _ h_ => h_.1))) hb); replace BK1092 := Aside0.mk (Qam (g := gb1092) (o := .cells #[.slice A1 l1.length c1] 102 (0, 0)) (by (with_reducible repeat (first | refine Qac ?_ _ | refine Qad ?_ | refine Qab ?_ _)); refine Qas ?_ NB1092_1096.out _; (with_reducible repeat (first | refine Qac ?_ _ | refine Qad ?_ | refine Qab ?_ _)); refine Qas ?_ NB1092_1096.out _; (with_reducible repeat (first | refine Qac ?_ _ | refine Qad ?_ | refine Qab ?_ _)); refine Qas ?_ NB1092_1096.out _; (with_reducible repeat (first | refine Qac ?_ _ | refine Qad ?_ | refine Qab ?_ _)); refine Qas ?_ NB1092_1096.out _; (with_reducible repeat (first | refine Qac ?_ _ | refine Qad ?_ | refine Qab ?_ _)); refine Qas ?_ NB1092_1096.out _; (with_reducible repeat (first | refine Qac ?_ _ | refine Qad ?_ | refine Qab ?_ _)); refine Qas ?_ NB1092_1096.out _; (with_reducible repeat (first | refine Qac ?_ _ | refine Qad ?_ | refine Qab ?_ _)); refine Qas ?_ NB1092_1096.out _; (with_reducible repeat (first | refine Qac ?_ _ | refine Qad ?_ | refine Qab ?_ _)); refine Qas ?_ NB1092_1096.out _; (with_reducible repeat (first | refine Qac ?_ _ | refine Qad ?_ | refine Qab ?_ _)); refine Qas ?_ NB1092_1096.out _; (with_reducible repeat (first | refine Qac ?_ _ | refine Qad ?_ | refine Qab ?_ _)); exact BK1092.out) hb); replace BK1093 := Aside0.mk (Qam (g := gb1093) (o := .cells #[.slice A2 l2.length c2] 103 (0, 0)) (by (with_reducible repeat (first | refine Qac ?_ _ | refine Qad ?_ | refine Qab ?_ _)); refine Qas ?_ NB1093_1096.out _; (with_reducible repeat (first | refine Qac ?_ _ | refine Qad ?_ | refine Qab ?_ _)); refine Qas ?_ NB1093_1096.out _; (with_reducible repeat (first | refine Qac ?_ _ | refine Qad ?_ | refine Qab ?_ _)); refine Qas ?_ NB1093_1096.out _; (with_reducible repeat (first | refine Qac ?_ _ | refine Qad ?_ | refine Qab ?_ _)); refine Qas ?_ NB1093_1096.out _; (with_reducible repeat (first | refine Qac ?_ _ | refine Qad ?_ | refine Qab ?_ _)); refine Qas ?_ NB1093_1096.out _; (with_reducible repeat (first | refine Qac ?_ _ | refine Qad ?_ | refine Qab ?_ _)); refine Qas ?_ NB1093_1096.out _; (with_reducible repeat (first | refine Qac ?_ _ | refine Qad ?_ | refine Qab ?_ _)); refine Qas ?_ NB1093_1096.out _; (with_reducible repeat (first | refine Qac ?_ _ | refine Qad ?_ | refine Qab ?_ _)); refine Qas ?_ NB1093_1096.out _; (with_reducible repeat (first | refine Qac ?_ _ | refine Qad ?_ | refine Qab ?_ _)); refine Qas ?_ NB1093_1096.out _; (with_reducible repeat (first | refine Qac ?_ _ | refine Qad ?_ | refine Qab ?_ _)); exact BK1093.out) hb); replace BK1094 := Aside0.mk (Qam (g := gb1094) (o := .cells #[.slice A3 l3.length c3] 104 (0, 0)) (by (with_reducible repeat (first | refine Qac ?_ _ | refine Qad ?_ | refine Qab ?_ _)); refine Qas ?_ NB1094_1096.out _; (with_reducible repeat (first | refine Qac ?_ _ | refine Qad ?_ | refine Qab ?_ _)); refine Qas ?_ NB1094_1096.out _; (with_reducible repeat (first | refine Qac ?_ _ | refine Qad ?_ | refine Qab ?_ _)); refine Qas ?_ NB1094_1096.out _; (with_reducible repeat (first | refine Qac ?_ _ | refine Qad ?_ | refine Qab ?_ _)); refine Qas ?_ NB1094_1096.out _; (with_reducible repeat (first | refine Qac ?_ _ | refine Qad ?_ | refine Qab ?_ _)); refine Qas ?_ NB1094_1096.out _; (with_reducible repeat (first | refine Qac ?_ _ | refine Qad ?_ | refine Qab ?_ _)); refine Qas ?_ NB1094_1096.out _; (with_reducible repeat (first | refine Qac ?_ _ | refine Qad ?_ | refine Qab ?_ _)); refine Qas ?_ NB1094_1096.out _; (with_reducible repeat (first | refine Qac ?_ _ | refine Qad ?_ | refine Qab ?_ _)); refine Qas ?_ NB1094_1096.out _; (with_reducible repeat (first | refine Qac ?_ _ | refine Qad ?_ | refine Qab ?_ _)); refine Qas ?_ NB1094_1096.out _; (with_reducible repeat (first | refine Qac ?_ _ | refine Qad ?_ | refine Qab ?_ _)); exact BK1094.out) hb); replace BK1096 := Aside0.mk (Zpi #[.string ((Qao l0 x23_1).f0.f0), .string ((Qao l0 x23_1).f0.f1), .int .i64 ((Qao l0 x23_1).f1), .int .i64 ((Qao l0 x23_1).f2), .int .i64 ((Qao l0 x23_1).f3), .int .i64 ((Qao l0 x23_1).f4), .int .i64 ((Qao l0 x23_1).f5), .int .i64 ((Qao l0 x23_1).f6), .int .i64 ((Qao l0 x23_1).f7)] BK1096.out hb); replace HB := Aside0.mk (Qap (Zc4 GE1092.out GE1093.out GE1094.out GE1096.out) hb); clear hb hbox hg; have hnb25 := NB1092_1093.out; have hnc25 := NB1093_1092.out; have hnb26 := NB1092_1094.out; have hnc26 := NB1094_1092.out; have hnb27 := NB1092_1098.out; have hnc27 := NB1098_1092.out; obtain ⟨hcz28_0, hfz28_0⟩ := Zy (v := (.slice A1 l1.length c1)) BK1092.out 0; have hnb29 := NB1098_1093.out; have hnc29 := NB1093_1098.out; have hnb30 := NB1098_1094.out; have hnc30 := NB1094_1098.out; have hnb31 := NB1098_1096.out; have hnc31 := NB1096_1098.out; obtain ⟨hcz32_0, hfz32_0⟩ := Zy (v := (.string ((Qao l0 x23_1).f0.f0))) BK1098.out 0; obtain ⟨hcz32_1, hfz32_1⟩ := Zy (v := (.string ((Qao l0 x23_1).f0.f1))) BK1098.out 1; have hnb33 := NB1093_1094.out; have hnc33 := NB1094_1093.out; obtain ⟨hcz34_0, hfz34_0⟩ := Zy (v := (.slice A2 l2.length c2)) BK1093.out 0; obtain ⟨hcz35_0, hfz35_0⟩ := Zy (v := (.slice A3 l3.length c3)) BK1094.out 0) | ((with_reducible refine Qay (f := 179) rfl ?_); refine goesL_ (some 14) rfl rfl Try.func179 (by kernel_rfl) rfl #[.slice A1 l1.length c1, .agg #[.string ((Qao l0 x23_1).f0.f0), .string ((Qao l0 x23_1).f0.f1)], .int .i64 ((Qao l0 x23_1).f7), .slice A2 l2.length c2, .slice A3 l3.length c3] rfl (Zl) ?_; (with_reducible refine (Qbx.calls k1 _ _ l1 ((Qao l0 x23_1).f0.f0) ((Qao l0 x23_1).f0.f1) ((Qao l0 x23_1).f7) _ _ l2 _ _ l3 t1099 t1100 _ ?side1 ?side2 ?side3 ?side4 ?side5 ?side6 A19.out).mono ?_); (case side1 => exact Zv (Kd.C_below HR1.out HB.out)); (case side2 => exact HC1.out); (case side3 => exact Zv (Kd.C_below HR2.out HB.out)); (case side4 => exact HC2.out); (case side5 => exact Zv (Kd.C_below HR3.out HB.out)); (case side6 => exact HC3.out); rintro e w36 ⟨rfl, hb⟩; refine ⟨_, rfl, ?_⟩; replace HO_11 := Aside0.mk (Kd.R_below (Zr HO_11.out) hb); replace BK1092 := Aside0.mk (Zi BK1092.out hb); replace BK1093 := Aside0.mk (Zi BK1093.out hb); replace BK1094 := Aside0.mk (Zi BK1094.out hb); replace BK1096 := Aside0.mk (Zi BK1096.out hb); replace BK1098 := Aside0.mk (Zi BK1098.out hb); replace HB := Aside0.mk (Qap (Zc5 GE1092.out GE1093.out GE1094.out GE1096.out GE1098.out) hb); (try clear hb); (try clear hb2); (try clear hk); (try clear hi)))
       (try simp only [Act.put, Zj, Zk, Zm])
       by_cases c37 : t1100 = 0
       ·rw [if_pos c37] at H
        have c37b0 : (t1100 == 0) = true := beq_iff_eq.mpr c37
        have c37b1 : (t1100 != 0) = false := bne_eq_false_iff_eq.mpr c37
        clear c37
        (try simp only [c37b0, c37b1])
        replace H := Option.bind_eq_some_iff.mp H
        obtain ⟨⟨t1101, t1102⟩, A380, H⟩ := H
        replace H : (if t1102 = 0 then (if x11_1.length < 2513169434916 then (Qbf.l0 k1 (x11_1 ++ [(⟨(⟨(Qao l0 x23_1).f0.f0, (Qao l0 x23_1).f0.f1⟩ : S81), (Qao l0 x23_1).f7, t1099, t1101⟩ : S108)]) l0 (l0.length : Int) (wrap64 (x23_1 + 1)) l1 l2 l3) else (none)) else (some (([] : List (S108)), t1102))) = some (r1, r2) := H
        have A38 := Aside0.mk A380
        clear A380
        have hnb39 := NB1096_1092.out
        have hnc39 := NB1092_1096.out
        have hnb40 := NB1096_1093.out
        have hnc40 := NB1093_1096.out
        have hnb41 := NB1096_1094.out
        have hnc41 := NB1094_1096.out
        have hnb42 := NB1096_1098.out
        have hnc42 := NB1098_1096.out
        obtain ⟨hcz43_0, hfz43_0⟩ := Zy (v := (.string ((Qao l0 x23_1).f0.f0))) BK1096.out 0
        obtain ⟨hcz43_1, hfz43_1⟩ := Zy (v := (.string ((Qao l0 x23_1).f0.f1))) BK1096.out 1
        obtain ⟨hcz43_2, hfz43_2⟩ := Zy (v := (.int .i64 ((Qao l0 x23_1).f1))) BK1096.out 2
        obtain ⟨hcz43_3, hfz43_3⟩ := Zy (v := (.int .i64 ((Qao l0 x23_1).f2))) BK1096.out 3
        obtain ⟨hcz43_4, hfz43_4⟩ := Zy (v := (.int .i64 ((Qao l0 x23_1).f3))) BK1096.out 4
        obtain ⟨hcz43_5, hfz43_5⟩ := Zy (v := (.int .i64 ((Qao l0 x23_1).f4))) BK1096.out 5
        obtain ⟨hcz43_6, hfz43_6⟩ := Zy (v := (.int .i64 ((Qao l0 x23_1).f5))) BK1096.out 6
        obtain ⟨hcz43_7, hfz43_7⟩ := Zy (v := (.int .i64 ((Qao l0 x23_1).f6))) BK1096.out 7
        obtain ⟨hcz43_8, hfz43_8⟩ := Zy (v := (.int .i64 ((Qao l0 x23_1).f7))) BK1096.out 8
        go_upto_if 51 with (first | ((with_reducible refine Qay (f := 181) rfl ?_); refine goesL_ (some 47) rfl rfl Try.func181 (by kernel_rfl) rfl #[.int .i64 ((Qao l0 x23_1).f7), .int .i64 t1099] rfl (Zl) ?_; (with_reducible refine (QbS.calls ((Qao l0 x23_1).f7) t1099 t1101 t1102 _ A38.out).mono ?_); rintro e w44 ⟨rfl, hb⟩; refine ⟨_, rfl, ?_⟩; replace HO_11 := Aside0.mk (Kd.R_below (Zr HO_11.out) hb); replace BK1092 := Aside0.mk (Zi BK1092.out hb); replace BK1093 := Aside0.mk (Zi BK1093.out hb); replace BK1094 := Aside0.mk (Zi BK1094.out hb); replace BK1096 := Aside0.mk (Zi BK1096.out hb); replace BK1098 := Aside0.mk (Zi BK1098.out hb); replace HB := Aside0.mk (Qap (Zc5 GE1092.out GE1093.out GE1094.out GE1096.out GE1098.out) hb); (try clear hb); (try clear hb2); (try clear hk); (try clear hi)))
        (try simp only [Act.put, Zj, Zk, Zm])
        by_cases c45 : t1102 = 0
        ·rw [if_pos c45] at H
         have c45b0 : (t1102 == 0) = true := beq_iff_eq.mpr c45
         have c45b1 : (t1102 != 0) = false := bne_eq_false_iff_eq.mpr c45
         clear c45
         (try simp only [c45b0, c45b1])
         by_cases c46 : x11_1.length < 2513169434916
         ·rw [if_pos c46] at H
          have LMc46 := Aside0.mk c46
          clear c46
          obtain ⟨y1103, hy1103⟩ : ∃ y_ : List (S108), y_ = (x11_1 ++ [(⟨(⟨(Qao l0 x23_1).f0.f0, (Qao l0 x23_1).f0.f1⟩ : S81), (Qao l0 x23_1).f7, t1099, t1101⟩ : S108)]) := ⟨_, rfl⟩
          replace H : (Qbf.l0 k1 y1103 l0 (l0.length : Int) (wrap64 (x23_1 + 1)) l1 l2 l3) = some (r1, r2) := by first | (rw [hy1103]; with_reducible exact H) | (have H2_ := (Option.bind_some _ _).symm.trans H; rw [hy1103]; with_reducible exact H2_) | (have H2_ := (Option.bind_some _ _).symm.trans H; with_reducible exact H2_) | with_reducible exact H | (rw [hy1103]; exact H) | exact H
          have Ny1103 := Aside0.mk hy1103
          clear hy1103
          have H' := Aside0.mk H
          clear H
          have hnb47 := NB1096_1092.out
          have hnc47 := NB1092_1096.out
          have hnb48 := NB1096_1093.out
          have hnc48 := NB1093_1096.out
          have hnb49 := NB1096_1094.out
          have hnc49 := NB1094_1096.out
          have hnb50 := NB1096_1098.out
          have hnc50 := NB1098_1096.out
          obtain ⟨hcz51_0, hfz51_0⟩ := Zy (v := (.string ((Qao l0 x23_1).f0.f0))) BK1096.out 0
          obtain ⟨hcz51_1, hfz51_1⟩ := Zy (v := (.string ((Qao l0 x23_1).f0.f1))) BK1096.out 1
          obtain ⟨hcz51_2, hfz51_2⟩ := Zy (v := (.int .i64 ((Qao l0 x23_1).f1))) BK1096.out 2
          obtain ⟨hcz51_3, hfz51_3⟩ := Zy (v := (.int .i64 ((Qao l0 x23_1).f2))) BK1096.out 3
          obtain ⟨hcz51_4, hfz51_4⟩ := Zy (v := (.int .i64 ((Qao l0 x23_1).f3))) BK1096.out 4
          obtain ⟨hcz51_5, hfz51_5⟩ := Zy (v := (.int .i64 ((Qao l0 x23_1).f4))) BK1096.out 5
          obtain ⟨hcz51_6, hfz51_6⟩ := Zy (v := (.int .i64 ((Qao l0 x23_1).f5))) BK1096.out 6
          obtain ⟨hcz51_7, hfz51_7⟩ := Zy (v := (.int .i64 ((Qao l0 x23_1).f6))) BK1096.out 7
          obtain ⟨hcz51_8, hfz51_8⟩ := Zy (v := (.int .i64 ((Qao l0 x23_1).f7))) BK1096.out 8
          go_wp2_with (first | ((with_reducible refine QbK (b := .append) (xs := #[.tmp 53, .tmp 61]) rfl ?_); at_builtin; refine Kd.R_append k108 (w0 := w) w.heap.size rfl (.tmp 53) (.tmp 61) 215 108 (.agg #[(.string ⟨#[]⟩), (.string ⟨#[]⟩), (.int .i64 0), (.int .i64 0), (.int .i64 0)]) 56 rfl Try.underlying215 Qge rfl (by decide) (by omega) u11 x11_1 (⟨(⟨(Qao l0 x23_1).f0.f0, (Qao l0 x23_1).f0.f1⟩ : S81), (Qao l0 x23_1).f7, t1099, t1101⟩ : S108) [.string ((Qao l0 x23_1).f0.f0), .string ((Qao l0 x23_1).f0.f1), .int .i64 ((Qao l0 x23_1).f7), .int .i64 t1099, .int .i64 t1101] (fun _ => True) (fun _ => False) rfl rfl ?aP (fun _ hk => hk.elim) ?aF ?aO ?aB ?aS ?aL ?_; (case aP => exact QfH _ _ _ (⟨(⟨(Qao l0 x23_1).f0.f0, (Qao l0 x23_1).f0.f1⟩ : S81), (Qao l0 x23_1).f7, t1099, t1101⟩ : S108)); (case aB => exact (Zc5 GE1092.out GE1093.out GE1094.out GE1096.out GE1098.out)); (case aF => exact (fun _ _ => trivial)); (case aO => exact (Zr HO_11.out)); (case aS => exact (Qar (Zc5 GE1092.out GE1093.out GE1094.out GE1096.out GE1098.out))); (case aL => have := LMc46.out; omega); intro v1104 w52 ho hb hg hat; rw [← Ny1103.out] at ho; have HO1105 := Aside0.mk (ho); replace BK1092 := Aside0.mk (Qa7 (g := gb1092) (o := .cells #[.slice A1 l1.length c1] 102 (0, 0)) (Zu BK1092.out) hg (Kd.R_ne HO_11.out BK1092.out (by decide))); replace BK1093 := Aside0.mk (Qa7 (g := gb1093) (o := .cells #[.slice A2 l2.length c2] 103 (0, 0)) (Zu BK1093.out) hg (Kd.R_ne HO_11.out BK1093.out (by decide))); replace BK1094 := Aside0.mk (Qa7 (g := gb1094) (o := .cells #[.slice A3 l3.length c3] 104 (0, 0)) (Zu BK1094.out) hg (Kd.R_ne HO_11.out BK1094.out (by decide))); replace BK1096 := Aside0.mk (Qa7 (g := gb1096) (o := .cells #[.string ((Qao l0 x23_1).f0.f0), .string ((Qao l0 x23_1).f0.f1), .int .i64 ((Qao l0 x23_1).f1), .int .i64 ((Qao l0 x23_1).f2), .int .i64 ((Qao l0 x23_1).f3), .int .i64 ((Qao l0 x23_1).f4), .int .i64 ((Qao l0 x23_1).f5), .int .i64 ((Qao l0 x23_1).f6), .int .i64 ((Qao l0 x23_1).f7)] 101 (0, 0)) (Zu BK1096.out) hg (Kd.R_ne HO_11.out BK1096.out (by decide))); replace BK1098 := Aside0.mk (Qa7 (g := gb1098) (o := .cells #[.string ((Qao l0 x23_1).f0.f0), .string ((Qao l0 x23_1).f0.f1)] 81 (0, 0)) (Zu BK1098.out) hg (Kd.R_ne HO_11.out BK1098.out (by decide))); replace HB := Aside0.mk (hb); clear HO_11; clear ho hb hg hat))
          go_roundg k1
          case measure => have := HK1.out; omega
          case rel => exact ⟨(y1103), (wrap64 (x23_1 + 1)), (Zs), H', ⟨by have := HK1.out; omega⟩, ⟨Zr HO1105.out⟩, ⟨Zu BK1092.out⟩, ⟨Zu BK1093.out⟩, ⟨Zu BK1094.out⟩, ⟨Zc5 GE1092.out GE1093.out GE1094.out GE1096.out GE1098.out⟩⟩
         rw [if_neg c46] at H
         exact absurd H (by simp)
        rw [if_neg c45] at H
        have c45b0 : (t1102 == 0) = false := beq_eq_false_iff_ne.mpr c45
        have c45b1 : (t1102 != 0) = true := bne_iff_ne.mpr c45
        (try simp only [c45b0, c45b1])
        simp only [Option.some.injEq, Prod.mk.injEq] at H
        obtain ⟨rfl, rfl⟩ := H
        go_wp2
        go_ret2
        exact ⟨_, Zq, by first | exact Kd.R_nil _ _ _ _ _ | exact Kd.N_nil _ _ _ _ _ | exact Kd.V_nil _ _ _ _ _ | exact Kd.Q_nil _ _ _ _ _ | exact Kd.S_nil _ _ _ _ _, Zc5 GE1092.out GE1093.out GE1094.out GE1096.out GE1098.out⟩
       rw [if_neg c37] at H
       have c37b0 : (t1100 == 0) = false := beq_eq_false_iff_ne.mpr c37
       have c37b1 : (t1100 != 0) = true := bne_iff_ne.mpr c37
       (try simp only [c37b0, c37b1])
       simp only [Option.some.injEq, Prod.mk.injEq] at H
       obtain ⟨rfl, rfl⟩ := H
       go_wp2
       go_ret2
       exact ⟨_, Zq, by first | exact Kd.R_nil _ _ _ _ _ | exact Kd.N_nil _ _ _ _ _ | exact Kd.V_nil _ _ _ _ _ | exact Kd.Q_nil _ _ _ _ _ | exact Kd.S_nil _ _ _ _ _, Zc5 GE1092.out GE1093.out GE1094.out GE1096.out GE1098.out⟩
      replace c18 := Bool.eq_false_iff.mpr c18
      subst c18
      have H1 : (some (([] : List (S108)), 2)) = some (r1, r2) := by rw [if_neg (show ¬ (false = true) by decide)] at H; exact H
      clear H
      have H := H1
      clear H1
      simp only [Option.some.injEq, Prod.mk.injEq] at H
      obtain ⟨rfl, rfl⟩ := H
      go_wp2
      go_ret2
      exact ⟨_, Zq, by first | exact Kd.R_nil _ _ _ _ _ | exact Kd.N_nil _ _ _ _ _ | exact Kd.V_nil _ _ _ _ _ | exact Kd.Q_nil _ _ _ _ _ | exact Kd.S_nil _ _ _ _ _, Zc4 GE1092.out GE1093.out GE1094.out GE1096.out⟩
     rw [if_neg c11] at H
     exact absurd H (by simp)
    rw [if_neg c10] at H
    exact absurd H (by simp)
   rw [if_neg c9] at H
   have c9b0 : decide (x23_1 < (l0.length : Int)) = false := decide_eq_false c9
   clear c9
   (try simp only [c9b0])
   simp only [Option.some.injEq, Prod.mk.injEq] at H
   obtain ⟨rfl, rfl⟩ := H
   go_wp2
   go_ret2
   exact ⟨_, Zq, Zr HO_11.out, Zc3 GE1092.out GE1093.out GE1094.out⟩
def Qa3.f (k : Nat) (a0_0 : ByteArray) (a0_1 : ByteArray) (a0_2 : Int) (a0_3 : Int) (a0_4 : Int) (a0_5 : Int) (a0_6 : Int) (a0_7 : Int) (a0_8 : Int) (l0_9 : List (S346)) (l0_10 : List (S112)) (l0_11 : List (S279)) (a0_12 : ByteArray) (l1 : List (S346)) : Option (ByteArray × ByteArray × Int × Int × Int × Bool) := (Qbf.f k (([(⟨(⟨a0_0, a0_1⟩ : S81), a0_2, a0_3, a0_4, a0_5, a0_6, a0_7, a0_8⟩ : S101)] : List (S101))) l1 l0_10 l0_11).bind fun bt1111 => (if bt1111.2 = 0 then (if (bt1111.1.length : Int) = 1 then (if 0 < (bt1111.1.length : Int) then (some ((Qbk bt1111.1 0).f0.f0, (Qbk bt1111.1 0).f0.f1, (Qbk bt1111.1 0).f1, (Qbk bt1111.1 0).f2, (Qbk bt1111.1 0).f3, true)) else (none)) else (some ((⟨#[]⟩ : ByteArray), (⟨#[]⟩ : ByteArray), 0, 0, 0, false))) else (some ((⟨#[]⟩ : ByteArray), (⟨#[]⟩ : ByteArray), 0, 0, 0, false)))
theorem Qa3.mono : ∀ a0 a1 a2 a3 a4 a5 a6 a7 a8 a9 a10 a11 a12 a13 k, LeO (Qa3.f k a0 a1 a2 a3 a4 a5 a6 a7 a8 a9 a10 a11 a12 a13) (Qa3.f (k + 1) a0 a1 a2 a3 a4 a5 a6 a7 a8 a9 a10 a11 a12 a13) := by
 intro a0 a1 a2 a3 a4 a5 a6 a7 a8 a9 a10 a11 a12 a13 k
 unfold Qa3.f
 exact ZM1 Qbf.mono
theorem Qa3.calls (k : Nat) (a0_0 : ByteArray) (a0_1 : ByteArray) (a0_2 : Int) (a0_3 : Int) (a0_4 : Int) (a0_5 : Int) (a0_6 : Int) (a0_7 : Int) (a0_8 : Int) (A0_9 : Option Addr) (c0_9 : Nat) (l0_9 : List (S346)) (A0_10 : Option Addr) (c0_10 : Nat) (l0_10 : List (S112)) (A0_11 : Option Addr) (c0_11 : Nat) (l0_11 : List (S279)) (a0_12 : ByteArray) (A1 : Option Addr) (c1 : Nat) (l1 : List (S346)) (r1 : ByteArray) (r2 : ByteArray) (r3 : Int) (r4 : Int) (r5 : Int) (r6 : Bool) (w : World) (hr0_9 : Kd.C k346 w A0_9 l0_9.length l0_9) (hc0_9 : l0_9.length ≤ c0_9) (hr0_10 : Kd.C k112 w A0_10 l0_10.length l0_10) (hc0_10 : l0_10.length ≤ c0_10) (hr0_11 : Kd.C k279 w A0_11 l0_11.length l0_11) (hc0_11 : l0_11.length ≤ c0_11) (hr1 : Kd.C k346 w A1 l1.length l1) (hc1 : l1.length ≤ c1) (h : Qa3.f k a0_0 a0_1 a0_2 a0_3 a0_4 a0_5 a0_6 a0_7 a0_8 l0_9 l0_10 l0_11 a0_12 l1 = some (r1, r2, r3, r4, r5, r6)) :
  Calls Try.prog 40 #[.agg #[.string a0_0, .string a0_1, .int .i64 a0_2, .int .i64 a0_3, .int .i64 a0_4, .int .i64 a0_5, .int .i64 a0_6, .int .i64 a0_7, .int .i64 a0_8, .slice A0_9 l0_9.length c0_9, .slice A0_10 l0_10.length c0_10, .slice A0_11 l0_11.length c0_11, .string a0_12], .slice A1 l1.length c1] w fun e w' => e = .returned (.tuple #[.agg #[.string r1, .string r2, .int .i64 r3, .int .i64 r4, .int .i64 r5], .bool r6]) ∧ Below w.heap.size w w' := by
 have hu106 := Try.underlying106
 have hu108 := Try.underlying108
 have hu101 := Try.underlying101
 have HR0_9 := Aside0.mk hr0_9
 have HC0_9 := Aside0.mk hc0_9
 clear hr0_9 hc0_9
 have HR0_10 := Aside0.mk hr0_10
 have HC0_10 := Aside0.mk hc0_10
 clear hr0_10 hc0_10
 have HR0_11 := Aside0.mk hr0_11
 have HC0_11 := Aside0.mk hc0_11
 clear hr0_11 hc0_11
 have HR1 := Aside0.mk hr1
 have HC1 := Aside0.mk hc1
 clear hr1 hc1
 have HB := Aside0.mk (Below.refl w.heap.size w)
 have H : ((Qbf.f k (([(⟨(⟨a0_0, a0_1⟩ : S81), a0_2, a0_3, a0_4, a0_5, a0_6, a0_7, a0_8⟩ : S101)] : List (S101))) l1 l0_10 l0_11).bind fun bt1111 => (if bt1111.2 = 0 then (if (bt1111.1.length : Int) = 1 then (if 0 < (bt1111.1.length : Int) then (some ((Qbk bt1111.1 0).f0.f0, (Qbk bt1111.1 0).f0.f1, (Qbk bt1111.1 0).f1, (Qbk bt1111.1 0).f2, (Qbk bt1111.1 0).f3, true)) else (none)) else (some ((⟨#[]⟩ : ByteArray), (⟨#[]⟩ : ByteArray), 0, 0, 0, false))) else (some ((⟨#[]⟩ : ByteArray), (⟨#[]⟩ : ByteArray), 0, 0, 0, false)))) = some (r1, r2, r3, r4, r5, r6) := h
 clear h
 obtain ⟨y1108, hy1108⟩ : ∃ y_ : List (S101), y_ = (([(⟨(⟨a0_0, a0_1⟩ : S81), a0_2, a0_3, a0_4, a0_5, a0_6, a0_7, a0_8⟩ : S101)] : List (S101))) := ⟨_, rfl⟩
 replace H : ((Qbf.f k y1108 l1 l0_10 l0_11).bind fun bt1111 => (if bt1111.2 = 0 then (if (bt1111.1.length : Int) = 1 then (if 0 < (bt1111.1.length : Int) then (some ((Qbk bt1111.1 0).f0.f0, (Qbk bt1111.1 0).f0.f1, (Qbk bt1111.1 0).f1, (Qbk bt1111.1 0).f2, (Qbk bt1111.1 0).f3, true)) else (none)) else (some ((⟨#[]⟩ : ByteArray), (⟨#[]⟩ : ByteArray), 0, 0, 0, false))) else (some ((⟨#[]⟩ : ByteArray), (⟨#[]⟩ : ByteArray), 0, 0, 0, false)))) = some (r1, r2, r3, r4, r5, r6) := by first | (rw [hy1108]; with_reducible exact H) | (have H2_ := (Option.bind_some _ _).symm.trans H; rw [hy1108]; with_reducible exact H2_) | (have H2_ := (Option.bind_some _ _).symm.trans H; with_reducible exact H2_) | with_reducible exact H | (rw [hy1108]; exact H) | exact H
 have Ny1108 := Aside0.mk hy1108
 clear hy1108
 replace H := Option.bind_eq_some_iff.mp H
 obtain ⟨⟨t1111, t1112⟩, A30, H⟩ := H
 replace H : (if t1112 = 0 then (if (t1111.length : Int) = 1 then (if 0 < (t1111.length : Int) then (some ((Qbk t1111 0).f0.f0, (Qbk t1111 0).f0.f1, (Qbk t1111 0).f1, (Qbk t1111 0).f2, (Qbk t1111 0).f3, true)) else (none)) else (some ((⟨#[]⟩ : ByteArray), (⟨#[]⟩ : ByteArray), 0, 0, 0, false))) else (some ((⟨#[]⟩ : ByteArray), (⟨#[]⟩ : ByteArray), 0, 0, 0, false))) = some (r1, r2, r3, r4, r5, r6) := H
 have A3 := Aside0.mk A30
 clear A30
 go_enter Try.func40, Try.ntmps40
 go_upto_region 2 with (first | ((with_reducible refine QaT (N := 2) rfl ?_); (try (refine QbN (by rfl) ?_; dsimp only)); refine Zbx (N := 2) (cs := #[.string a0_0, .string a0_1, .int .i64 a0_2, .int .i64 a0_3, .int .i64 a0_4, .int .i64 a0_5, .int .i64 a0_6, .int .i64 a0_7, .int .i64 a0_8, .slice A0_9 l0_9.length c0_9, .slice A0_10 l0_10.length c0_10, .slice A0_11 l0_11.length c0_11, .string a0_12]) (t := 106) ?_; intro gb1106 hg w4 hbox hb; have BK1106 := Aside0.mk (hbox); have GW1106 := Aside0.mk (Zt w hg (Zb)); have GE1106 := GW1106; replace HB := Aside0.mk (Qap (Zb) hb); clear hb hbox hg) | ((with_reducible refine QaT (N := 4) rfl ?_); (try (refine QbN (by rfl) ?_; dsimp only)); refine Zbx (N := 4) (cs := #[.string (⟨#[]⟩ : ByteArray), .string (⟨#[]⟩ : ByteArray), .int .i64 0, .int .i64 0, .int .i64 0]) (t := 108) ?_; intro gb1107 hg w5 hbox hb; have BK1107 := Aside0.mk (hbox); have GW1107 := Aside0.mk (Zt w hg (Zc1 GE1106.out)); have GE1107 := GW1107; have NB1106_1107 := Aside0.mk (Zn hg BK1106.out); have NB1107_1106 := Aside0.mk NB1106_1107.out.symm; replace BK1106 := Aside0.mk (Zi BK1106.out hb); replace HB := Aside0.mk (Qap (Zc1 GE1106.out) hb); clear hb hbox hg; have hnb6 := NB1106_1107.out; have hnc6 := NB1107_1106.out; obtain ⟨hcz7_0, hfz7_0⟩ := Zy (v := (.string a0_0)) BK1106.out 0; obtain ⟨hcz7_1, hfz7_1⟩ := Zy (v := (.string a0_1)) BK1106.out 1; obtain ⟨hcz7_2, hfz7_2⟩ := Zy (v := (.int .i64 a0_2)) BK1106.out 2; obtain ⟨hcz7_3, hfz7_3⟩ := Zy (v := (.int .i64 a0_3)) BK1106.out 3; obtain ⟨hcz7_4, hfz7_4⟩ := Zy (v := (.int .i64 a0_4)) BK1106.out 4; obtain ⟨hcz7_5, hfz7_5⟩ := Zy (v := (.int .i64 a0_5)) BK1106.out 5; obtain ⟨hcz7_6, hfz7_6⟩ := Zy (v := (.int .i64 a0_6)) BK1106.out 6; obtain ⟨hcz7_7, hfz7_7⟩ := Zy (v := (.int .i64 a0_7)) BK1106.out 7; obtain ⟨hcz7_8, hfz7_8⟩ := Zy (v := (.int .i64 a0_8)) BK1106.out 8; obtain ⟨hcz7_9, hfz7_9⟩ := Zy (v := (.slice A0_9 l0_9.length c0_9)) BK1106.out 9; obtain ⟨hcz7_10, hfz7_10⟩ := Zy (v := (.slice A0_10 l0_10.length c0_10)) BK1106.out 10; obtain ⟨hcz7_11, hfz7_11⟩ := Zy (v := (.slice A0_11 l0_11.length c0_11)) BK1106.out 11; obtain ⟨hcz7_12, hfz7_12⟩ := Zy (v := (.string a0_12)) BK1106.out 12) | ((with_reducible refine QaT (N := 11) rfl ?_); (try (refine QbN (by rfl) ?_; dsimp only)); refine Kd.R_lit k101 _ 101 ?hg (N := 11) ?hd (xs := ([(⟨(⟨a0_0, a0_1⟩ : S81), a0_2, a0_3, a0_4, a0_5, a0_6, a0_7, a0_8⟩ : S101)] : List (S101))) (inner := [.string a0_0, .string a0_1, .int .i64 a0_2, .int .i64 a0_3, .int .i64 a0_4, .int .i64 a0_5, .int .i64 a0_6, .int .i64 a0_7, .int .i64 a0_8]) (ok := fun _ => True) (okp := fun _ => True) ?hr ?hp (fun _ hk => hk) trivial (Below.refl _ _) (Nat.le_refl _) (by simp) ?_; (case hd => rfl); (case hg => rfl); (case hr => first | (go_simp; done) | (go_simp; rfl)); (case hp => exact (Reps.c9 (show Kd.M k101 _ _ _ (⟨(⟨a0_0, a0_1⟩ : S81), a0_2, a0_3, a0_4, a0_5, a0_6, a0_7, a0_8⟩ : S101) [.string a0_0, .string a0_1, .int .i64 a0_2, .int .i64 a0_3, .int .i64 a0_4, .int .i64 a0_5, .int .i64 a0_6, .int .i64 a0_7, .int .i64 a0_8] from (QfG _ _ _ (⟨(⟨a0_0, a0_1⟩ : S81), a0_2, a0_3, a0_4, a0_5, a0_6, a0_7, a0_8⟩ : S101) )) (Reps.none _ _))); intro v1109 w8 ho9 hb hg_ hnew_; clear hg_ hnew_; (first | rw [← Ny1108.out] at ho9 | (simp only [Int.reduceToNat] at ho9; rw [← Ny1108.out] at ho9)); have HO1110 := Aside0.mk (Kd.R_lower ho9 (Qar (Zc2 GE1106.out GE1107.out))); replace BK1106 := Aside0.mk (Zi BK1106.out hb); replace BK1107 := Aside0.mk (Zi BK1107.out hb); replace HB := Aside0.mk (Qap (Zc2 GE1106.out GE1107.out) hb); clear hb ho9; obtain ⟨hcz10_0, hfz10_0⟩ := Zy (v := (.string a0_0)) BK1106.out 0; obtain ⟨hcz10_1, hfz10_1⟩ := Zy (v := (.string a0_1)) BK1106.out 1; obtain ⟨hcz10_2, hfz10_2⟩ := Zy (v := (.int .i64 a0_2)) BK1106.out 2; obtain ⟨hcz10_3, hfz10_3⟩ := Zy (v := (.int .i64 a0_3)) BK1106.out 3; obtain ⟨hcz10_4, hfz10_4⟩ := Zy (v := (.int .i64 a0_4)) BK1106.out 4; obtain ⟨hcz10_5, hfz10_5⟩ := Zy (v := (.int .i64 a0_5)) BK1106.out 5; obtain ⟨hcz10_6, hfz10_6⟩ := Zy (v := (.int .i64 a0_6)) BK1106.out 6; obtain ⟨hcz10_7, hfz10_7⟩ := Zy (v := (.int .i64 a0_7)) BK1106.out 7; obtain ⟨hcz10_8, hfz10_8⟩ := Zy (v := (.int .i64 a0_8)) BK1106.out 8; obtain ⟨hcz10_9, hfz10_9⟩ := Zy (v := (.slice A0_9 l0_9.length c0_9)) BK1106.out 9; obtain ⟨hcz10_10, hfz10_10⟩ := Zy (v := (.slice A0_10 l0_10.length c0_10)) BK1106.out 10; obtain ⟨hcz10_11, hfz10_11⟩ := Zy (v := (.slice A0_11 l0_11.length c0_11)) BK1106.out 11; obtain ⟨hcz10_12, hfz10_12⟩ := Zy (v := (.string a0_12)) BK1106.out 12; obtain ⟨Ao11, co11, eo11⟩ := Kd.R_slice HO1110.out; subst eo11) | ((with_reducible refine Qay (f := 108) rfl ?_); refine goesL_ (some 17) rfl rfl Try.func108 (by kernel_rfl) rfl #[.slice Ao11 y1108.length co11, .slice A1 l1.length c1, .slice A0_10 l0_10.length c0_10, .slice A0_11 l0_11.length c0_11] rfl (Zl) ?_; (with_reducible refine (Qbf.calls k _ _ y1108 _ _ l1 _ _ l0_10 _ _ l0_11 t1111 t1112 _ ?side1 ?side2 ?side3 ?side4 ?side5 ?side6 ?side7 ?side8 A3.out).mono ?_); (case side1 => exact Zv (Kd.R_reads' HO1110.out).2.2); (case side2 => exact (Kd.R_reads' HO1110.out).2.1); (case side3 => exact Zv (Kd.C_below HR1.out HB.out)); (case side4 => exact HC1.out); (case side5 => exact Zv (Kd.C_below HR0_10.out HB.out)); (case side6 => exact HC0_10.out); (case side7 => exact Zv (Kd.C_below HR0_11.out HB.out)); (case side8 => exact HC0_11.out); rintro e w12 ⟨v1113, rfl, ho0, hb⟩; refine ⟨_, rfl, ?_⟩; have HO1114 := Aside0.mk (Kd.R_lower (Kd.R_newB ho0 (g := gb1107) (o := .cells #[.string (⟨#[]⟩ : ByteArray), .string (⟨#[]⟩ : ByteArray), .int .i64 0, .int .i64 0, .int .i64 0] 108 (0, 0)) (Zu BK1107.out)) (Qar (Zc2 GE1106.out GE1107.out))); replace HO1110 := Aside0.mk (Kd.R_below (Zr HO1110.out) hb); replace BK1106 := Aside0.mk (Zi BK1106.out hb); replace BK1107 := Aside0.mk (Zi BK1107.out hb); replace HB := Aside0.mk (Qap (Zc2 GE1106.out GE1107.out) hb); (try clear hb); (try clear hb2); (try clear hk); (try clear hi); (try clear ho0)))
 (try simp only [Act.put, Zj, Zk, Zm])
 by_cases c13 : t1112 = 0
 ·rw [if_pos c13] at H
  have c13b0 : (t1112 == 0) = true := beq_iff_eq.mpr c13
  have c13b1 : (t1112 != 0) = false := bne_eq_false_iff_eq.mpr c13
  clear c13
  (try simp only [c13b0, c13b1])
  obtain ⟨Ao14, co14, eo14⟩ := Kd.R_slice HO1114.out
  subst eo14
  go_upto_if 26 with (fail)
  by_cases c15 : (t1111.length : Int) = 1
  ·rw [if_pos c15] at H
   have c15b0 : ((t1111.length : Int) == 1) = true := beq_iff_eq.mpr c15
   have c15b1 : ((t1111.length : Int) != 1) = false := bne_eq_false_iff_eq.mpr c15
   clear c15
   (try simp only [c15b0, c15b1])
   by_cases c16 : 0 < (t1111.length : Int)
   ·rw [if_pos c16] at H
    have c16b0 : decide (0 < (t1111.length : Int)) = true := decide_eq_true c16
    have c16b1 : decide (0 < t1111.length) = true := decide_eq_true (by omega)
    clear c16
    simp only [Option.some.injEq, Prod.mk.injEq] at H
    obtain ⟨rfl, rfl, rfl, rfl, rfl, rfl⟩ := H
    have p1115 : 0 ≤ (0 : Int) := (by omega)
    have q1115 : 0 < (t1111.length : Int) := Ze
    obtain ⟨ad1115, e1115, hx1115_0, hx1115_1, hx1115_2, hx1115_3, hx1115_4⟩ := Qf1 (Kd.R_reads' HO1114.out).2.2 0 p1115 q1115
    cases e1115
    have qi1115 : (0 < t1111.length) = True := eq_true (by omega)
    (try rw [show ((0 : Int)).toNat = 0 from rfl] at hx1115_0)
    (try rw [show 0 * 5 = 0 from rfl] at hx1115_0)
    (try rw [Addr.add_zero'] at hx1115_0)
    (try rw [show ((0 : Int)).toNat = 0 from rfl] at hx1115_1)
    (try rw [show 0 * 5 = 0 from rfl] at hx1115_1)
    (try rw [Addr.add_zero'] at hx1115_1)
    (try rw [show ((0 : Int)).toNat = 0 from rfl] at hx1115_2)
    (try rw [show 0 * 5 = 0 from rfl] at hx1115_2)
    (try rw [Addr.add_zero'] at hx1115_2)
    (try rw [show ((0 : Int)).toNat = 0 from rfl] at hx1115_3)
    (try rw [show 0 * 5 = 0 from rfl] at hx1115_3)
    (try rw [Addr.add_zero'] at hx1115_3)
    (try rw [show ((0 : Int)).toNat = 0 from rfl] at hx1115_4)
    (try rw [show 0 * 5 = 0 from rfl] at hx1115_4)
    (try rw [Addr.add_zero'] at hx1115_4)
    replace p1115 := eq_true p1115
    replace q1115 := eq_true q1115
    have hnb17 := NB1107_1106.out
    have hnc17 := NB1106_1107.out
    obtain ⟨hcz18_0, hfz18_0⟩ := Zy (v := (.string (⟨#[]⟩ : ByteArray))) BK1107.out 0
    obtain ⟨hcz18_1, hfz18_1⟩ := Zy (v := (.string (⟨#[]⟩ : ByteArray))) BK1107.out 1
    obtain ⟨hcz18_2, hfz18_2⟩ := Zy (v := (.int .i64 0)) BK1107.out 2
    obtain ⟨hcz18_3, hfz18_3⟩ := Zy (v := (.int .i64 0)) BK1107.out 3
    obtain ⟨hcz18_4, hfz18_4⟩ := Zy (v := (.int .i64 0)) BK1107.out 4
    go_wp2
    refine bodyPost_ret (Qcb rfl _ _ gb1107 108 #[.string ((Qbk t1111 0).f0.f0), .string ((Qbk t1111 0).f0.f1), .int .i64 ((Qbk t1111 0).f1), .int .i64 ((Qbk t1111 0).f2), .int .i64 ((Qbk t1111 0).f3)] (0, 0) _ rfl (Zp2 BK1107.out) Try.underlying108 rfl (by kernel_rfl)) rfl ?_
    exact ⟨Zq, Zc2 GE1106.out GE1107.out⟩
   rw [if_neg c16] at H
   exact absurd H (by simp)
  rw [if_neg c15] at H
  have c15b0 : ((t1111.length : Int) == 1) = false := beq_eq_false_iff_ne.mpr c15
  have c15b1 : ((t1111.length : Int) != 1) = true := bne_iff_ne.mpr c15
  (try simp only [c15b0, c15b1])
  simp only [Option.some.injEq, Prod.mk.injEq] at H
  obtain ⟨rfl, rfl, rfl, rfl, rfl, rfl⟩ := H
  have hnb19 := NB1107_1106.out
  have hnc19 := NB1106_1107.out
  obtain ⟨hcz20_0, hfz20_0⟩ := Zy (v := (.string (⟨#[]⟩ : ByteArray))) BK1107.out 0
  obtain ⟨hcz20_1, hfz20_1⟩ := Zy (v := (.string (⟨#[]⟩ : ByteArray))) BK1107.out 1
  obtain ⟨hcz20_2, hfz20_2⟩ := Zy (v := (.int .i64 0)) BK1107.out 2
  obtain ⟨hcz20_3, hfz20_3⟩ := Zy (v := (.int .i64 0)) BK1107.out 3
  obtain ⟨hcz20_4, hfz20_4⟩ := Zy (v := (.int .i64 0)) BK1107.out 4
  go_wp2
  refine bodyPost_ret (Qcb rfl _ _ gb1107 108 #[.string (⟨#[]⟩ : ByteArray), .string (⟨#[]⟩ : ByteArray), .int .i64 0, .int .i64 0, .int .i64 0] (0, 0) _ rfl (Zp2 BK1107.out) Try.underlying108 rfl (by kernel_rfl)) rfl ?_
  exact ⟨Zq, Zc2 GE1106.out GE1107.out⟩
 rw [if_neg c13] at H
 have c13b0 : (t1112 == 0) = false := beq_eq_false_iff_ne.mpr c13
 have c13b1 : (t1112 != 0) = true := bne_iff_ne.mpr c13
 (try simp only [c13b0, c13b1])
 simp only [Option.some.injEq, Prod.mk.injEq] at H
 obtain ⟨rfl, rfl, rfl, rfl, rfl, rfl⟩ := H
 have hnb21 := NB1107_1106.out
 have hnc21 := NB1106_1107.out
 obtain ⟨hcz22_0, hfz22_0⟩ := Zy (v := (.string (⟨#[]⟩ : ByteArray))) BK1107.out 0
 obtain ⟨hcz22_1, hfz22_1⟩ := Zy (v := (.string (⟨#[]⟩ : ByteArray))) BK1107.out 1
 obtain ⟨hcz22_2, hfz22_2⟩ := Zy (v := (.int .i64 0)) BK1107.out 2
 obtain ⟨hcz22_3, hfz22_3⟩ := Zy (v := (.int .i64 0)) BK1107.out 3
 obtain ⟨hcz22_4, hfz22_4⟩ := Zy (v := (.int .i64 0)) BK1107.out 4
 go_wp2
 refine bodyPost_ret (Qcb rfl _ _ gb1107 108 #[.string (⟨#[]⟩ : ByteArray), .string (⟨#[]⟩ : ByteArray), .int .i64 0, .int .i64 0, .int .i64 0] (0, 0) _ rfl (Zp2 BK1107.out) Try.underlying108 rfl (by kernel_rfl)) rfl ?_
 exact ⟨Zq, Zc2 GE1106.out GE1107.out⟩
end Go.Proofs.Ytgnmhfjfefgbfaa.Pr
