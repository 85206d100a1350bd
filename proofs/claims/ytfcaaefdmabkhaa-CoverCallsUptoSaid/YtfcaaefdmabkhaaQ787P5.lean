/- Functions' values and contracts, as the print wrote them. -/
import Derived.Test.YtfcaaefdmabkhaaQ787P0
import Derived.Test.YtfcaaefdmabkhaaQ787P4
import Derived.Test.YtfcaaefdmabkhaaQ787P1
namespace Go.Proofs.Ytfcaaefdmabkhaa.Pr
open Bool renaming true → T
open Bool renaming false → F
open Go.RowKit Go.Proofs.YtfcaaefdmabkhaaW.PrintWords Go.Proofs.YtfcaaefdmabkhaaW.PrintLast Go.Proofs.YtfcaaefdmabkhaaW.PrintMore
attribute [local go_sem] QaP QaR QaW QaX QaL QaM QaQ QaS   -- for this text's walks alone
set_option linter.unusedVariables false
set_option linter.unusedSimpArgs false
set_option maxRecDepth 100000
set_option maxHeartbeats 8000000
def Qa2.l0 : Nat → List (S50) → List (S48) → Int → Int → List (S46) → List (S84) → List (S98) → Option ((List (S50)) × Int)
 | 0, _, _, _, _, _, _, _ => none
 | k + 1, x11, x21, x22, x23, x279000, x280000, x281000 => if x23 < x22 then (if 0 ≤ x23 then (if x23 < (x21.length : Int) then ((Qbq.f ((rd_T48 x21 x23).f7)).bind fun t283 => (if t283 = T then ((Qbm.f k x279000 ((rd_T48 x21 x23).f0.f0) ((rd_T48 x21 x23).f0.f1) ((rd_T48 x21 x23).f7) x280000 x281000).bind fun bt285 => (if bt285.2 = 0 then ((Qbu.f ((rd_T48 x21 x23).f7) bt285.1).bind fun bt287 => (if bt287.2 = 0 then (if x11.length < 2513169434916 then (Qa2.l0 k (x11 ++ [(⟨(⟨(rd_T48 x21 x23).f0.f0, (rd_T48 x21 x23).f0.f1⟩ : S44), (rd_T48 x21 x23).f7, bt285.1, bt287.1⟩ : S50)]) x21 x22 (wrap64 (x23 + 1)) x279000 x280000 x281000) else (none)) else (some (([] : List (S50)), bt287.2)))) else (some (([] : List (S50)), bt285.2)))) else (some (([] : List (S50)), 2)))) else (none)) else (none)) else (some (x11, 0))
def Qa2.f (k : Nat) (l0 : List (S48)) (l1 : List (S46)) (l2 : List (S84)) (l3 : List (S98)) : Option ((List (S50)) × Int) := if (l0.length : Int) > 1024 then (some (([] : List (S50)), 8)) else (Qa2.l0 k ([] : List (S50)) l0 (l0.length : Int) 0 l1 l2 l3)
theorem Qa2.mono_l : ∀ k, (∀ y0 y1 y2 y3 y4 y5 y6, LeO (Qa2.l0 k y0 y1 y2 y3 y4 y5 y6) (Qa2.l0 (k + 1) y0 y1 y2 y3 y4 y5 y6))
 | 0 => fun _ _ _ _ _ _ _ r h => by simp [Qa2.l0] at h
 | k + 1 => by
  have ih0 := Qa2.mono_l k
  intro y0 y1 y2 y3 y4 y5 y6
  unfold Qa2.l0
  exact ZM2 ih0 Qbm.mono
theorem Qa2.mono : ∀ a0 a1 a2 a3 k, LeO (Qa2.f k a0 a1 a2 a3) (Qa2.f (k + 1) a0 a1 a2 a3) := by
 intro a0 a1 a2 a3 k
 have ih0 := Qa2.mono_l k
 unfold Qa2.f
 exact ZM2 ih0 Qbm.mono
theorem Qa2.calls (k : Nat) (A0 : Option Addr) (c0 : Nat) (l0 : List (S48)) (A1 : Option Addr) (c1 : Nat) (l1 : List (S46)) (A2 : Option Addr) (c2 : Nat) (l2 : List (S84)) (A3 : Option Addr) (c3 : Nat) (l3 : List (S98)) (r1 : List (S50)) (r2 : Int) (w : World) (hr0 : Kd.C k48 w A0 l0.length l0) (hc0 : l0.length ≤ c0) (hr1 : Kd.C k46 w A1 l1.length l1) (hc1 : l1.length ≤ c1) (hr2 : Kd.C k84 w A2 l2.length l2) (hc2 : l2.length ≤ c2) (hr3 : Kd.C k98 w A3 l3.length l3) (hc3 : l3.length ≤ c3) (h : Qa2.f k l0 l1 l2 l3 = some (r1, r2)) :
  Calls Try.prog 18 #[.slice A0 l0.length c0, .slice A1 l1.length c1, .slice A2 l2.length c2, .slice A3 l3.length c3] w fun e w' => ∃ v0_ : Value, e = .returned (.tuple #[v0_, .int .i64 r2]) ∧ Kd.R k50 50 w' w.heap.size (fun _ => True) v0_ r1 ∧ Below w.heap.size w w' := by
 have hu48 := Try.underlying48
 have hu44 := Try.underlying44
 have hu50 := Try.underlying50
 have HR0 := Aside0.mk hr0
 have HC0 := Aside0.mk hc0
 clear hr0 hc0
 have HR1 := Aside0.mk hr1
 have HC1 := Aside0.mk hc1
 clear hr1 hc1
 have HR2 := Aside0.mk hr2
 have HC2 := Aside0.mk hc2
 clear hr2 hc2
 have HR3 := Aside0.mk hr3
 have HC3 := Aside0.mk hc3
 clear hr3 hc3
 have HB := Aside0.mk (Below.refl w.heap.size w)
 have H : (if (l0.length : Int) > 1024 then (some (([] : List (S50)), 8)) else (Qa2.l0 k ([] : List (S50)) l0 (l0.length : Int) 0 l1 l2 l3)) = some (r1, r2) := h
 clear h
 go_enter Try.func18, Try.ntmps18
 go_upto_if 19 with (first | ((with_reducible refine QaJ (N := 5) rfl ?_); (refine gate_n (n := 65) rfl ?_); refine Zbx (N := 5) (cs := #[.slice A1 l1.length c1]) (t := 30) ?_; intro gb278 hg w5 hbox hb; have BK278 := Aside0.mk (hbox); have GW278 := Aside0.mk (Zt w hg (Zb)); have GE278 := GW278; replace HB := Aside0.mk (Qap (Zb) hb); clear hb hbox hg) | ((with_reducible refine QaJ (N := 6) rfl ?_); (refine gate_n (n := 65) rfl ?_); refine Zbx (N := 6) (cs := #[.slice A2 l2.length c2]) (t := 31) ?_; intro gb279 hg w6 hbox hb; have BK279 := Aside0.mk (hbox); have GW279 := Aside0.mk (Zt w hg (Zc1 GE278.out)); have GE279 := GW279; have NB278_279 := Aside0.mk (Zn hg BK278.out); have NB279_278 := Aside0.mk NB278_279.out.symm; replace BK278 := Aside0.mk (Zi BK278.out hb); replace HB := Aside0.mk (Qap (Zc1 GE278.out) hb); clear hb hbox hg) | ((with_reducible refine QaJ (N := 7) rfl ?_); (refine gate_n (n := 65) rfl ?_); refine Zbx (N := 7) (cs := #[.slice A3 l3.length c3]) (t := 32) ?_; intro gb280 hg w7 hbox hb; have BK280 := Aside0.mk (hbox); have GW280 := Aside0.mk (Zt w hg (Zc2 GE278.out GE279.out)); have GE280 := GW280; have NB278_280 := Aside0.mk (Zn hg BK278.out); have NB280_278 := Aside0.mk NB278_280.out.symm; have NB279_280 := Aside0.mk (Zn hg BK279.out); have NB280_279 := Aside0.mk NB279_280.out.symm; replace BK278 := Aside0.mk (Zi BK278.out hb); replace BK279 := Aside0.mk (Zi BK279.out hb); replace HB := Aside0.mk (Qap (Zc2 GE278.out GE279.out) hb); clear hb hbox hg))
 (try simp only [Act.put, Zj, Zk, Zm])
 by_cases c8 : (l0.length : Int) > 1024
 ·rw [if_pos c8] at H
  have c8b0 : decide (1024 < (l0.length : Int)) = T := decide_eq_true c8
  have c8b1 : decide (1024 < l0.length) = T := decide_eq_true (by omega)
  clear c8
  (try simp only [c8b0, c8b1])
  simp only [Option.some.injEq, Prod.mk.injEq] at H
  obtain ⟨rfl, rfl⟩ := H
  go_wp2
  go_ret2
  exact ⟨_, Zq, by first | exact Kd.R_nil _ _ _ _ _ | exact Kd.N_nil _ _ _ _ _ | exact Kd.V_nil _ _ _ _ _ | exact Kd.Q_nil _ _ _ _ _ | exact Kd.S_nil _ _ _ _ _, Zc3 GE278.out GE279.out GE280.out⟩
 rw [if_neg c8] at H
 have c8b0 : decide (1024 < (l0.length : Int)) = F := decide_eq_false c8
 have c8b1 : decide (1024 < l0.length) = F := decide_eq_false (by omega)
 clear c8
 (try simp only [c8b0, c8b1])
 have H' := Aside0.mk H
 clear H
 go_wp2
 go_loopg [11, 23] k (fun kq v11 v23 w' => ∃ (x11_1 : List (S50)) (x23_1 : Int), v23 = .int .i64 x23_1 ∧ Aside0 (Qa2.l0 kq x11_1 l0 (l0.length : Int) x23_1 l1 l2 l3 = some (r1, r2)) ∧ Aside0 (kq ≤ k) ∧ Aside0 (Kd.R k50 50 w' w.heap.size (fun _ => True) v11 x11_1) ∧ Aside0 (w'.heap[gb278]? = some (.cells #[(.slice A1 l1.length c1)] 30 (0, 0))) ∧ Aside0 (w'.heap[gb279]? = some (.cells #[(.slice A2 l2.length c2)] 31 (0, 0))) ∧ Aside0 (w'.heap[gb280]? = some (.cells #[(.slice A3 l3.length c3)] 32 (0, 0))) ∧ Aside0 (Below w.heap.size w w'))
 case atStart => exact ⟨(([] : List (S50))), (0), (Zs), H', ⟨Nat.le_refl _⟩, ⟨by first | exact Kd.R_nil _ _ _ _ _ | exact Kd.N_nil _ _ _ _ _ | exact Kd.V_nil _ _ _ _ _ | exact Kd.Q_nil _ _ _ _ _ | exact Kd.S_nil _ _ _ _ _⟩, ⟨Zu BK278.out⟩, ⟨Zu BK279.out⟩, ⟨Zu BK280.out⟩, ⟨Zc3 GE278.out GE279.out GE280.out⟩⟩
 case round =>
  clear H'
  try clear c1
  try clear c2
  try clear p2
  try clear c3
  try clear c8
  try clear c8b0
  try clear c8b1
  obtain ⟨x11_1, x23_1, rfl, HA, HK1, HO_11, BK278, BK279, BK280, HB⟩ := hrel
  cases gk with
  | zero => exact absurd HA.out (by simp [Qa2.l0])
  | succ k1 =>
   have H := HA.out
   clear HA
   simp only [Qa2.l0] at H
   by_cases c9 : x23_1 < (l0.length : Int)
   ·rw [if_pos c9] at H
    have c9b0 : decide (x23_1 < (l0.length : Int)) = T := decide_eq_true c9
    clear c9
    (try simp only [c9b0])
    by_cases c10 : 0 ≤ x23_1
    ·rw [if_pos c10] at H
     have c10b0 : decide (0 ≤ x23_1) = T := decide_eq_true c10
     clear c10
     by_cases c11 : x23_1 < (l0.length : Int)
     ·rw [if_pos c11] at H
      have c11b0 : decide (x23_1 < (l0.length : Int)) = T := decide_eq_true c11
      clear c11
      replace H := Option.bind_eq_some_iff.mp H
      obtain ⟨t283, A120, H⟩ := H
      replace H : (if t283 = T then ((Qbm.f k1 l1 ((rd_T48 l0 x23_1).f0.f0) ((rd_T48 l0 x23_1).f0.f1) ((rd_T48 l0 x23_1).f7) l2 l3).bind fun bt285 => (if bt285.2 = 0 then ((Qbu.f ((rd_T48 l0 x23_1).f7) bt285.1).bind fun bt287 => (if bt287.2 = 0 then (if x11_1.length < 2513169434916 then (Qa2.l0 k1 (x11_1 ++ [(⟨(⟨(rd_T48 l0 x23_1).f0.f0, (rd_T48 l0 x23_1).f0.f1⟩ : S44), (rd_T48 l0 x23_1).f7, bt285.1, bt287.1⟩ : S50)]) l0 (l0.length : Int) (wrap64 (x23_1 + 1)) l1 l2 l3) else (none)) else (some (([] : List (S50)), bt287.2)))) else (some (([] : List (S50)), bt285.2)))) else (some (([] : List (S50)), 2))) = some (r1, r2) := H
      have A12 := Aside0.mk A120
      clear A120
      have p281 : 0 ≤ (x23_1 : Int) := Ze
      have q281 : x23_1 < (l0.length : Int) := Ze
      obtain ⟨ad281, e281, hx281_0, hx281_1, hx281_2, hx281_3, hx281_4, hx281_5, hx281_6, hx281_7, hx281_8⟩ := at_T48 HR0.out x23_1 p281 q281
      cases e281
      replace hx281_0 := Zx HB.out hx281_0
      replace hx281_1 := Zx HB.out hx281_1
      replace hx281_2 := Zx HB.out hx281_2
      replace hx281_3 := Zx HB.out hx281_3
      replace hx281_4 := Zx HB.out hx281_4
      replace hx281_5 := Zx HB.out hx281_5
      replace hx281_6 := Zx HB.out hx281_6
      replace hx281_7 := Zx HB.out hx281_7
      replace hx281_8 := Zx HB.out hx281_8
      replace p281 := eq_true p281
      replace q281 := eq_true q281
      go_upto_if 30 with (first | ((with_reducible refine QaJ (N := 13) rfl ?_); (refine gate_n (n := 65) rfl ?_); refine Zbx (N := 13) (cs := #[.string (⟨#[]⟩ : ByteArray), .string (⟨#[]⟩ : ByteArray), .int .i64 0, .int .i64 0, .int .i64 0, .int .i64 0, .int .i64 0, .int .i64 0, .int .i64 0]) (t := 48) ?_; intro gb282 hg w13 hbox hb; have BK282 := Aside0.mk (hbox); have GW282 := Aside0.mk (Zt w hg (Zc3 GE278.out GE279.out GE280.out)); have GE282 := GW282; have NB278_282 := Aside0.mk (Zn hg BK278.out); have NB282_278 := Aside0.mk NB278_282.out.symm; have NB279_282 := Aside0.mk (Zn hg BK279.out); have NB282_279 := Aside0.mk NB279_282.out.symm; have NB280_282 := Aside0.mk (Zn hg BK280.out); have NB282_280 := Aside0.mk NB280_282.out.symm; replace HO_11 := Aside0.mk (Kd.R_below (Zr HO_11.out) hb); replace BK278 := Aside0.mk (Zi BK278.out hb); replace BK279 := Aside0.mk (Zi BK279.out hb); replace BK280 := Aside0.mk (Zi BK280.out hb); replace HB := Aside0.mk (Qap (Zc3 GE278.out GE279.out GE280.out) hb); clear hb hbox hg; have hnb14 := NB282_278.out; have hnc14 := NB278_282.out; have hnb15 := NB282_279.out; have hnc15 := NB279_282.out; have hnb16 := NB282_280.out; have hnc16 := NB280_282.out; obtain ⟨hcz17_0, hfz17_0⟩ := Zy (v := (.string (⟨#[]⟩ : ByteArray))) BK282.out 0; obtain ⟨hcz17_1, hfz17_1⟩ := Zy (v := (.string (⟨#[]⟩ : ByteArray))) BK282.out 1; obtain ⟨hcz17_2, hfz17_2⟩ := Zy (v := (.int .i64 0)) BK282.out 2; obtain ⟨hcz17_3, hfz17_3⟩ := Zy (v := (.int .i64 0)) BK282.out 3; obtain ⟨hcz17_4, hfz17_4⟩ := Zy (v := (.int .i64 0)) BK282.out 4; obtain ⟨hcz17_5, hfz17_5⟩ := Zy (v := (.int .i64 0)) BK282.out 5; obtain ⟨hcz17_6, hfz17_6⟩ := Zy (v := (.int .i64 0)) BK282.out 6; obtain ⟨hcz17_7, hfz17_7⟩ := Zy (v := (.int .i64 0)) BK282.out 7; obtain ⟨hcz17_8, hfz17_8⟩ := Zy (v := (.int .i64 0)) BK282.out 8) | ((with_reducible refine Qay (f := 51) rfl ?_); refine goesL_ (some 29) rfl rfl Try.func51 (by kernel_rfl) rfl #[.int .i64 ((rd_T48 l0 x23_1).f7)] rfl (Zl) ?_; (with_reducible refine (Qbq.calls ((rd_T48 l0 x23_1).f7) t283 _ A12.out).mono ?_); rintro e w' ⟨rfl, ⟨nd, rfl⟩⟩; refine ⟨_, rfl, ?_⟩))
      (try simp only [Act.put, Zj, Zk, Zm])
      by_cases c18 : t283 = T
      ·subst c18
       have H1 : ((Qbm.f k1 l1 ((rd_T48 l0 x23_1).f0.f0) ((rd_T48 l0 x23_1).f0.f1) ((rd_T48 l0 x23_1).f7) l2 l3).bind fun bt285 => (if bt285.2 = 0 then ((Qbu.f ((rd_T48 l0 x23_1).f7) bt285.1).bind fun bt287 => (if bt287.2 = 0 then (if x11_1.length < 2513169434916 then (Qa2.l0 k1 (x11_1 ++ [(⟨(⟨(rd_T48 l0 x23_1).f0.f0, (rd_T48 l0 x23_1).f0.f1⟩ : S44), (rd_T48 l0 x23_1).f7, bt285.1, bt287.1⟩ : S50)]) l0 (l0.length : Int) (wrap64 (x23_1 + 1)) l1 l2 l3) else (none)) else (some (([] : List (S50)), bt287.2)))) else (some (([] : List (S50)), bt285.2)))) = some (r1, r2) := by rw [if_pos rfl] at H; exact H
       clear H
       have H := H1
       clear H1
       replace H := Option.bind_eq_some_iff.mp H
       obtain ⟨⟨t285, t286⟩, A190, H⟩ := H
       replace H : (if t286 = 0 then ((Qbu.f ((rd_T48 l0 x23_1).f7) t285).bind fun bt287 => (if bt287.2 = 0 then (if x11_1.length < 2513169434916 then (Qa2.l0 k1 (x11_1 ++ [(⟨(⟨(rd_T48 l0 x23_1).f0.f0, (rd_T48 l0 x23_1).f0.f1⟩ : S44), (rd_T48 l0 x23_1).f7, t285, bt287.1⟩ : S50)]) l0 (l0.length : Int) (wrap64 (x23_1 + 1)) l1 l2 l3) else (none)) else (some (([] : List (S50)), bt287.2)))) else (some (([] : List (S50)), t286))) = some (r1, r2) := H
       have A19 := Aside0.mk A190
       clear A190
       have hnb20 := NB282_278.out
       have hnc20 := NB278_282.out
       have hnb21 := NB282_279.out
       have hnc21 := NB279_282.out
       have hnb22 := NB282_280.out
       have hnc22 := NB280_282.out
       obtain ⟨hcz23_0, hfz23_0⟩ := Zy (v := (.string (⟨#[]⟩ : ByteArray))) BK282.out 0
       obtain ⟨hcz23_1, hfz23_1⟩ := Zy (v := (.string (⟨#[]⟩ : ByteArray))) BK282.out 1
       obtain ⟨hcz23_2, hfz23_2⟩ := Zy (v := (.int .i64 0)) BK282.out 2
       obtain ⟨hcz23_3, hfz23_3⟩ := Zy (v := (.int .i64 0)) BK282.out 3
       obtain ⟨hcz23_4, hfz23_4⟩ := Zy (v := (.int .i64 0)) BK282.out 4
       obtain ⟨hcz23_5, hfz23_5⟩ := Zy (v := (.int .i64 0)) BK282.out 5
       obtain ⟨hcz23_6, hfz23_6⟩ := Zy (v := (.int .i64 0)) BK282.out 6
       obtain ⟨hcz23_7, hfz23_7⟩ := Zy (v := (.int .i64 0)) BK282.out 7
       obtain ⟨hcz23_8, hfz23_8⟩ := Zy (v := (.int .i64 0)) BK282.out 8
       go_upto_region 11 with (first | (go_at_call 52; go_in) | ((with_reducible refine QaJ (N := 5) rfl ?_); (refine gate_n (n := 17) rfl ?_); refine Zbx (N := 5) (cs := #[.string ((rd_T48 l0 x23_1).f0.f0), .string ((rd_T48 l0 x23_1).f0.f1)]) (t := 44) ?_; intro gb284 hg w24 hbox hb; have BK284 := Aside0.mk (hbox); have GW284 := Aside0.mk (Zt w hg (Zc4 GE278.out GE279.out GE280.out GE282.out)); have GE284 := GW284; have NB278_284 := Aside0.mk ((by rw [hg]; exact Nat.ne_of_lt (blk_lt (g := gb278) (o := .cells #[.slice A1 l1.length c1] 30 (0, 0)) (by (with_reducible repeat (first | refine Qac ?_ _ | refine Qad ?_ | refine Qab ?_ _)); refine Qao ?_ NB278_282.out _; (with_reducible repeat (first | refine Qac ?_ _ | refine Qad ?_ | refine Qab ?_ _)); refine Qao ?_ NB278_282.out _; (with_reducible repeat (first | refine Qac ?_ _ | refine Qad ?_ | refine Qab ?_ _)); refine Qao ?_ NB278_282.out _; (with_reducible repeat (first | refine Qac ?_ _ | refine Qad ?_ | refine Qab ?_ _)); refine Qao ?_ NB278_282.out _; (with_reducible repeat (first | refine Qac ?_ _ | refine Qad ?_ | refine Qab ?_ _)); refine Qao ?_ NB278_282.out _; (with_reducible repeat (first | refine Qac ?_ _ | refine Qad ?_ | refine Qab ?_ _)); refine Qao ?_ NB278_282.out _; (with_reducible repeat (first | refine Qac ?_ _ | refine Qad ?_ | refine Qab ?_ _)); refine Qao ?_ NB278_282.out _; (with_reducible repeat (first | refine Qac ?_ _ | refine Qad ?_ | refine Qab ?_ _)); refine Qao ?_ NB278_282.out _; (with_reducible repeat (first | refine Qac ?_ _ | refine Qad ?_ | refine Qab ?_ _)); refine Qao ?_ NB278_282.out _; (with_reducible repeat (first | refine Qac ?_ _ | refine Qad ?_ | refine Qab ?_ _)); exact BK278.out)) : gb278 ≠ gb284)); have NB284_278 := Aside0.mk ((by rw [hg]; exact Nat.ne_of_gt (blk_lt (g := gb278) (o := .cells #[.slice A1 l1.length c1] 30 (0, 0)) (by (with_reducible repeat (first | refine Qac ?_ _ | refine Qad ?_ | refine Qab ?_ _)); refine Qao ?_ NB278_282.out _; (with_reducible repeat (first | refine Qac ?_ _ | refine Qad ?_ | refine Qab ?_ _)); refine Qao ?_ NB278_282.out _; (with_reducible repeat (first | refine Qac ?_ _ | refine Qad ?_ | refine Qab ?_ _)); refine Qao ?_ NB278_282.out _; (with_reducible repeat (first | refine Qac ?_ _ | refine Qad ?_ | refine Qab ?_ _)); refine Qao ?_ NB278_282.out _; (with_reducible repeat (first | refine Qac ?_ _ | refine Qad ?_ | refine Qab ?_ _)); refine Qao ?_ NB278_282.out _; (with_reducible repeat (first | refine Qac ?_ _ | refine Qad ?_ | refine Qab ?_ _)); refine Qao ?_ NB278_282.out _; (with_reducible repeat (first | refine Qac ?_ _ | refine Qad ?_ | refine Qab ?_ _)); refine Qao ?_ NB278_282.out _; (with_reducible repeat (first | refine Qac ?_ _ | refine Qad ?_ | refine Qab ?_ _)); refine Qao ?_ NB278_282.out _; (with_reducible repeat (first | refine Qac ?_ _ | refine Qad ?_ | refine Qab ?_ _)); refine Qao ?_ NB278_282.out _; (with_reducible repeat (first | refine Qac ?_ _ | refine Qad ?_ | refine Qab ?_ _)); exact BK278.out)) : gb284 ≠ gb278)); have NB279_284 := Aside0.mk ((by rw [hg]; exact Nat.ne_of_lt (blk_lt (g := gb279) (o := .cells #[.slice A2 l2.length c2] 31 (0, 0)) (by (with_reducible repeat (first | refine Qac ?_ _ | refine Qad ?_ | refine Qab ?_ _)); refine Qao ?_ NB279_282.out _; (with_reducible repeat (first | refine Qac ?_ _ | refine Qad ?_ | refine Qab ?_ _)); refine Qao ?_ NB279_282.out _; (with_reducible repeat (first | refine Qac ?_ _ | refine Qad ?_ | refine Qab ?_ _)); refine Qao ?_ NB279_282.out _; (with_reducible repeat (first | refine Qac ?_ _ | refine Qad ?_ | refine Qab ?_ _)); refine Qao ?_ NB279_282.out _; (with_reducible repeat (first | refine Qac ?_ _ | refine Qad ?_ | refine Qab ?_ _)); refine Qao ?_ NB279_282.out _; (with_reducible repeat (first | refine Qac ?_ _ | refine Qad ?_ | refine Qab ?_ _)); refine Qao ?_ NB279_282.out _; (with_reducible repeat (first | refine Qac ?_ _ | refine Qad ?_ | refine Qab ?_ _)); refine Qao ?_ NB279_282.out _; (with_reducible repeat (first | refine Qac ?_ _ | refine Qad ?_ | refine Qab ?_ _)); refine Qao ?_ NB279_282.out _; (with_reducible repeat (first | refine Qac ?_ _ | refine Qad ?_ | refine Qab ?_ _)); refine Qao ?_ NB279_282.out _; (with_reducible repeat (first | refine Qac ?_ _ | refine Qad ?_ | refine Qab ?_ _)); exact BK279.out)) : gb279 ≠ gb284)); have NB284_279 := Aside0.mk ((by rw [hg]; exact Nat.ne_of_gt (blk_lt (g := gb279) (o := .cells #[.slice A2 l2.length c2] 31 (0, 0)) (by (with_reducible repeat (first | refine Qac ?_ _ | refine Qad ?_ | refine Qab ?_ _)); refine Qao ?_ NB279_282.out _; (with_reducible repeat (first | refine Qac ?_ _ | refine Qad ?_ | refine Qab ?_ _)); refine Qao ?_ NB279_282.out _; (with_reducible repeat (first | refine Qac ?_ _ | refine Qad ?_ | refine Qab ?_ _)); refine Qao ?_ NB279_282.out _; (with_reducible repeat (first | refine Qac ?_ _ | refine Qad ?_ | refine Qab ?_ _)); refine Qao ?_ NB279_282.out _; (with_reducible repeat (first | refine Qac ?_ _ | refine Qad ?_ | refine Qab ?_ _)); refine Qao ?_ NB279_282.out _; (with_reducible repeat (first | refine Qac ?_ _ | refine Qad ?_ | refine Qab ?_ _)); refine Qao ?_ NB279_282.out _; (with_reducible repeat (first | refine Qac ?_ _ | refine Qad ?_ | refine Qab ?_ _)); refine Qao ?_ NB279_282.out _; (with_reducible repeat (first | refine Qac ?_ _ | refine Qad ?_ | refine Qab ?_ _)); refine Qao ?_ NB279_282.out _; (with_reducible repeat (first | refine Qac ?_ _ | refine Qad ?_ | refine Qab ?_ _)); refine Qao ?_ NB279_282.out _; (with_reducible repeat (first | refine Qac ?_ _ | refine Qad ?_ | refine Qab ?_ _)); exact BK279.out)) : gb284 ≠ gb279)); have NB280_284 := Aside0.mk ((by rw [hg]; exact Nat.ne_of_lt (blk_lt (g := gb280) (o := .cells #[.slice A3 l3.length c3] 32 (0, 0)) (by (with_reducible repeat (first | refine Qac ?_ _ | refine Qad ?_ | refine Qab ?_ _)); refine Qao ?_ NB280_282.out _; (with_reducible repeat (first | refine Qac ?_ _ | refine Qad ?_ | refine Qab ?_ _)); refine Qao ?_ NB280_282.out _; (with_reducible repeat (first | refine Qac ?_ _ | refine Qad ?_ | refine Qab ?_ _)); refine Qao ?_ NB280_282.out _; (with_reducible repeat (first | refine Qac ?_ _ | refine Qad ?_ | refine Qab ?_ _)); refine Qao ?_ NB280_282.out _; (with_reducible repeat (first | refine Qac ?_ _ | refine Qad ?_ | refine Qab ?_ _)); refine Qao ?_ NB280_282.out _; (with_reducible repeat (first | refine Qac ?_ _ | refine Qad ?_ | refine Qab ?_ _)); refine Qao ?_ NB280_282.out _; (with_reducible repeat (first | refine Qac ?_ _ | refine Qad ?_ | refine Qab ?_ _)); refine Qao ?_ NB280_282.out _; (with_reducible repeat (first | refine Qac ?_ _ | refine Qad ?_ | refine Qab ?_ _)); refine Qao ?_ NB280_282.out _; (with_reducible repeat (first | refine Qac ?_ _ | refine Qad ?_ | refine Qab ?_ _)); refine Qao ?_ NB280_282.out _; (with_reducible repeat (first | refine Qac ?_ _ | refine Qad ?_ | refine Qab ?_ _)); exact BK280.out)) : gb280 ≠ gb284)); have NB284_280 := Aside0.mk ((by rw [hg]; exact Nat.ne_of_gt (blk_lt (g := gb280) (o := .cells #[.slice A3 l3.length c3] 32 (0, 0)) (by (with_reducible repeat (first | refine Qac ?_ _ | refine Qad ?_ | refine Qab ?_ _)); refine Qao ?_ NB280_282.out _; (with_reducible repeat (first | refine Qac ?_ _ | refine Qad ?_ | refine Qab ?_ _)); refine Qao ?_ NB280_282.out _; (with_reducible repeat (first | refine Qac ?_ _ | refine Qad ?_ | refine Qab ?_ _)); refine Qao ?_ NB280_282.out _; (with_reducible repeat (first | refine Qac ?_ _ | refine Qad ?_ | refine Qab ?_ _)); refine Qao ?_ NB280_282.out _; (with_reducible repeat (first | refine Qac ?_ _ | refine Qad ?_ | refine Qab ?_ _)); refine Qao ?_ NB280_282.out _; (with_reducible repeat (first | refine Qac ?_ _ | refine Qad ?_ | refine Qab ?_ _)); refine Qao ?_ NB280_282.out _; (with_reducible repeat (first | refine Qac ?_ _ | refine Qad ?_ | refine Qab ?_ _)); refine Qao ?_ NB280_282.out _; (with_reducible repeat (first | refine Qac ?_ _ | refine Qad ?_ | refine Qab ?_ _)); refine Qao ?_ NB280_282.out _; (with_reducible repeat (first | refine Qac ?_ _ | refine Qad ?_ | refine Qab ?_ _)); refine Qao ?_ NB280_282.out _; (with_reducible repeat (first | refine Qac ?_ _ | refine Qad ?_ | refine Qab ?_ _)); exact BK280.out)) : gb284 ≠ gb280)); have NB282_284 := Aside0.mk ((by rw [hg]; exact Nat.ne_of_lt (blk_lt (g := gb282) (o := .cells #[.string ((rd_T48 l0 x23_1).f0.f0), .string ((rd_T48 l0 x23_1).f0.f1), .int .i64 ((rd_T48 l0 x23_1).f1), .int .i64 ((rd_T48 l0 x23_1).f2), .int .i64 ((rd_T48 l0 x23_1).f3), .int .i64 ((rd_T48 l0 x23_1).f4), .int .i64 ((rd_T48 l0 x23_1).f5), .int .i64 ((rd_T48 l0 x23_1).f6), .int .i64 ((rd_T48 l0 x23_1).f7)] 48 (0, 0)) (Zp2 BK282.out)) : gb282 ≠ gb284)); have NB284_282 := Aside0.mk ((by rw [hg]; exact Nat.ne_of_gt (blk_lt (g := gb282) (o := .cells #[.string ((rd_T48 l0 x23_1).f0.f0), .string ((rd_T48 l0 x23_1).f0.f1), .int .i64 ((rd_T48 l0 x23_1).f1), .int .i64 ((rd_T48 l0 x23_1).f2), .int .i64 ((rd_T48 l0 x23_1).f3), .int .i64 ((rd_T48 l0 x23_1).f4), .int .i64 ((rd_T48 l0 x23_1).f5), .int .i64 ((rd_T48 l0 x23_1).f6), .int .i64 ((rd_T48 l0 x23_1).f7)] 48 (0, 0)) (Zp2 BK282.out)) : gb284 ≠ gb282)); replace HO_11 := Aside0.mk (Kd.R_below (by (with_reducible repeat (first | apply Kd.R_alloc | apply Kd.R_drewN | apply Kd.R_drew)); exact (Kd.R_mono (Zf gb282 8 (Zf gb282 7 (Zf gb282 6 (Zf gb282 5 (Zf gb282 4 (Zf gb282 3 (Zf gb282 2 (Zf gb282 1 (Zf gb282 0 (Kd.R_types HO_11.out BK282.out (by decide)) (.string ((rd_T48 l0 x23_1).f0.f0))) (.string ((rd_T48 l0 x23_1).f0.f1))) (.int .i64 ((rd_T48 l0 x23_1).f1))) (.int .i64 ((rd_T48 l0 x23_1).f2))) (.int .i64 ((rd_T48 l0 x23_1).f3))) (.int .i64 ((rd_T48 l0 x23_1).f4))) (.int .i64 ((rd_T48 l0 x23_1).f5))) (.int .i64 ((rd_T48 l0 x23_1).f6))) (.int .i64 ((rd_T48 l0 x23_1).f7))) (fun _ h_ => h_.1))) hb); replace BK278 := Aside0.mk (Qan (g := gb278) (o := .cells #[.slice A1 l1.length c1] 30 (0, 0)) (by (with_reducible repeat (first | refine Qac ?_ _ | refine Qad ?_ | refine Qab ?_ _)); refine Qao ?_ NB278_282.out _; (with_reducible repeat (first | refine Qac ?_ _ | refine Qad ?_ | refine Qab ?_ _)); refine Qao ?_ NB278_282.out _; (with_reducible repeat (first | refine Qac ?_ _ | refine Qad ?_ | refine Qab ?_ _)); refine Qao ?_ NB278_282.out _; (with_reducible repeat (first | refine Qac ?_ _ | refine Qad ?_ | refine Qab ?_ _)); refine Qao ?_ NB278_282.out _; (with_reducible repeat (first | refine Qac ?_ _ | refine Qad ?_ | refine Qab ?_ _)); refine Qao ?_ NB278_282.out _; (with_reducible repeat (first | refine Qac ?_ _ | refine Qad ?_ | refine Qab ?_ _)); refine Qao ?_ NB278_282.out _; (with_reducible repeat (first | refine Qac ?_ _ | refine Qad ?_ | refine Qab ?_ _)); refine Qao ?_ NB278_282.out _; (with_reducible repeat (first | refine Qac ?_ _ | refine Qad ?_ | refine Qab ?_ _)); refine Qao ?_ NB278_282.out _; (with_reducible repeat (first | refine Qac ?_ _ | refine Qad ?_ | refine Qab ?_ _)); refine Qao ?_ NB278_282.out _; (with_reducible repeat (first | refine Qac ?_ _ | refine Qad ?_ | refine Qab ?_ _)); exact BK278.out) hb); replace BK279 := Aside0.mk (Qan (g := gb279) (o := .cells #[.slice A2 l2.length c2] 31 (0, 0)) (by (with_reducible repeat (first | refine Qac ?_ _ | refine Qad ?_ | refine Qab ?_ _)); refine Qao ?_ NB279_282.out _; (with_reducible repeat (first | refine Qac ?_ _ | refine Qad ?_ | refine Qab ?_ _)); refine Qao ?_ NB279_282.out _; (with_reducible repeat (first | refine Qac ?_ _ | refine Qad ?_ | refine Qab ?_ _)); refine Qao ?_ NB279_282.out _; (with_reducible repeat (first | refine Qac ?_ _ | refine Qad ?_ | refine Qab ?_ _)); refine Qao ?_ NB279_282.out _; (with_reducible repeat (first | refine Qac ?_ _ | refine Qad ?_ | refine Qab ?_ _)); refine Qao ?_ NB279_282.out _; (with_reducible repeat (first | refine Qac ?_ _ | refine Qad ?_ | refine Qab ?_ _)); refine Qao ?_ NB279_282.out _; (with_reducible repeat (first | refine Qac ?_ _ | refine Qad ?_ | refine Qab ?_ _)); refine Qao ?_ NB279_282.out _; (with_reducible repeat (first | refine Qac ?_ _ | refine Qad ?_ | refine Qab ?_ _)); refine Qao ?_ NB279_282.out _; (with_reducible repeat (first | refine Qac ?_ _ | refine Qad ?_ | refine Qab ?_ _)); refine Qao ?_ NB279_282.out _; (with_reducible repeat (first | refine Qac ?_ _ | refine Qad ?_ | refine Qab ?_ _)); exact BK279.out) hb); replace BK280 := Aside0.mk (Qan (g := gb280) (o := .cells #[.slice A3 l3.length c3] 32 (0, 0)) (by (with_reducible repeat (first | refine Qac ?_ _ | refine Qad ?_ | refine Qab ?_ _)); refine Qao ?_ NB280_282.out _; (with_reducible repeat (first | refine Qac ?_ _ | refine Qad ?_ | refine Qab ?_ _)); refine Qao ?_ NB280_282.out _; (with_reducible repeat (first | refine Qac ?_ _ | refine Qad ?_ | refine Qab ?_ _)); refine Qao ?_ NB280_282.out _; (with_reducible repeat (first | refine Qac ?_ _ | refine Qad ?_ | refine Qab ?_ _)); refine Qao ?_ NB280_282.out _; (with_reducible repeat (first | refine Qac ?_ _ | refine Qad ?_ | refine Qab ?_ _)); refine Qao ?_ NB280_282.out _; (with_reducible repeat (first | refine Qac ?_ _ | refine Qad ?_ | refine Qab ?_ _)); refine Qao ?_ NB280_282.out _; (with_reducible repeat (first | refine Qac ?_ _ | refine Qad ?_ | refine Qab ?_ _)); refine Qao ?_ NB280_282.out _; (with_reducible repeat (first | refine Qac ?_ _ | refine Qad ?_ | refine Qab ?_ _)); refine Qao ?_ NB280_282.out _; (with_reducible repeat (first | refine Qac ?_ _ | refine Qad ?_ | refine Qab ?_ _)); refine Qao ?_ NB280_282.out _; (with_reducible repeat (first | refine Qac ?_ _ | refine Qad ?_ | refine Qab ?_ _)); exact BK280.out) hb); replace BK282 := Aside0.mk (Zpi #[.string ((rd_T48 l0 x23_1).f0.f0), .string ((rd_T48 l0 x23_1).f0.f1), .int .i64 ((rd_T48 l0 x23_1).f1), .int .i64 ((rd_T48 l0 x23_1).f2), .int .i64 ((rd_T48 l0 x23_1).f3), .int .i64 ((rd_T48 l0 x23_1).f4), .int .i64 ((rd_T48 l0 x23_1).f5), .int .i64 ((rd_T48 l0 x23_1).f6), .int .i64 ((rd_T48 l0 x23_1).f7)] BK282.out hb); replace HB := Aside0.mk (Qap (Zc4 GE278.out GE279.out GE280.out GE282.out) hb); clear hb hbox hg; have hnb25 := NB278_279.out; have hnc25 := NB279_278.out; have hnb26 := NB278_280.out; have hnc26 := NB280_278.out; have hnb27 := NB278_284.out; have hnc27 := NB284_278.out; obtain ⟨hcz28_0, hfz28_0⟩ := Zy (v := (.slice A1 l1.length c1)) BK278.out 0; have hnb29 := NB284_279.out; have hnc29 := NB279_284.out; have hnb30 := NB284_280.out; have hnc30 := NB280_284.out; have hnb31 := NB284_282.out; have hnc31 := NB282_284.out; obtain ⟨hcz32_0, hfz32_0⟩ := Zy (v := (.string ((rd_T48 l0 x23_1).f0.f0))) BK284.out 0; obtain ⟨hcz32_1, hfz32_1⟩ := Zy (v := (.string ((rd_T48 l0 x23_1).f0.f1))) BK284.out 1; have hnb33 := NB279_280.out; have hnc33 := NB280_279.out; obtain ⟨hcz34_0, hfz34_0⟩ := Zy (v := (.slice A2 l2.length c2)) BK279.out 0; obtain ⟨hcz35_0, hfz35_0⟩ := Zy (v := (.slice A3 l3.length c3)) BK280.out 0) | ((with_reducible refine Qay (f := 30) rfl ?_); refine goesL_ (some 14) rfl rfl Try.func30 (by kernel_rfl) rfl #[.slice A1 l1.length c1, .agg #[.string ((rd_T48 l0 x23_1).f0.f0), .string ((rd_T48 l0 x23_1).f0.f1)], .int .i64 ((rd_T48 l0 x23_1).f7), .slice A2 l2.length c2, .slice A3 l3.length c3] rfl (Zl) ?_; (with_reducible refine (Qbm.calls k1 _ _ l1 ((rd_T48 l0 x23_1).f0.f0) ((rd_T48 l0 x23_1).f0.f1) ((rd_T48 l0 x23_1).f7) _ _ l2 _ _ l3 t285 t286 _ ?side1 ?side2 ?side3 ?side4 ?side5 ?side6 A19.out).mono ?_); (case side1 => exact Zv (Kd.C_below HR1.out HB.out)); (case side2 => exact HC1.out); (case side3 => exact Zv (Kd.C_below HR2.out HB.out)); (case side4 => exact HC2.out); (case side5 => exact Zv (Kd.C_below HR3.out HB.out)); (case side6 => exact HC3.out); rintro e w36 ⟨rfl, hb⟩; refine ⟨_, rfl, ?_⟩; replace HO_11 := Aside0.mk (Kd.R_below (Zr HO_11.out) hb); replace BK278 := Aside0.mk (Zi BK278.out hb); replace BK279 := Aside0.mk (Zi BK279.out hb); replace BK280 := Aside0.mk (Zi BK280.out hb); replace BK282 := Aside0.mk (Zi BK282.out hb); replace BK284 := Aside0.mk (Zi BK284.out hb); replace HB := Aside0.mk (Qap (Zc5 GE278.out GE279.out GE280.out GE282.out GE284.out) hb); (try clear hb); (try clear hb2); (try clear hk); (try clear hi)))
       (try simp only [Act.put, Zj, Zk, Zm])
       by_cases c37 : t286 = 0
       ·rw [if_pos c37] at H
        have c37b0 : (t286 == 0) = T := beq_iff_eq.mpr c37
        have c37b1 : (t286 != 0) = F := bne_eq_false_iff_eq.mpr c37
        clear c37
        (try simp only [c37b0, c37b1])
        replace H := Option.bind_eq_some_iff.mp H
        obtain ⟨⟨t287, t288⟩, A380, H⟩ := H
        replace H : (if t288 = 0 then (if x11_1.length < 2513169434916 then (Qa2.l0 k1 (x11_1 ++ [(⟨(⟨(rd_T48 l0 x23_1).f0.f0, (rd_T48 l0 x23_1).f0.f1⟩ : S44), (rd_T48 l0 x23_1).f7, t285, t287⟩ : S50)]) l0 (l0.length : Int) (wrap64 (x23_1 + 1)) l1 l2 l3) else (none)) else (some (([] : List (S50)), t288))) = some (r1, r2) := H
        have A38 := Aside0.mk A380
        clear A380
        have hnb39 := NB282_278.out
        have hnc39 := NB278_282.out
        have hnb40 := NB282_279.out
        have hnc40 := NB279_282.out
        have hnb41 := NB282_280.out
        have hnc41 := NB280_282.out
        have hnb42 := NB282_284.out
        have hnc42 := NB284_282.out
        obtain ⟨hcz43_0, hfz43_0⟩ := Zy (v := (.string ((rd_T48 l0 x23_1).f0.f0))) BK282.out 0
        obtain ⟨hcz43_1, hfz43_1⟩ := Zy (v := (.string ((rd_T48 l0 x23_1).f0.f1))) BK282.out 1
        obtain ⟨hcz43_2, hfz43_2⟩ := Zy (v := (.int .i64 ((rd_T48 l0 x23_1).f1))) BK282.out 2
        obtain ⟨hcz43_3, hfz43_3⟩ := Zy (v := (.int .i64 ((rd_T48 l0 x23_1).f2))) BK282.out 3
        obtain ⟨hcz43_4, hfz43_4⟩ := Zy (v := (.int .i64 ((rd_T48 l0 x23_1).f3))) BK282.out 4
        obtain ⟨hcz43_5, hfz43_5⟩ := Zy (v := (.int .i64 ((rd_T48 l0 x23_1).f4))) BK282.out 5
        obtain ⟨hcz43_6, hfz43_6⟩ := Zy (v := (.int .i64 ((rd_T48 l0 x23_1).f5))) BK282.out 6
        obtain ⟨hcz43_7, hfz43_7⟩ := Zy (v := (.int .i64 ((rd_T48 l0 x23_1).f6))) BK282.out 7
        obtain ⟨hcz43_8, hfz43_8⟩ := Zy (v := (.int .i64 ((rd_T48 l0 x23_1).f7))) BK282.out 8
        go_upto_if 51 with (first | ((with_reducible refine Qay (f := 15) rfl ?_); refine goesL_ (some 47) rfl rfl Try.func15 (by kernel_rfl) rfl #[.int .i64 ((rd_T48 l0 x23_1).f7), .int .i64 t285] rfl (Zl) ?_; (with_reducible refine (Qbu.calls ((rd_T48 l0 x23_1).f7) t285 t287 t288 _ A38.out).mono ?_); rintro e w44 ⟨rfl, hb⟩; refine ⟨_, rfl, ?_⟩; replace HO_11 := Aside0.mk (Kd.R_below (Zr HO_11.out) hb); replace BK278 := Aside0.mk (Zi BK278.out hb); replace BK279 := Aside0.mk (Zi BK279.out hb); replace BK280 := Aside0.mk (Zi BK280.out hb); replace BK282 := Aside0.mk (Zi BK282.out hb); replace BK284 := Aside0.mk (Zi BK284.out hb); replace HB := Aside0.mk (Qap (Zc5 GE278.out GE279.out GE280.out GE282.out GE284.out) hb); (try clear hb); (try clear hb2); (try clear hk); (try clear hi)))
        (try simp only [Act.put, Zj, Zk, Zm])
        by_cases c45 : t288 = 0
        ·rw [if_pos c45] at H
         have c45b0 : (t288 == 0) = T := beq_iff_eq.mpr c45
         have c45b1 : (t288 != 0) = F := bne_eq_false_iff_eq.mpr c45
         clear c45
         (try simp only [c45b0, c45b1])
         by_cases c46 : x11_1.length < 2513169434916
         ·rw [if_pos c46] at H
          have LMc46 := Aside0.mk c46
          clear c46
          obtain ⟨y289, hy289⟩ : ∃ y_ : List (S50), y_ = (x11_1 ++ [(⟨(⟨(rd_T48 l0 x23_1).f0.f0, (rd_T48 l0 x23_1).f0.f1⟩ : S44), (rd_T48 l0 x23_1).f7, t285, t287⟩ : S50)]) := ⟨_, rfl⟩
          replace H : (Qa2.l0 k1 y289 l0 (l0.length : Int) (wrap64 (x23_1 + 1)) l1 l2 l3) = some (r1, r2) := by first | (rw [hy289]; with_reducible exact H) | (have H2_ := (Option.bind_some _ _).symm.trans H; rw [hy289]; with_reducible exact H2_) | (have H2_ := (Option.bind_some _ _).symm.trans H; with_reducible exact H2_) | with_reducible exact H | (rw [hy289]; exact H) | exact H
          have Ny289 := Aside0.mk hy289
          clear hy289
          have H' := Aside0.mk H
          clear H
          have hnb47 := NB282_278.out
          have hnc47 := NB278_282.out
          have hnb48 := NB282_279.out
          have hnc48 := NB279_282.out
          have hnb49 := NB282_280.out
          have hnc49 := NB280_282.out
          have hnb50 := NB282_284.out
          have hnc50 := NB284_282.out
          obtain ⟨hcz51_0, hfz51_0⟩ := Zy (v := (.string ((rd_T48 l0 x23_1).f0.f0))) BK282.out 0
          obtain ⟨hcz51_1, hfz51_1⟩ := Zy (v := (.string ((rd_T48 l0 x23_1).f0.f1))) BK282.out 1
          obtain ⟨hcz51_2, hfz51_2⟩ := Zy (v := (.int .i64 ((rd_T48 l0 x23_1).f1))) BK282.out 2
          obtain ⟨hcz51_3, hfz51_3⟩ := Zy (v := (.int .i64 ((rd_T48 l0 x23_1).f2))) BK282.out 3
          obtain ⟨hcz51_4, hfz51_4⟩ := Zy (v := (.int .i64 ((rd_T48 l0 x23_1).f3))) BK282.out 4
          obtain ⟨hcz51_5, hfz51_5⟩ := Zy (v := (.int .i64 ((rd_T48 l0 x23_1).f4))) BK282.out 5
          obtain ⟨hcz51_6, hfz51_6⟩ := Zy (v := (.int .i64 ((rd_T48 l0 x23_1).f5))) BK282.out 6
          obtain ⟨hcz51_7, hfz51_7⟩ := Zy (v := (.int .i64 ((rd_T48 l0 x23_1).f6))) BK282.out 7
          obtain ⟨hcz51_8, hfz51_8⟩ := Zy (v := (.int .i64 ((rd_T48 l0 x23_1).f7))) BK282.out 8
          go_wp2_with (first | ((with_reducible refine Qbi (b := .append) (xs := #[.tmp 53, .tmp 61]) rfl ?_); at_builtin; refine Kd.R_append k50 (w0 := w) w.heap.size rfl (.tmp 53) (.tmp 61) 35 50 (.agg #[(.string ⟨#[]⟩), (.string ⟨#[]⟩), (.int .i64 0), (.int .i64 0), (.int .i64 0)]) 56 rfl Try.underlying35 info50 rfl (by decide) (by omega) u11 x11_1 (⟨(⟨(rd_T48 l0 x23_1).f0.f0, (rd_T48 l0 x23_1).f0.f1⟩ : S44), (rd_T48 l0 x23_1).f7, t285, t287⟩ : S50) [.string ((rd_T48 l0 x23_1).f0.f0), .string ((rd_T48 l0 x23_1).f0.f1), .int .i64 ((rd_T48 l0 x23_1).f7), .int .i64 t285, .int .i64 t287] (fun _ => True) (fun _ => False) rfl rfl ?aP (fun _ hk => hk.elim) ?aF ?aO ?aB ?aS ?aL ?_; (case aP => exact QbF _ _ _ (⟨(⟨(rd_T48 l0 x23_1).f0.f0, (rd_T48 l0 x23_1).f0.f1⟩ : S44), (rd_T48 l0 x23_1).f7, t285, t287⟩ : S50)); (case aB => exact (Zc5 GE278.out GE279.out GE280.out GE282.out GE284.out)); (case aF => exact (fun _ _ => trivial)); (case aO => exact (Zr HO_11.out)); (case aS => exact (Qam (Zc5 GE278.out GE279.out GE280.out GE282.out GE284.out))); (case aL => have := LMc46.out; omega); intro v290 w52 ho hb hg hat; rw [← Ny289.out] at ho; have HO291 := Aside0.mk (ho); replace BK278 := Aside0.mk (QaK (g := gb278) (o := .cells #[.slice A1 l1.length c1] 30 (0, 0)) (Zu BK278.out) hg (Kd.R_ne HO_11.out BK278.out (by decide))); replace BK279 := Aside0.mk (QaK (g := gb279) (o := .cells #[.slice A2 l2.length c2] 31 (0, 0)) (Zu BK279.out) hg (Kd.R_ne HO_11.out BK279.out (by decide))); replace BK280 := Aside0.mk (QaK (g := gb280) (o := .cells #[.slice A3 l3.length c3] 32 (0, 0)) (Zu BK280.out) hg (Kd.R_ne HO_11.out BK280.out (by decide))); replace BK282 := Aside0.mk (QaK (g := gb282) (o := .cells #[.string ((rd_T48 l0 x23_1).f0.f0), .string ((rd_T48 l0 x23_1).f0.f1), .int .i64 ((rd_T48 l0 x23_1).f1), .int .i64 ((rd_T48 l0 x23_1).f2), .int .i64 ((rd_T48 l0 x23_1).f3), .int .i64 ((rd_T48 l0 x23_1).f4), .int .i64 ((rd_T48 l0 x23_1).f5), .int .i64 ((rd_T48 l0 x23_1).f6), .int .i64 ((rd_T48 l0 x23_1).f7)] 48 (0, 0)) (Zu BK282.out) hg (Kd.R_ne HO_11.out BK282.out (by decide))); replace BK284 := Aside0.mk (QaK (g := gb284) (o := .cells #[.string ((rd_T48 l0 x23_1).f0.f0), .string ((rd_T48 l0 x23_1).f0.f1)] 44 (0, 0)) (Zu BK284.out) hg (Kd.R_ne HO_11.out BK284.out (by decide))); replace HB := Aside0.mk (hb); clear HO_11; clear ho hb hg hat))
          go_roundg k1
          case measure => have := HK1.out; omega
          case rel => exact ⟨(y289), (wrap64 (x23_1 + 1)), (Zs), H', ⟨by have := HK1.out; omega⟩, ⟨Zr HO291.out⟩, ⟨Zu BK278.out⟩, ⟨Zu BK279.out⟩, ⟨Zu BK280.out⟩, ⟨Zc5 GE278.out GE279.out GE280.out GE282.out GE284.out⟩⟩
         rw [if_neg c46] at H
         exact absurd H (by simp)
        rw [if_neg c45] at H
        have c45b0 : (t288 == 0) = F := beq_eq_false_iff_ne.mpr c45
        have c45b1 : (t288 != 0) = T := bne_iff_ne.mpr c45
        (try simp only [c45b0, c45b1])
        simp only [Option.some.injEq, Prod.mk.injEq] at H
        obtain ⟨rfl, rfl⟩ := H
        go_wp2
        go_ret2
        exact ⟨_, Zq, by first | exact Kd.R_nil _ _ _ _ _ | exact Kd.N_nil _ _ _ _ _ | exact Kd.V_nil _ _ _ _ _ | exact Kd.Q_nil _ _ _ _ _ | exact Kd.S_nil _ _ _ _ _, Zc5 GE278.out GE279.out GE280.out GE282.out GE284.out⟩
       rw [if_neg c37] at H
       have c37b0 : (t286 == 0) = F := beq_eq_false_iff_ne.mpr c37
       have c37b1 : (t286 != 0) = T := bne_iff_ne.mpr c37
       (try simp only [c37b0, c37b1])
       simp only [Option.some.injEq, Prod.mk.injEq] at H
       obtain ⟨rfl, rfl⟩ := H
       go_wp2
       go_ret2
       exact ⟨_, Zq, by first | exact Kd.R_nil _ _ _ _ _ | exact Kd.N_nil _ _ _ _ _ | exact Kd.V_nil _ _ _ _ _ | exact Kd.Q_nil _ _ _ _ _ | exact Kd.S_nil _ _ _ _ _, Zc5 GE278.out GE279.out GE280.out GE282.out GE284.out⟩
      replace c18 := Bool.eq_false_iff.mpr c18
      subst c18
      have H1 : (some (([] : List (S50)), 2)) = some (r1, r2) := by rw [if_neg (show ¬ (F = T) by decide)] at H; exact H
      clear H
      have H := H1
      clear H1
      simp only [Option.some.injEq, Prod.mk.injEq] at H
      obtain ⟨rfl, rfl⟩ := H
      go_wp2
      go_ret2
      exact ⟨_, Zq, by first | exact Kd.R_nil _ _ _ _ _ | exact Kd.N_nil _ _ _ _ _ | exact Kd.V_nil _ _ _ _ _ | exact Kd.Q_nil _ _ _ _ _ | exact Kd.S_nil _ _ _ _ _, Zc4 GE278.out GE279.out GE280.out GE282.out⟩
     rw [if_neg c11] at H
     exact absurd H (by simp)
    rw [if_neg c10] at H
    exact absurd H (by simp)
   rw [if_neg c9] at H
   have c9b0 : decide (x23_1 < (l0.length : Int)) = F := decide_eq_false c9
   clear c9
   (try simp only [c9b0])
   simp only [Option.some.injEq, Prod.mk.injEq] at H
   obtain ⟨rfl, rfl⟩ := H
   go_wp2
   go_ret2
   exact ⟨_, Zq, Zr HO_11.out, Zc3 GE278.out GE279.out GE280.out⟩
mutual
def Qaw.l0 : Nat → ByteArray → List (S50) → Int → Int → List Int → List Int → List Int → Option (Int × Int × Int × Int)
 | 0, _, _, _, _, _, _, _ => none
 | k + 1, x1, x15, x16, x17, x535000, x535001, x535002 => if x17 < x16 then (if 0 ≤ x17 then (if x17 < (x15.length : Int) then (if ((rd_T50 x15 x17).f0.f0).toList = x1.toList then ((some (([(rd_T50 x15 x17).f1, (rd_T50 x15 x17).f2, (rd_T50 x15 x17).f3] : List Int) : List Int)).bind fun y537 => (Qaw.l1 k x1 x15 x16 x17 y537 (y537.length : Int) 0 x535000 x535001 x535002)) else (Qaw.l0 k x1 x15 x16 (wrap64 (x17 + 1)) x535000 x535001 x535002)) else (none)) else (none)) else (Qaw.l2 k 0 x535000 x535001 x535002 0 0 0)
def Qaw.l1 : Nat → ByteArray → List (S50) → Int → Int → List Int → Int → Int → List Int → List Int → List Int → Option (Int × Int × Int × Int)
 | 0, _, _, _, _, _, _, _, _, _, _ => none
 | k + 1, x1, x15, x16, x17, x32, x33, x34, x535000, x535001, x535002 => if x34 < x33 then (if 0 ≤ x34 then (if x34 < (x32.length : Int) then (if x34 = 0 then (if x535000.length < 17592186044416 then (Qaw.l1 k x1 x15 x16 x17 x32 x33 (wrap64 (x34 + 1)) (x535000 ++ [rd x32 x34]) x535001 x535002) else (none)) else (if x34 = 1 then (if x535001.length < 17592186044416 then (Qaw.l1 k x1 x15 x16 x17 x32 x33 (wrap64 (x34 + 1)) x535000 (x535001 ++ [rd x32 x34]) x535002) else (none)) else (if x34 = 2 then (if x535002.length < 17592186044416 then (Qaw.l1 k x1 x15 x16 x17 x32 x33 (wrap64 (x34 + 1)) x535000 x535001 (x535002 ++ [rd x32 x34])) else (none)) else (none)))) else (none)) else (none)) else (Qaw.l0 k x1 x15 x16 (wrap64 (x17 + 1)) x535000 x535001 x535002)
def Qaw.l2 : Nat → Int → List Int → List Int → List Int → Int → Int → Int → Option (Int × Int × Int × Int)
 | 0, _, _, _, _, _, _, _ => none
 | k + 1, x49, x535000, x535001, x535002, x551000, x551001, x551002 => if x49 < 3 then (if x49 = 0 then ((QaN.f k x535000).bind fun bt551 => (if bt551.2 = 0 then (Qaw.l2 k (wrap64 (x49 + 1)) x535000 x535001 x535002 bt551.1 x551001 x551002) else (some (0, 0, 0, bt551.2)))) else (if x49 = 1 then ((QaN.f k x535001).bind fun bt553 => (if bt553.2 = 0 then (Qaw.l2 k (wrap64 (x49 + 1)) x535000 x535001 x535002 x551000 bt553.1 x551002) else (some (0, 0, 0, bt553.2)))) else (if x49 = 2 then ((QaN.f k x535002).bind fun bt555 => (if bt555.2 = 0 then (Qaw.l2 k (wrap64 (x49 + 1)) x535000 x535001 x535002 x551000 x551001 bt555.1) else (some (0, 0, 0, bt555.2)))) else (none)))) else (some (x551000, x551001, x551002, 0))
end
def Qaw.f (k : Nat) (l0 : List (S50)) (a1 : ByteArray) : Option (Int × Int × Int × Int) := Qaw.l0 k a1 l0 (l0.length : Int) 0 ([] : List Int) ([] : List Int) ([] : List Int)
theorem Qaw.mono_l : ∀ k, (∀ y0 y1 y2 y3 y4 y5 y6, LeO (Qaw.l0 k y0 y1 y2 y3 y4 y5 y6) (Qaw.l0 (k + 1) y0 y1 y2 y3 y4 y5 y6)) ∧ (∀ y0 y1 y2 y3 y4 y5 y6 y7 y8 y9, LeO (Qaw.l1 k y0 y1 y2 y3 y4 y5 y6 y7 y8 y9) (Qaw.l1 (k + 1) y0 y1 y2 y3 y4 y5 y6 y7 y8 y9)) ∧ (∀ y0 y1 y2 y3 y4 y5 y6, LeO (Qaw.l2 k y0 y1 y2 y3 y4 y5 y6) (Qaw.l2 (k + 1) y0 y1 y2 y3 y4 y5 y6))
 | 0 => ⟨fun _ _ _ _ _ _ _ r h => by simp [Qaw.l0] at h, fun _ _ _ _ _ _ _ _ _ _ r h => by simp [Qaw.l1] at h, fun _ _ _ _ _ _ _ r h => by simp [Qaw.l2] at h⟩
 | k + 1 => by
  obtain ⟨ih0, ih1, ih2⟩ := Qaw.mono_l k
  refine ⟨?_, ?_, ?_⟩
  ·intro y0 y1 y2 y3 y4 y5 y6
   unfold Qaw.l0
   exact ZM4 ih0 ih1 ih2 QaN.mono
  ·intro y0 y1 y2 y3 y4 y5 y6 y7 y8 y9
   unfold Qaw.l1
   exact ZM4 ih0 ih1 ih2 QaN.mono
  intro y0 y1 y2 y3 y4 y5 y6
  unfold Qaw.l2
  exact ZM4 ih0 ih1 ih2 QaN.mono
theorem Qaw.mono : ∀ a0 a1 k, LeO (Qaw.f k a0 a1) (Qaw.f (k + 1) a0 a1) := by
 intro a0 a1 k
 obtain ⟨ih0, ih1, ih2⟩ := Qaw.mono_l k
 unfold Qaw.f
 exact ZM4 ih0 ih1 ih2 QaN.mono
theorem Qaw.calls (k : Nat) (A0 : Option Addr) (c0 : Nat) (l0 : List (S50)) (a1 : ByteArray) (r1 : Int) (r2 : Int) (r3 : Int) (r4 : Int) (w : World) (hr0 : Kd.C k50 w A0 l0.length l0) (hc0 : l0.length ≤ c0) (h : Qaw.f k l0 a1 = some (r1, r2, r3, r4)) :
  Calls Try.prog 23 #[.slice A0 l0.length c0, .string a1] w fun e w' => e = .returned (.tuple #[.int .i64 r1, .int .i64 r2, .int .i64 r3, .int .i64 r4]) ∧ Below w.heap.size w w' := by
 have hu101 := Try.underlying101
 have hu50 := Try.underlying50
 have hu102 := Try.underlying102
 have HR0 := Aside0.mk hr0
 have HC0 := Aside0.mk hc0
 clear hr0 hc0
 have HB := Aside0.mk (Below.refl w.heap.size w)
 have H : (Qaw.l0 k a1 l0 (l0.length : Int) 0 ([] : List Int) ([] : List Int) ([] : List Int)) = some (r1, r2, r3, r4) := h
 clear h
 have H' := Aside0.mk H
 clear H
 go_enter Try.func23, Try.ntmps23
 go_wp2_with (first | ((with_reducible refine QaJ (N := 8) rfl ?_); refine Zbx (N := 8) (cs := #[.slice none 0 0, .slice none 0 0, .slice none 0 0]) (t := 101) ?_; intro gb534 hg w3 hbox hb; have BK534 := Aside0.mk (hbox); have GW534 := Aside0.mk (Zt w hg (Zb)); have GE534 := GW534; replace HB := Aside0.mk (Qap (Zb) hb); clear hb hbox hg))
 repeat (go_quiet (first | ((with_reducible refine QaJ (N := 8) rfl ?_); refine Zbx (N := 8) (cs := #[.slice none 0 0, .slice none 0 0, .slice none 0 0]) (t := 101) ?_; intro gb534 hg w3 hbox hb; have BK534 := Aside0.mk (hbox); have GW534 := Aside0.mk (Zt w hg (Zb)); have GE534 := GW534; replace HB := Aside0.mk (Qap (Zb) hb); clear hb hbox hg)); try go_wp2_with (first | ((with_reducible refine QaJ (N := 8) rfl ?_); refine Zbx (N := 8) (cs := #[.slice none 0 0, .slice none 0 0, .slice none 0 0]) (t := 101) ?_; intro gb534 hg w3 hbox hb; have BK534 := Aside0.mk (hbox); have GW534 := Aside0.mk (Zt w hg (Zb)); have GE534 := GW534; replace HB := Aside0.mk (Qap (Zb) hb); clear hb hbox hg)))
 go_loopg [17] k (fun kq v17 w' => ∃ (x17_1 : Int) (x535000_1 : List Int) (x535001_1 : List Int) (x535002_1 : List Int) (u535000 : Value) (u535001 : Value) (u535002 : Value), v17 = .int .i64 x17_1 ∧ Aside0 (Qaw.l0 kq a1 l0 (l0.length : Int) x17_1 x535000_1 x535001_1 x535002_1 = some (r1, r2, r3, r4)) ∧ Aside0 (kq ≤ k) ∧ Aside0 (Kd.R (Kd.int .i64) 3 w' w.heap.size (fun k_ => some k_ ≠ (u535001 : Value).ownBlock ∧ some k_ ≠ (u535002 : Value).ownBlock) u535000 x535000_1) ∧ Aside0 (Kd.R (Kd.int .i64) 3 w' w.heap.size (fun k_ => some k_ ≠ (u535000 : Value).ownBlock ∧ some k_ ≠ (u535002 : Value).ownBlock) u535001 x535001_1) ∧ Aside0 (Kd.R (Kd.int .i64) 3 w' w.heap.size (fun k_ => some k_ ≠ (u535000 : Value).ownBlock ∧ some k_ ≠ (u535001 : Value).ownBlock) u535002 x535002_1) ∧ Aside0 (w'.heap[gb534]? = some (.cells #[u535000, u535001, u535002] 101 (0, 0))) ∧ Aside0 (Below w.heap.size w w'))
 case atStart => exact ⟨(0), (([] : List Int)), (([] : List Int)), (([] : List Int)), (.slice none 0 0), (.slice none 0 0), (.slice none 0 0), (Zs2), H', ⟨Nat.le_refl _⟩, ⟨by first | exact Kd.R_nil _ _ _ _ _ | exact Kd.N_nil _ _ _ _ _ | exact Kd.V_nil _ _ _ _ _ | exact Kd.Q_nil _ _ _ _ _ | exact Kd.S_nil _ _ _ _ _⟩, ⟨by first | exact Kd.R_nil _ _ _ _ _ | exact Kd.N_nil _ _ _ _ _ | exact Kd.V_nil _ _ _ _ _ | exact Kd.Q_nil _ _ _ _ _ | exact Kd.S_nil _ _ _ _ _⟩, ⟨by first | exact Kd.R_nil _ _ _ _ _ | exact Kd.N_nil _ _ _ _ _ | exact Kd.V_nil _ _ _ _ _ | exact Kd.Q_nil _ _ _ _ _ | exact Kd.S_nil _ _ _ _ _⟩, ⟨Zu BK534.out⟩, ⟨Zc1 GE534.out⟩⟩
 case round =>
  clear H'
  try clear c2
  try clear p2
  obtain ⟨x17_1, x535000_1, x535001_1, x535002_1, u535000, u535001, u535002, rfl, HA, HK1, HO_535000, HO_535001, HO_535002, BK534, HB⟩ := hrel
  cases gk with
  | zero => exact absurd HA.out (by simp [Qaw.l0])
  | succ k1 =>
   have H := HA.out
   clear HA
   simp only [Qaw.l0] at H
   by_cases c4 : x17_1 < (l0.length : Int)
   ·rw [if_pos c4] at H
    have c4b0 : decide (x17_1 < (l0.length : Int)) = T := decide_eq_true c4
    clear c4
    (try simp only [c4b0])
    by_cases c5 : 0 ≤ x17_1
    ·rw [if_pos c5] at H
     have c5b0 : decide (0 ≤ x17_1) = T := decide_eq_true c5
     clear c5
     by_cases c6 : x17_1 < (l0.length : Int)
     ·rw [if_pos c6] at H
      have c6b0 : decide (x17_1 < (l0.length : Int)) = T := decide_eq_true c6
      clear c6
      have p535 : 0 ≤ (x17_1 : Int) := Ze
      have q535 : x17_1 < (l0.length : Int) := Ze
      obtain ⟨ad535, e535, hx535_0, hx535_1, hx535_2, hx535_3, hx535_4⟩ := at_T50 HR0.out x17_1 p535 q535
      cases e535
      replace hx535_0 := Zx HB.out hx535_0
      replace hx535_1 := Zx HB.out hx535_1
      replace hx535_2 := Zx HB.out hx535_2
      replace hx535_3 := Zx HB.out hx535_3
      replace hx535_4 := Zx HB.out hx535_4
      replace p535 := eq_true p535
      replace q535 := eq_true q535
      go_upto_if 25 with (first | ((with_reducible refine QaJ (N := 10) rfl ?_); refine Zbx (N := 10) (cs := #[.string (⟨#[]⟩ : ByteArray), .string (⟨#[]⟩ : ByteArray), .int .i64 0, .int .i64 0, .int .i64 0]) (t := 50) ?_; intro gb536 hg w7 hbox hb; have BK536 := Aside0.mk (hbox); have GW536 := Aside0.mk (Zt w hg (Zc1 GE534.out)); have GE536 := GW536; have NB534_536 := Aside0.mk (Zn hg BK534.out); have NB536_534 := Aside0.mk NB534_536.out.symm; replace HO_535000 := Aside0.mk (Kd.R_below (Zr HO_535000.out) hb); replace HO_535001 := Aside0.mk (Kd.R_below (Zr HO_535001.out) hb); replace HO_535002 := Aside0.mk (Kd.R_below (Zr HO_535002.out) hb); replace BK534 := Aside0.mk (Zi BK534.out hb); replace HB := Aside0.mk (Qap (Zc1 GE534.out) hb); clear hb hbox hg; have hnb8 := NB536_534.out; have hnc8 := NB534_536.out; obtain ⟨hcz9_0, hfz9_0⟩ := Zy (v := (.string (⟨#[]⟩ : ByteArray))) BK536.out 0; obtain ⟨hcz9_1, hfz9_1⟩ := Zy (v := (.string (⟨#[]⟩ : ByteArray))) BK536.out 1; obtain ⟨hcz9_2, hfz9_2⟩ := Zy (v := (.int .i64 0)) BK536.out 2; obtain ⟨hcz9_3, hfz9_3⟩ := Zy (v := (.int .i64 0)) BK536.out 3; obtain ⟨hcz9_4, hfz9_4⟩ := Zy (v := (.int .i64 0)) BK536.out 4))
      repeat (go_quiet (first | ((with_reducible refine QaJ (N := 10) rfl ?_); refine Zbx (N := 10) (cs := #[.string (⟨#[]⟩ : ByteArray), .string (⟨#[]⟩ : ByteArray), .int .i64 0, .int .i64 0, .int .i64 0]) (t := 50) ?_; intro gb536 hg w7 hbox hb; have BK536 := Aside0.mk (hbox); have GW536 := Aside0.mk (Zt w hg (Zc1 GE534.out)); have GE536 := GW536; have NB534_536 := Aside0.mk (Zn hg BK534.out); have NB536_534 := Aside0.mk NB534_536.out.symm; replace HO_535000 := Aside0.mk (Kd.R_below (Zr HO_535000.out) hb); replace HO_535001 := Aside0.mk (Kd.R_below (Zr HO_535001.out) hb); replace HO_535002 := Aside0.mk (Kd.R_below (Zr HO_535002.out) hb); replace BK534 := Aside0.mk (Zi BK534.out hb); replace HB := Aside0.mk (Qap (Zc1 GE534.out) hb); clear hb hbox hg; have hnb8 := NB536_534.out; have hnc8 := NB534_536.out; obtain ⟨hcz9_0, hfz9_0⟩ := Zy (v := (.string (⟨#[]⟩ : ByteArray))) BK536.out 0; obtain ⟨hcz9_1, hfz9_1⟩ := Zy (v := (.string (⟨#[]⟩ : ByteArray))) BK536.out 1; obtain ⟨hcz9_2, hfz9_2⟩ := Zy (v := (.int .i64 0)) BK536.out 2; obtain ⟨hcz9_3, hfz9_3⟩ := Zy (v := (.int .i64 0)) BK536.out 3; obtain ⟨hcz9_4, hfz9_4⟩ := Zy (v := (.int .i64 0)) BK536.out 4)); go_upto_if 25 with (first | ((with_reducible refine QaJ (N := 10) rfl ?_); refine Zbx (N := 10) (cs := #[.string (⟨#[]⟩ : ByteArray), .string (⟨#[]⟩ : ByteArray), .int .i64 0, .int .i64 0, .int .i64 0]) (t := 50) ?_; intro gb536 hg w7 hbox hb; have BK536 := Aside0.mk (hbox); have GW536 := Aside0.mk (Zt w hg (Zc1 GE534.out)); have GE536 := GW536; have NB534_536 := Aside0.mk (Zn hg BK534.out); have NB536_534 := Aside0.mk NB534_536.out.symm; replace HO_535000 := Aside0.mk (Kd.R_below (Zr HO_535000.out) hb); replace HO_535001 := Aside0.mk (Kd.R_below (Zr HO_535001.out) hb); replace HO_535002 := Aside0.mk (Kd.R_below (Zr HO_535002.out) hb); replace BK534 := Aside0.mk (Zi BK534.out hb); replace HB := Aside0.mk (Qap (Zc1 GE534.out) hb); clear hb hbox hg; have hnb8 := NB536_534.out; have hnc8 := NB534_536.out; obtain ⟨hcz9_0, hfz9_0⟩ := Zy (v := (.string (⟨#[]⟩ : ByteArray))) BK536.out 0; obtain ⟨hcz9_1, hfz9_1⟩ := Zy (v := (.string (⟨#[]⟩ : ByteArray))) BK536.out 1; obtain ⟨hcz9_2, hfz9_2⟩ := Zy (v := (.int .i64 0)) BK536.out 2; obtain ⟨hcz9_3, hfz9_3⟩ := Zy (v := (.int .i64 0)) BK536.out 3; obtain ⟨hcz9_4, hfz9_4⟩ := Zy (v := (.int .i64 0)) BK536.out 4)))
      (try simp only [Act.put, Zj, Zk, Zm])
      by_cases c10 : ((rd_T50 l0 x17_1).f0.f0).toList = a1.toList
      ·rw [if_pos c10] at H
       have c10b0 : (((rd_T50 l0 x17_1).f0.f0).toList == a1.toList) = T := beq_iff_eq.mpr c10
       have c10b1 : (((rd_T50 l0 x17_1).f0.f0).toList != a1.toList) = F := bne_eq_false_iff_eq.mpr c10
       clear c10
       (try simp only [c10b0, c10b1])
       obtain ⟨y537, hy537⟩ : ∃ y_ : List Int, y_ = (([(rd_T50 l0 x17_1).f1, (rd_T50 l0 x17_1).f2, (rd_T50 l0 x17_1).f3] : List Int)) := ⟨_, rfl⟩
       replace H : (Qaw.l1 k1 a1 l0 (l0.length : Int) x17_1 y537 (y537.length : Int) 0 x535000_1 x535001_1 x535002_1) = some (r1, r2, r3, r4) := by first | (rw [hy537]; with_reducible exact H) | (have H2_ := (Option.bind_some _ _).symm.trans H; rw [hy537]; with_reducible exact H2_) | (have H2_ := (Option.bind_some _ _).symm.trans H; with_reducible exact H2_) | with_reducible exact H | (rw [hy537]; exact H) | exact H
       have Ny537 := Aside0.mk hy537
       clear hy537
       have H' := Aside0.mk H
       clear H
       have hnb11 := NB536_534.out
       have hnc11 := NB534_536.out
       obtain ⟨hcz12_0, hfz12_0⟩ := Zy (v := (.string (⟨#[]⟩ : ByteArray))) BK536.out 0
       obtain ⟨hcz12_1, hfz12_1⟩ := Zy (v := (.string (⟨#[]⟩ : ByteArray))) BK536.out 1
       obtain ⟨hcz12_2, hfz12_2⟩ := Zy (v := (.int .i64 0)) BK536.out 2
       obtain ⟨hcz12_3, hfz12_3⟩ := Zy (v := (.int .i64 0)) BK536.out 3
       obtain ⟨hcz12_4, hfz12_4⟩ := Zy (v := (.int .i64 0)) BK536.out 4
       go_wp2_with (first | ((with_reducible refine QaJ (N := 32) rfl ?_); refine Kd.R_lit (Kd.int .i64) _ 3 ?hg (N := 32) ?hd (xs := ([(rd_T50 l0 x17_1).f1, (rd_T50 l0 x17_1).f2, (rd_T50 l0 x17_1).f3] : List Int)) (inner := [.int .i64 ((rd_T50 l0 x17_1).f1), .int .i64 ((rd_T50 l0 x17_1).f2), .int .i64 ((rd_T50 l0 x17_1).f3)]) (ok := fun _ => True) (okp := fun _ => True) ?hr ?hp (fun _ hk => hk) trivial (Below.refl _ _) (Nat.le_refl _) (by simp) ?_; (case hd => rfl); (case hg => rfl); (case hr => first | (go_simp; done) | (go_simp; rfl)); (case hp => exact (Reps.one (show Kd.M (Kd.int .i64) _ _ _ ((rd_T50 l0 x17_1).f1) [.int .i64 ((rd_T50 l0 x17_1).f1)] from rfl) (Reps.one (show Kd.M (Kd.int .i64) _ _ _ ((rd_T50 l0 x17_1).f2) [.int .i64 ((rd_T50 l0 x17_1).f2)] from rfl) (Reps.one (show Kd.M (Kd.int .i64) _ _ _ ((rd_T50 l0 x17_1).f3) [.int .i64 ((rd_T50 l0 x17_1).f3)] from rfl) (Reps.none _ _))))); intro v538 w13 ho14 hb hg_ hnew_; clear hg_ hnew_; (first | rw [← Ny537.out] at ho14 | (simp only [Int.reduceToNat] at ho14; rw [← Ny537.out] at ho14)); have HO539 := Aside0.mk (Kd.R_lower (Kd.R_new' (Kd.R_new' (Kd.R_new' ho14 (Kd.R_lt (by (with_reducible repeat (first | apply Kd.R_alloc | apply Kd.R_drewN | apply Kd.R_drew)); exact (Kd.R_mono (Zf gb536 4 (Zf gb536 3 (Zf gb536 2 (Zf gb536 1 (Zf gb536 0 (Kd.R_types HO_535000.out BK536.out (by decide)) (.string ((rd_T50 l0 x17_1).f0.f0))) (.string ((rd_T50 l0 x17_1).f0.f1))) (.int .i64 ((rd_T50 l0 x17_1).f1))) (.int .i64 ((rd_T50 l0 x17_1).f2))) (.int .i64 ((rd_T50 l0 x17_1).f3))) (fun _ h_ => h_.1))))) (Kd.R_lt (by (with_reducible repeat (first | apply Kd.R_alloc | apply Kd.R_drewN | apply Kd.R_drew)); exact (Kd.R_mono (Zf gb536 4 (Zf gb536 3 (Zf gb536 2 (Zf gb536 1 (Zf gb536 0 (Kd.R_types HO_535001.out BK536.out (by decide)) (.string ((rd_T50 l0 x17_1).f0.f0))) (.string ((rd_T50 l0 x17_1).f0.f1))) (.int .i64 ((rd_T50 l0 x17_1).f1))) (.int .i64 ((rd_T50 l0 x17_1).f2))) (.int .i64 ((rd_T50 l0 x17_1).f3))) (fun _ h_ => h_.1))))) (Kd.R_lt (by (with_reducible repeat (first | apply Kd.R_alloc | apply Kd.R_drewN | apply Kd.R_drew)); exact (Kd.R_mono (Zf gb536 4 (Zf gb536 3 (Zf gb536 2 (Zf gb536 1 (Zf gb536 0 (Kd.R_types HO_535002.out BK536.out (by decide)) (.string ((rd_T50 l0 x17_1).f0.f0))) (.string ((rd_T50 l0 x17_1).f0.f1))) (.int .i64 ((rd_T50 l0 x17_1).f1))) (.int .i64 ((rd_T50 l0 x17_1).f2))) (.int .i64 ((rd_T50 l0 x17_1).f3))) (fun _ h_ => h_.1))))) (Qam (Zc2 GE534.out GE536.out))); replace HO_535000 := Aside0.mk (Kd.R_elder' (by (with_reducible repeat (first | apply Kd.R_alloc | apply Kd.R_drewN | apply Kd.R_drew)); exact (Kd.R_mono (Zf gb536 4 (Zf gb536 3 (Zf gb536 2 (Zf gb536 1 (Zf gb536 0 (Kd.R_types HO_535000.out BK536.out (by decide)) (.string ((rd_T50 l0 x17_1).f0.f0))) (.string ((rd_T50 l0 x17_1).f0.f1))) (.int .i64 ((rd_T50 l0 x17_1).f1))) (.int .i64 ((rd_T50 l0 x17_1).f2))) (.int .i64 ((rd_T50 l0 x17_1).f3))) (fun _ h_ => h_.1))) (Kd.R_base ho14) hb); replace HO_535001 := Aside0.mk (Kd.R_elder' (by (with_reducible repeat (first | apply Kd.R_alloc | apply Kd.R_drewN | apply Kd.R_drew)); exact (Kd.R_mono (Zf gb536 4 (Zf gb536 3 (Zf gb536 2 (Zf gb536 1 (Zf gb536 0 (Kd.R_types HO_535001.out BK536.out (by decide)) (.string ((rd_T50 l0 x17_1).f0.f0))) (.string ((rd_T50 l0 x17_1).f0.f1))) (.int .i64 ((rd_T50 l0 x17_1).f1))) (.int .i64 ((rd_T50 l0 x17_1).f2))) (.int .i64 ((rd_T50 l0 x17_1).f3))) (fun _ h_ => h_.1))) (Kd.R_base ho14) hb); replace HO_535002 := Aside0.mk (Kd.R_elder' (by (with_reducible repeat (first | apply Kd.R_alloc | apply Kd.R_drewN | apply Kd.R_drew)); exact (Kd.R_mono (Zf gb536 4 (Zf gb536 3 (Zf gb536 2 (Zf gb536 1 (Zf gb536 0 (Kd.R_types HO_535002.out BK536.out (by decide)) (.string ((rd_T50 l0 x17_1).f0.f0))) (.string ((rd_T50 l0 x17_1).f0.f1))) (.int .i64 ((rd_T50 l0 x17_1).f1))) (.int .i64 ((rd_T50 l0 x17_1).f2))) (.int .i64 ((rd_T50 l0 x17_1).f3))) (fun _ h_ => h_.1))) (Kd.R_base ho14) hb); replace BK534 := Aside0.mk (Qan (g := gb534) (o := .cells #[u535000, u535001, u535002] 101 (0, 0)) (Zg5 BK534.out NB534_536.out NB534_536.out NB534_536.out NB534_536.out NB534_536.out) hb); replace BK536 := Aside0.mk (Zpi #[.string ((rd_T50 l0 x17_1).f0.f0), .string ((rd_T50 l0 x17_1).f0.f1), .int .i64 ((rd_T50 l0 x17_1).f1), .int .i64 ((rd_T50 l0 x17_1).f2), .int .i64 ((rd_T50 l0 x17_1).f3)] BK536.out hb); replace HB := Aside0.mk (Qap (Zc2 GE534.out GE536.out) hb); clear hb ho14; obtain ⟨Ao15, co15, eo15⟩ := Kd.R_slice HO539.out; subst eo15))
       repeat (go_quiet (first | ((with_reducible refine QaJ (N := 32) rfl ?_); refine Kd.R_lit (Kd.int .i64) _ 3 ?hg (N := 32) ?hd (xs := ([(rd_T50 l0 x17_1).f1, (rd_T50 l0 x17_1).f2, (rd_T50 l0 x17_1).f3] : List Int)) (inner := [.int .i64 ((rd_T50 l0 x17_1).f1), .int .i64 ((rd_T50 l0 x17_1).f2), .int .i64 ((rd_T50 l0 x17_1).f3)]) (ok := fun _ => True) (okp := fun _ => True) ?hr ?hp (fun _ hk => hk) trivial (Below.refl _ _) (Nat.le_refl _) (by simp) ?_; (case hd => rfl); (case hg => rfl); (case hr => first | (go_simp; done) | (go_simp; rfl)); (case hp => exact (Reps.one (show Kd.M (Kd.int .i64) _ _ _ ((rd_T50 l0 x17_1).f1) [.int .i64 ((rd_T50 l0 x17_1).f1)] from rfl) (Reps.one (show Kd.M (Kd.int .i64) _ _ _ ((rd_T50 l0 x17_1).f2) [.int .i64 ((rd_T50 l0 x17_1).f2)] from rfl) (Reps.one (show Kd.M (Kd.int .i64) _ _ _ ((rd_T50 l0 x17_1).f3) [.int .i64 ((rd_T50 l0 x17_1).f3)] from rfl) (Reps.none _ _))))); intro v538 w13 ho14 hb hg_ hnew_; clear hg_ hnew_; (first | rw [← Ny537.out] at ho14 | (simp only [Int.reduceToNat] at ho14; rw [← Ny537.out] at ho14)); have HO539 := Aside0.mk (Kd.R_lower (Kd.R_new' (Kd.R_new' (Kd.R_new' ho14 (Kd.R_lt (by (with_reducible repeat (first | apply Kd.R_alloc | apply Kd.R_drewN | apply Kd.R_drew)); exact (Kd.R_mono (Zf gb536 4 (Zf gb536 3 (Zf gb536 2 (Zf gb536 1 (Zf gb536 0 (Kd.R_types HO_535000.out BK536.out (by decide)) (.string ((rd_T50 l0 x17_1).f0.f0))) (.string ((rd_T50 l0 x17_1).f0.f1))) (.int .i64 ((rd_T50 l0 x17_1).f1))) (.int .i64 ((rd_T50 l0 x17_1).f2))) (.int .i64 ((rd_T50 l0 x17_1).f3))) (fun _ h_ => h_.1))))) (Kd.R_lt (by (with_reducible repeat (first | apply Kd.R_alloc | apply Kd.R_drewN | apply Kd.R_drew)); exact (Kd.R_mono (Zf gb536 4 (Zf gb536 3 (Zf gb536 2 (Zf gb536 1 (Zf gb536 0 (Kd.R_types HO_535001.out BK536.out (by decide)) (.string ((rd_T50 l0 x17_1).f0.f0))) (.string ((rd_T50 l0 x17_1).f0.f1))) (.int .i64 ((rd_T50 l0 x17_1).f1))) (.int .i64 ((rd_T50 l0 x17_1).f2))) (.int .i64 ((rd_T50 l0 x17_1).f3))) (fun _ h_ => h_.1))))) (Kd.R_lt (by (with_reducible repeat (first | apply Kd.R_alloc | apply Kd.R_drewN | apply Kd.R_drew)); exact (Kd.R_mono (Zf gb536 4 (Zf gb536 3 (Zf gb536 2 (Zf gb536 1 (Zf gb536 0 (Kd.R_types HO_535002.out BK536.out (by decide)) (.string ((rd_T50 l0 x17_1).f0.f0))) (.string ((rd_T50 l0 x17_1).f0.f1))) (.int .i64 ((rd_T50 l0 x17_1).f1))) (.int .i64 ((rd_T50 l0 x17_1).f2))) (.int .i64 ((rd_T50 l0 x17_1).f3))) (fun _ h_ => h_.1))))) (Qam (Zc2 GE534.out GE536.out))); replace HO_535000 := Aside0.mk (Kd.R_elder' (by (with_reducible repeat (first | apply Kd.R_alloc | apply Kd.R_drewN | apply Kd.R_drew)); exact (Kd.R_mono (Zf gb536 4 (Zf gb536 3 (Zf gb536 2 (Zf gb536 1 (Zf gb536 0 (Kd.R_types HO_535000.out BK536.out (by decide)) (.string ((rd_T50 l0 x17_1).f0.f0))) (.string ((rd_T50 l0 x17_1).f0.f1))) (.int .i64 ((rd_T50 l0 x17_1).f1))) (.int .i64 ((rd_T50 l0 x17_1).f2))) (.int .i64 ((rd_T50 l0 x17_1).f3))) (fun _ h_ => h_.1))) (Kd.R_base ho14) hb); replace HO_535001 := Aside0.mk (Kd.R_elder' (by (with_reducible repeat (first | apply Kd.R_alloc | apply Kd.R_drewN | apply Kd.R_drew)); exact (Kd.R_mono (Zf gb536 4 (Zf gb536 3 (Zf gb536 2 (Zf gb536 1 (Zf gb536 0 (Kd.R_types HO_535001.out BK536.out (by decide)) (.string ((rd_T50 l0 x17_1).f0.f0))) (.string ((rd_T50 l0 x17_1).f0.f1))) (.int .i64 ((rd_T50 l0 x17_1).f1))) (.int .i64 ((rd_T50 l0 x17_1).f2))) (.int .i64 ((rd_T50 l0 x17_1).f3))) (fun _ h_ => h_.1))) (Kd.R_base ho14) hb); replace HO_535002 := Aside0.mk (Kd.R_elder' (by (with_reducible repeat (first | apply Kd.R_alloc | apply Kd.R_drewN | apply Kd.R_drew)); exact (Kd.R_mono (Zf gb536 4 (Zf gb536 3 (Zf gb536 2 (Zf gb536 1 (Zf gb536 0 (Kd.R_types HO_535002.out BK536.out (by decide)) (.string ((rd_T50 l0 x17_1).f0.f0))) (.string ((rd_T50 l0 x17_1).f0.f1))) (.int .i64 ((rd_T50 l0 x17_1).f1))) (.int .i64 ((rd_T50 l0 x17_1).f2))) (.int .i64 ((rd_T50 l0 x17_1).f3))) (fun _ h_ => h_.1))) (Kd.R_base ho14) hb); replace BK534 := Aside0.mk (Qan (g := gb534) (o := .cells #[u535000, u535001, u535002] 101 (0, 0)) (Zg5 BK534.out NB534_536.out NB534_536.out NB534_536.out NB534_536.out NB534_536.out) hb); replace BK536 := Aside0.mk (Zpi #[.string ((rd_T50 l0 x17_1).f0.f0), .string ((rd_T50 l0 x17_1).f0.f1), .int .i64 ((rd_T50 l0 x17_1).f1), .int .i64 ((rd_T50 l0 x17_1).f2), .int .i64 ((rd_T50 l0 x17_1).f3)] BK536.out hb); replace HB := Aside0.mk (Qap (Zc2 GE534.out GE536.out) hb); clear hb ho14; obtain ⟨Ao15, co15, eo15⟩ := Kd.R_slice HO539.out; subst eo15)); try go_wp2_with (first | ((with_reducible refine QaJ (N := 32) rfl ?_); refine Kd.R_lit (Kd.int .i64) _ 3 ?hg (N := 32) ?hd (xs := ([(rd_T50 l0 x17_1).f1, (rd_T50 l0 x17_1).f2, (rd_T50 l0 x17_1).f3] : List Int)) (inner := [.int .i64 ((rd_T50 l0 x17_1).f1), .int .i64 ((rd_T50 l0 x17_1).f2), .int .i64 ((rd_T50 l0 x17_1).f3)]) (ok := fun _ => True) (okp := fun _ => True) ?hr ?hp (fun _ hk => hk) trivial (Below.refl _ _) (Nat.le_refl _) (by simp) ?_; (case hd => rfl); (case hg => rfl); (case hr => first | (go_simp; done) | (go_simp; rfl)); (case hp => exact (Reps.one (show Kd.M (Kd.int .i64) _ _ _ ((rd_T50 l0 x17_1).f1) [.int .i64 ((rd_T50 l0 x17_1).f1)] from rfl) (Reps.one (show Kd.M (Kd.int .i64) _ _ _ ((rd_T50 l0 x17_1).f2) [.int .i64 ((rd_T50 l0 x17_1).f2)] from rfl) (Reps.one (show Kd.M (Kd.int .i64) _ _ _ ((rd_T50 l0 x17_1).f3) [.int .i64 ((rd_T50 l0 x17_1).f3)] from rfl) (Reps.none _ _))))); intro v538 w13 ho14 hb hg_ hnew_; clear hg_ hnew_; (first | rw [← Ny537.out] at ho14 | (simp only [Int.reduceToNat] at ho14; rw [← Ny537.out] at ho14)); have HO539 := Aside0.mk (Kd.R_lower (Kd.R_new' (Kd.R_new' (Kd.R_new' ho14 (Kd.R_lt (by (with_reducible repeat (first | apply Kd.R_alloc | apply Kd.R_drewN | apply Kd.R_drew)); exact (Kd.R_mono (Zf gb536 4 (Zf gb536 3 (Zf gb536 2 (Zf gb536 1 (Zf gb536 0 (Kd.R_types HO_535000.out BK536.out (by decide)) (.string ((rd_T50 l0 x17_1).f0.f0))) (.string ((rd_T50 l0 x17_1).f0.f1))) (.int .i64 ((rd_T50 l0 x17_1).f1))) (.int .i64 ((rd_T50 l0 x17_1).f2))) (.int .i64 ((rd_T50 l0 x17_1).f3))) (fun _ h_ => h_.1))))) (Kd.R_lt (by (with_reducible repeat (first | apply Kd.R_alloc | apply Kd.R_drewN | apply Kd.R_drew)); exact (Kd.R_mono (Zf gb536 4 (Zf gb536 3 (Zf gb536 2 (Zf gb536 1 (Zf gb536 0 (Kd.R_types HO_535001.out BK536.out (by decide)) (.string ((rd_T50 l0 x17_1).f0.f0))) (.string ((rd_T50 l0 x17_1).f0.f1))) (.int .i64 ((rd_T50 l0 x17_1).f1))) (.int .i64 ((rd_T50 l0 x17_1).f2))) (.int .i64 ((rd_T50 l0 x17_1).f3))) (fun _ h_ => h_.1))))) (Kd.R_lt (by (with_reducible repeat (first | apply Kd.R_alloc | apply Kd.R_drewN | apply Kd.R_drew)); exact (Kd.R_mono (Zf gb536 4 (Zf gb536 3 (Zf gb536 2 (Zf gb536 1 (Zf gb536 0 (Kd.R_types HO_535002.out BK536.out (by decide)) (.string ((rd_T50 l0 x17_1).f0.f0))) (.string ((rd_T50 l0 x17_1).f0.f1))) (.int .i64 ((rd_T50 l0 x17_1).f1))) (.int .i64 ((rd_T50 l0 x17_1).f2))) (.int .i64 ((rd_T50 l0 x17_1).f3))) (fun _ h_ => h_.1))))) (Qam (Zc2 GE534.out GE536.out))); replace HO_535000 := Aside0.mk (Kd.R_elder' (by (with_reducible repeat (first | apply Kd.R_alloc | apply Kd.R_drewN | apply Kd.R_drew)); exact (Kd.R_mono (Zf gb536 4 (Zf gb536 3 (Zf gb536 2 (Zf gb536 1 (Zf gb536 0 (Kd.R_types HO_535000.out BK536.out (by decide)) (.string ((rd_T50 l0 x17_1).f0.f0))) (.string ((rd_T50 l0 x17_1).f0.f1))) (.int .i64 ((rd_T50 l0 x17_1).f1))) (.int .i64 ((rd_T50 l0 x17_1).f2))) (.int .i64 ((rd_T50 l0 x17_1).f3))) (fun _ h_ => h_.1))) (Kd.R_base ho14) hb); replace HO_535001 := Aside0.mk (Kd.R_elder' (by (with_reducible repeat (first | apply Kd.R_alloc | apply Kd.R_drewN | apply Kd.R_drew)); exact (Kd.R_mono (Zf gb536 4 (Zf gb536 3 (Zf gb536 2 (Zf gb536 1 (Zf gb536 0 (Kd.R_types HO_535001.out BK536.out (by decide)) (.string ((rd_T50 l0 x17_1).f0.f0))) (.string ((rd_T50 l0 x17_1).f0.f1))) (.int .i64 ((rd_T50 l0 x17_1).f1))) (.int .i64 ((rd_T50 l0 x17_1).f2))) (.int .i64 ((rd_T50 l0 x17_1).f3))) (fun _ h_ => h_.1))) (Kd.R_base ho14) hb); replace HO_535002 := Aside0.mk (Kd.R_elder' (by (with_reducible repeat (first | apply Kd.R_alloc | apply Kd.R_drewN | apply Kd.R_drew)); exact (Kd.R_mono (Zf gb536 4 (Zf gb536 3 (Zf gb536 2 (Zf gb536 1 (Zf gb536 0 (Kd.R_types HO_535002.out BK536.out (by decide)) (.string ((rd_T50 l0 x17_1).f0.f0))) (.string ((rd_T50 l0 x17_1).f0.f1))) (.int .i64 ((rd_T50 l0 x17_1).f1))) (.int .i64 ((rd_T50 l0 x17_1).f2))) (.int .i64 ((rd_T50 l0 x17_1).f3))) (fun _ h_ => h_.1))) (Kd.R_base ho14) hb); replace BK534 := Aside0.mk (Qan (g := gb534) (o := .cells #[u535000, u535001, u535002] 101 (0, 0)) (Zg5 BK534.out NB534_536.out NB534_536.out NB534_536.out NB534_536.out NB534_536.out) hb); replace BK536 := Aside0.mk (Zpi #[.string ((rd_T50 l0 x17_1).f0.f0), .string ((rd_T50 l0 x17_1).f0.f1), .int .i64 ((rd_T50 l0 x17_1).f1), .int .i64 ((rd_T50 l0 x17_1).f2), .int .i64 ((rd_T50 l0 x17_1).f3)] BK536.out hb); replace HB := Aside0.mk (Qap (Zc2 GE534.out GE536.out) hb); clear hb ho14; obtain ⟨Ao15, co15, eo15⟩ := Kd.R_slice HO539.out; subst eo15)))
       go_loopg [34] k1 (fun kq v34 w' => ∃ (x34_2 : Int) (x535000_2 : List Int) (x535001_2 : List Int) (x535002_2 : List Int) (u535000 : Value) (u535001 : Value) (u535002 : Value), v34 = .int .i64 x34_2 ∧ Aside0 (Qaw.l1 kq a1 l0 (l0.length : Int) x17_1 y537 (y537.length : Int) x34_2 x535000_2 x535001_2 x535002_2 = some (r1, r2, r3, r4)) ∧ Aside0 (kq ≤ k1) ∧ Aside0 (Kd.R (Kd.int .i64) 3 w' w.heap.size (fun k_ => some k_ ≠ (u535000 : Value).ownBlock ∧ some k_ ≠ (u535001 : Value).ownBlock ∧ some k_ ≠ (u535002 : Value).ownBlock) (.slice Ao15 y537.length co15) y537) ∧ Aside0 (Kd.R (Kd.int .i64) 3 w' w.heap.size (fun k_ => some k_ ≠ ((.slice Ao15 y537.length co15) : Value).ownBlock ∧ some k_ ≠ (u535001 : Value).ownBlock ∧ some k_ ≠ (u535002 : Value).ownBlock) u535000 x535000_2) ∧ Aside0 (Kd.R (Kd.int .i64) 3 w' w.heap.size (fun k_ => some k_ ≠ ((.slice Ao15 y537.length co15) : Value).ownBlock ∧ some k_ ≠ (u535000 : Value).ownBlock ∧ some k_ ≠ (u535002 : Value).ownBlock) u535001 x535001_2) ∧ Aside0 (Kd.R (Kd.int .i64) 3 w' w.heap.size (fun k_ => some k_ ≠ ((.slice Ao15 y537.length co15) : Value).ownBlock ∧ some k_ ≠ (u535000 : Value).ownBlock ∧ some k_ ≠ (u535001 : Value).ownBlock) u535002 x535002_2) ∧ Aside0 (w'.heap[gb534]? = some (.cells #[u535000, u535001, u535002] 101 (0, 0))) ∧ Aside0 (w'.heap[gb536]? = some (.cells #[.string ((rd_T50 l0 x17_1).f0.f0), .string ((rd_T50 l0 x17_1).f0.f1), .int .i64 ((rd_T50 l0 x17_1).f1), .int .i64 ((rd_T50 l0 x17_1).f2), .int .i64 ((rd_T50 l0 x17_1).f3)] 50 (0, 0))) ∧ Aside0 (Below w.heap.size w w'))
       case atStart => exact ⟨(0), (x535000_1), (x535001_1), (x535002_1), (u535000), (u535001), (u535002), (Zs2), H', ⟨Nat.le_refl _⟩, ⟨by (with_reducible repeat (first | apply Kd.R_alloc | apply Kd.R_drewN | apply Kd.R_drew)); exact Kd.R_mono HO539.out (fun _ hk => ⟨hk.1.1.2, ⟨hk.1.2, hk.2⟩⟩)⟩, ⟨by (with_reducible repeat (first | apply Kd.R_alloc | apply Kd.R_drewN | apply Kd.R_drew)); exact Kd.R_mono HO_535000.out (fun _ hk => ⟨hk.2, ⟨hk.1.1, hk.1.2⟩⟩)⟩, ⟨by (with_reducible repeat (first | apply Kd.R_alloc | apply Kd.R_drewN | apply Kd.R_drew)); exact Kd.R_mono HO_535001.out (fun _ hk => ⟨hk.2, ⟨hk.1.1, hk.1.2⟩⟩)⟩, ⟨by (with_reducible repeat (first | apply Kd.R_alloc | apply Kd.R_drewN | apply Kd.R_drew)); exact Kd.R_mono HO_535002.out (fun _ hk => ⟨hk.2, ⟨hk.1.1, hk.1.2⟩⟩)⟩, ⟨Zu BK534.out⟩, ⟨Zu BK536.out⟩, ⟨Zc2 GE534.out GE536.out⟩⟩
       case round =>
        clear H'
        try clear c1
        try clear c2
        try clear p2
        try clear c4
        try clear c4b0
        try clear c5
        try clear c5b0
        try clear p5
        try clear q5
        try clear hx5
        try clear c6
        try clear c6b0
        try clear c8
        try clear c10
        try clear c10b0
        try clear c10b1
        try clear c11
        try clear hcz12_0
        try clear hcz12_1
        try clear hcz12_2
        try clear hcz12_3
        try clear hcz12_4
        try clear hcz9_0
        try clear hcz9_1
        try clear hcz9_2
        try clear hcz9_3
        try clear hcz9_4
        try clear hfz12_0
        try clear hfz12_1
        try clear hfz12_2
        try clear hfz12_3
        try clear hfz12_4
        try clear hfz9_0
        try clear hfz9_1
        try clear hfz9_2
        try clear hfz9_3
        try clear hfz9_4
        try clear hx535_0
        try clear hx535_1
        try clear hx535_2
        try clear hx535_3
        try clear hx535_4
        try clear p2
        try clear p535
        try clear q535
        obtain ⟨x34_2, x535000_2, x535001_2, x535002_2, u535000, u535001, u535002, rfl, HA, HK2, HO_32, HO_535000, HO_535001, HO_535002, BK534, BK536, HB⟩ := hrel
        cases gk with
        | zero => exact absurd HA.out (by simp [Qaw.l1])
        | succ k2 =>
         have H := HA.out
         clear HA
         simp only [Qaw.l1] at H
         by_cases c16 : x34_2 < (y537.length : Int)
         ·rw [if_pos c16] at H
          have c16b0 : decide (x34_2 < (y537.length : Int)) = T := decide_eq_true c16
          clear c16
          (try simp only [c16b0])
          by_cases c17 : 0 ≤ x34_2
          ·rw [if_pos c17] at H
           have c17b0 : decide (0 ≤ x34_2) = T := decide_eq_true c17
           clear c17
           by_cases c18 : x34_2 < (y537.length : Int)
           ·rw [if_pos c18] at H
            have c18b0 : decide (x34_2 < (y537.length : Int)) = T := decide_eq_true c18
            clear c18
            by_cases c19 : x34_2 = 0
            ·rw [if_pos c19] at H
             have c19x := c19
             have c19b0 : (x34_2 == 0) = T := beq_iff_eq.mpr c19
             have c19b1 : (x34_2 != 0) = F := bne_eq_false_iff_eq.mpr c19
             clear c19
             by_cases c20 : x535000_2.length < 17592186044416
             ·rw [if_pos c20] at H
              have LMc20 := Aside0.mk c20
              clear c20
              obtain ⟨y541, hy541⟩ : ∃ y_ : List Int, y_ = (x535000_2 ++ [rd y537 x34_2]) := ⟨_, rfl⟩
              replace H : (Qaw.l1 k2 a1 l0 (l0.length : Int) x17_1 y537 (y537.length : Int) (wrap64 (x34_2 + 1)) y541 x535001_2 x535002_2) = some (r1, r2, r3, r4) := by first | (rw [hy541]; with_reducible exact H) | (have H2_ := (Option.bind_some _ _).symm.trans H; rw [hy541]; with_reducible exact H2_) | (have H2_ := (Option.bind_some _ _).symm.trans H; with_reducible exact H2_) | with_reducible exact H | (rw [hy541]; exact H) | exact H
              have Ny541 := Aside0.mk hy541
              clear hy541
              have H' := Aside0.mk H
              clear H
              have p540 : 0 ≤ (x34_2 : Int) := Ze
              have q540 : x34_2 < (y537.length : Int) := Ze
              obtain ⟨ad540, e540, hx540_0⟩ := Kd.at_int (Kd.R_reads' HO_32.out).2.2 x34_2 p540 q540
              cases e540
              replace p540 := eq_true p540
              replace q540 := eq_true q540
              have hnb21 := NB534_536.out
              have hnc21 := NB536_534.out
              obtain ⟨hcz22_0, hfz22_0⟩ := Zy (v := (u535000)) BK534.out 0
              obtain ⟨hcz22_1, hfz22_1⟩ := Zy (v := (u535001)) BK534.out 1
              obtain ⟨hcz22_2, hfz22_2⟩ := Zy (v := (u535002)) BK534.out 2
              (try (have hz540_0 := hx540_0; rw [show ad540.add (x34_2).toNat = ad540 from by simp [c19x, Addr.add]] at hz540_0))
              generalize hzez540 : rd y537 x34_2 = z540 at hx540_0 Ny541 hz540_0
              have hqz540 : (0 : Int) < (y537.length : Int) := by have h_ := of_eq_true q540; rw [c19x] at h_; exact h_
              have hiz540 : decide ((0 : Int) < (y537.length : Int)) = T := decide_eq_true hqz540
              have hnz540 : decide (0 < y537.length) = T := decide_eq_true (by omega)
              have hmz540 : (0 < y537.length) = True := eq_true (by omega)
              replace hqz540 := eq_true hqz540
              go_wp2_with (first | ((with_reducible refine Qbi (b := .append) (xs := #[.tmp 42, .tmp 44]) rfl ?_); at_builtin; refine Kd.R_append (Kd.int .i64) (w0 := w) w.heap.size rfl (.tmp 42) (.tmp 44) 63 3 (.int .i64 0) 8 rfl Try.underlying63 info3 rfl (by decide) (by omega) u535000 x535000_2 z540 [.int .i64 z540] (fun k_ => some k_ ≠ (.slice (some ad540) y537.length co15 : Value).ownBlock ∧ some k_ ≠ (u535001 : Value).ownBlock ∧ some k_ ≠ (u535002 : Value).ownBlock) (fun _ => False) rfl rfl ?aP (fun _ hk => hk.elim) ?aF ?aO ?aB ?aS ?aL ?_; (case aP => exact rfl); (case aB => exact (Zc2 GE534.out GE536.out)); (case aF => exact (fun k_ hk => ⟨Kd.fresh' (Kd.R_lt (Zr HO_32.out)) k_ hk, Kd.fresh' (Kd.R_lt (Zr HO_535001.out)) k_ hk, Kd.fresh' (Kd.R_lt (Zr HO_535002.out)) k_ hk⟩)); (case aO => exact (Zr HO_535000.out)); (case aS => exact (Qam (Zc2 GE534.out GE536.out))); (case aL => have := LMc20.out; omega); intro v542 w23 ho hb hg hat; rw [← Ny541.out] at ho; have HO543 := Aside0.mk (ho); replace HO_32 := Aside0.mk (Kd.R_after (ok := (fun k_ => some k_ ≠ (u535001 : Value).ownBlock ∧ some k_ ≠ (u535002 : Value).ownBlock)) (by (with_reducible repeat (first | apply Kd.R_alloc | apply Kd.R_drewN | apply Kd.R_drew)); exact Kd.R_mono HO_32.out (fun _ hk => ⟨⟨hk.2.1, hk.2.2⟩, hk.1⟩)) hg hat); replace HO_535001 := Aside0.mk (Kd.R_after (ok := (fun k_ => some k_ ≠ (.slice (some ad540) y537.length co15 : Value).ownBlock ∧ some k_ ≠ (u535002 : Value).ownBlock)) (by (with_reducible repeat (first | apply Kd.R_alloc | apply Kd.R_drewN | apply Kd.R_drew)); exact Kd.R_mono HO_535001.out (fun _ hk => ⟨⟨hk.1, hk.2.2⟩, hk.2.1⟩)) hg hat); replace HO_535002 := Aside0.mk (Kd.R_after (ok := (fun k_ => some k_ ≠ (.slice (some ad540) y537.length co15 : Value).ownBlock ∧ some k_ ≠ (u535001 : Value).ownBlock)) (by (with_reducible repeat (first | apply Kd.R_alloc | apply Kd.R_drewN | apply Kd.R_drew)); exact Kd.R_mono HO_535002.out (fun _ hk => ⟨⟨hk.1, hk.2.2⟩, hk.2.1⟩)) hg hat); replace BK534 := Aside0.mk (QaK (g := gb534) (o := .cells #[u535000, u535001, u535002] 101 (0, 0)) (Zu BK534.out) hg (Kd.R_ne HO_535000.out BK534.out (by decide))); replace BK536 := Aside0.mk (QaK (g := gb536) (o := .cells #[.string ((rd_T50 l0 x17_1).f0.f0), .string ((rd_T50 l0 x17_1).f0.f1), .int .i64 ((rd_T50 l0 x17_1).f1), .int .i64 ((rd_T50 l0 x17_1).f2), .int .i64 ((rd_T50 l0 x17_1).f3)] 50 (0, 0)) (Zu BK536.out) hg (Kd.R_ne HO_535000.out BK536.out (by decide))); replace HB := Aside0.mk (hb); clear HO_535000; clear ho hb hg hat; obtain ⟨Ao24, co24, eo24⟩ := Kd.R_slice HO543.out; subst eo24; obtain ⟨hcz25_0, hfz25_0⟩ := Zy (v := (u535000)) BK534.out 0; obtain ⟨hcz25_1, hfz25_1⟩ := Zy (v := (u535001)) BK534.out 1; obtain ⟨hcz25_2, hfz25_2⟩ := Zy (v := (u535002)) BK534.out 2))
              repeat (go_quiet (first | ((with_reducible refine Qbi (b := .append) (xs := #[.tmp 42, .tmp 44]) rfl ?_); at_builtin; refine Kd.R_append (Kd.int .i64) (w0 := w) w.heap.size rfl (.tmp 42) (.tmp 44) 63 3 (.int .i64 0) 8 rfl Try.underlying63 info3 rfl (by decide) (by omega) u535000 x535000_2 z540 [.int .i64 z540] (fun k_ => some k_ ≠ (.slice (some ad540) y537.length co15 : Value).ownBlock ∧ some k_ ≠ (u535001 : Value).ownBlock ∧ some k_ ≠ (u535002 : Value).ownBlock) (fun _ => False) rfl rfl ?aP (fun _ hk => hk.elim) ?aF ?aO ?aB ?aS ?aL ?_; (case aP => exact rfl); (case aB => exact (Zc2 GE534.out GE536.out)); (case aF => exact (fun k_ hk => ⟨Kd.fresh' (Kd.R_lt (Zr HO_32.out)) k_ hk, Kd.fresh' (Kd.R_lt (Zr HO_535001.out)) k_ hk, Kd.fresh' (Kd.R_lt (Zr HO_535002.out)) k_ hk⟩)); (case aO => exact (Zr HO_535000.out)); (case aS => exact (Qam (Zc2 GE534.out GE536.out))); (case aL => have := LMc20.out; omega); intro v542 w23 ho hb hg hat; rw [← Ny541.out] at ho; have HO543 := Aside0.mk (ho); replace HO_32 := Aside0.mk (Kd.R_after (ok := (fun k_ => some k_ ≠ (u535001 : Value).ownBlock ∧ some k_ ≠ (u535002 : Value).ownBlock)) (by (with_reducible repeat (first | apply Kd.R_alloc | apply Kd.R_drewN | apply Kd.R_drew)); exact Kd.R_mono HO_32.out (fun _ hk => ⟨⟨hk.2.1, hk.2.2⟩, hk.1⟩)) hg hat); replace HO_535001 := Aside0.mk (Kd.R_after (ok := (fun k_ => some k_ ≠ (.slice (some ad540) y537.length co15 : Value).ownBlock ∧ some k_ ≠ (u535002 : Value).ownBlock)) (by (with_reducible repeat (first | apply Kd.R_alloc | apply Kd.R_drewN | apply Kd.R_drew)); exact Kd.R_mono HO_535001.out (fun _ hk => ⟨⟨hk.1, hk.2.2⟩, hk.2.1⟩)) hg hat); replace HO_535002 := Aside0.mk (Kd.R_after (ok := (fun k_ => some k_ ≠ (.slice (some ad540) y537.length co15 : Value).ownBlock ∧ some k_ ≠ (u535001 : Value).ownBlock)) (by (with_reducible repeat (first | apply Kd.R_alloc | apply Kd.R_drewN | apply Kd.R_drew)); exact Kd.R_mono HO_535002.out (fun _ hk => ⟨⟨hk.1, hk.2.2⟩, hk.2.1⟩)) hg hat); replace BK534 := Aside0.mk (QaK (g := gb534) (o := .cells #[u535000, u535001, u535002] 101 (0, 0)) (Zu BK534.out) hg (Kd.R_ne HO_535000.out BK534.out (by decide))); replace BK536 := Aside0.mk (QaK (g := gb536) (o := .cells #[.string ((rd_T50 l0 x17_1).f0.f0), .string ((rd_T50 l0 x17_1).f0.f1), .int .i64 ((rd_T50 l0 x17_1).f1), .int .i64 ((rd_T50 l0 x17_1).f2), .int .i64 ((rd_T50 l0 x17_1).f3)] 50 (0, 0)) (Zu BK536.out) hg (Kd.R_ne HO_535000.out BK536.out (by decide))); replace HB := Aside0.mk (hb); clear HO_535000; clear ho hb hg hat; obtain ⟨Ao24, co24, eo24⟩ := Kd.R_slice HO543.out; subst eo24; obtain ⟨hcz25_0, hfz25_0⟩ := Zy (v := (u535000)) BK534.out 0; obtain ⟨hcz25_1, hfz25_1⟩ := Zy (v := (u535001)) BK534.out 1; obtain ⟨hcz25_2, hfz25_2⟩ := Zy (v := (u535002)) BK534.out 2)); try go_wp2_with (first | ((with_reducible refine Qbi (b := .append) (xs := #[.tmp 42, .tmp 44]) rfl ?_); at_builtin; refine Kd.R_append (Kd.int .i64) (w0 := w) w.heap.size rfl (.tmp 42) (.tmp 44) 63 3 (.int .i64 0) 8 rfl Try.underlying63 info3 rfl (by decide) (by omega) u535000 x535000_2 z540 [.int .i64 z540] (fun k_ => some k_ ≠ (.slice (some ad540) y537.length co15 : Value).ownBlock ∧ some k_ ≠ (u535001 : Value).ownBlock ∧ some k_ ≠ (u535002 : Value).ownBlock) (fun _ => False) rfl rfl ?aP (fun _ hk => hk.elim) ?aF ?aO ?aB ?aS ?aL ?_; (case aP => exact rfl); (case aB => exact (Zc2 GE534.out GE536.out)); (case aF => exact (fun k_ hk => ⟨Kd.fresh' (Kd.R_lt (Zr HO_32.out)) k_ hk, Kd.fresh' (Kd.R_lt (Zr HO_535001.out)) k_ hk, Kd.fresh' (Kd.R_lt (Zr HO_535002.out)) k_ hk⟩)); (case aO => exact (Zr HO_535000.out)); (case aS => exact (Qam (Zc2 GE534.out GE536.out))); (case aL => have := LMc20.out; omega); intro v542 w23 ho hb hg hat; rw [← Ny541.out] at ho; have HO543 := Aside0.mk (ho); replace HO_32 := Aside0.mk (Kd.R_after (ok := (fun k_ => some k_ ≠ (u535001 : Value).ownBlock ∧ some k_ ≠ (u535002 : Value).ownBlock)) (by (with_reducible repeat (first | apply Kd.R_alloc | apply Kd.R_drewN | apply Kd.R_drew)); exact Kd.R_mono HO_32.out (fun _ hk => ⟨⟨hk.2.1, hk.2.2⟩, hk.1⟩)) hg hat); replace HO_535001 := Aside0.mk (Kd.R_after (ok := (fun k_ => some k_ ≠ (.slice (some ad540) y537.length co15 : Value).ownBlock ∧ some k_ ≠ (u535002 : Value).ownBlock)) (by (with_reducible repeat (first | apply Kd.R_alloc | apply Kd.R_drewN | apply Kd.R_drew)); exact Kd.R_mono HO_535001.out (fun _ hk => ⟨⟨hk.1, hk.2.2⟩, hk.2.1⟩)) hg hat); replace HO_535002 := Aside0.mk (Kd.R_after (ok := (fun k_ => some k_ ≠ (.slice (some ad540) y537.length co15 : Value).ownBlock ∧ some k_ ≠ (u535001 : Value).ownBlock)) (by (with_reducible repeat (first | apply Kd.R_alloc | apply Kd.R_drewN | apply Kd.R_drew)); exact Kd.R_mono HO_535002.out (fun _ hk => ⟨⟨hk.1, hk.2.2⟩, hk.2.1⟩)) hg hat); replace BK534 := Aside0.mk (QaK (g := gb534) (o := .cells #[u535000, u535001, u535002] 101 (0, 0)) (Zu BK534.out) hg (Kd.R_ne HO_535000.out BK534.out (by decide))); replace BK536 := Aside0.mk (QaK (g := gb536) (o := .cells #[.string ((rd_T50 l0 x17_1).f0.f0), .string ((rd_T50 l0 x17_1).f0.f1), .int .i64 ((rd_T50 l0 x17_1).f1), .int .i64 ((rd_T50 l0 x17_1).f2), .int .i64 ((rd_T50 l0 x17_1).f3)] 50 (0, 0)) (Zu BK536.out) hg (Kd.R_ne HO_535000.out BK536.out (by decide))); replace HB := Aside0.mk (hb); clear HO_535000; clear ho hb hg hat; obtain ⟨Ao24, co24, eo24⟩ := Kd.R_slice HO543.out; subst eo24; obtain ⟨hcz25_0, hfz25_0⟩ := Zy (v := (u535000)) BK534.out 0; obtain ⟨hcz25_1, hfz25_1⟩ := Zy (v := (u535001)) BK534.out 1; obtain ⟨hcz25_2, hfz25_2⟩ := Zy (v := (u535002)) BK534.out 2)))
              go_roundg k2
              case measure => have := HK1.out; have := HK2.out; omega
              case rel => exact ⟨(wrap64 (x34_2 + 1)), (y541), (x535001_2), (x535002_2), (.slice Ao24 y541.length co24), (u535001), (u535002), (Zs2), H', ⟨by have := HK1.out; have := HK2.out; omega⟩, ⟨by (with_reducible repeat (first | apply Kd.R_alloc | apply Kd.R_drewN | apply Kd.R_drew)); exact Kd.R_mono (Zf gb534 0 (Kd.R_types HO_32.out BK534.out (by decide)) (.slice Ao24 y541.length co24)) (fun _ hk => ⟨hk.1.2, ⟨hk.1.1.1, hk.1.1.2⟩⟩)⟩, ⟨by (with_reducible repeat (first | apply Kd.R_alloc | apply Kd.R_drewN | apply Kd.R_drew)); exact Kd.R_mono (Zf gb534 0 (Kd.R_types HO543.out BK534.out (by decide)) (.slice Ao24 y541.length co24)) (fun _ hk => ⟨hk.1.1, ⟨hk.1.2.1, hk.1.2.2⟩⟩)⟩, ⟨by (with_reducible repeat (first | apply Kd.R_alloc | apply Kd.R_drewN | apply Kd.R_drew)); exact Kd.R_mono (Zf gb534 0 (Kd.R_types HO_535001.out BK534.out (by decide)) (.slice Ao24 y541.length co24)) (fun _ hk => ⟨hk.1.1.1, ⟨hk.1.2, hk.1.1.2⟩⟩)⟩, ⟨by (with_reducible repeat (first | apply Kd.R_alloc | apply Kd.R_drewN | apply Kd.R_drew)); exact Kd.R_mono (Zf gb534 0 (Kd.R_types HO_535002.out BK534.out (by decide)) (.slice Ao24 y541.length co24)) (fun _ hk => ⟨hk.1.1.1, ⟨hk.1.2, hk.1.1.2⟩⟩)⟩, ⟨Zp2 BK534.out⟩, ⟨Zg1 BK536.out NB536_534.out⟩, ⟨Zc2 GE534.out GE536.out⟩⟩
             rw [if_neg c20] at H
             exact absurd H (by simp)
            rw [if_neg c19] at H
            have c19b0 : (x34_2 == 0) = F := beq_eq_false_iff_ne.mpr c19
            have c19b1 : (x34_2 != 0) = T := bne_iff_ne.mpr c19
            by_cases c26 : x34_2 = 1
            ·rw [if_pos c26] at H
             have c26x := c26
             have c26b0 : (x34_2 == 1) = T := beq_iff_eq.mpr c26
             have c26b1 : (x34_2 != 1) = F := bne_eq_false_iff_eq.mpr c26
             clear c26
             by_cases c27 : x535001_2.length < 17592186044416
             ·rw [if_pos c27] at H
              have LMc27 := Aside0.mk c27
              clear c27
              obtain ⟨y544, hy544⟩ : ∃ y_ : List Int, y_ = (x535001_2 ++ [rd y537 x34_2]) := ⟨_, rfl⟩
              replace H : (Qaw.l1 k2 a1 l0 (l0.length : Int) x17_1 y537 (y537.length : Int) (wrap64 (x34_2 + 1)) x535000_2 y544 x535002_2) = some (r1, r2, r3, r4) := by first | (rw [hy544]; with_reducible exact H) | (have H2_ := (Option.bind_some _ _).symm.trans H; rw [hy544]; with_reducible exact H2_) | (have H2_ := (Option.bind_some _ _).symm.trans H; with_reducible exact H2_) | with_reducible exact H | (rw [hy544]; exact H) | exact H
              have Ny544 := Aside0.mk hy544
              clear hy544
              have H' := Aside0.mk H
              clear H
              have p540 : 0 ≤ (x34_2 : Int) := Ze
              have q540 : x34_2 < (y537.length : Int) := Ze
              obtain ⟨ad540, e540, hx540_0⟩ := Kd.at_int (Kd.R_reads' HO_32.out).2.2 x34_2 p540 q540
              cases e540
              replace p540 := eq_true p540
              replace q540 := eq_true q540
              have hnb28 := NB534_536.out
              have hnc28 := NB536_534.out
              obtain ⟨hcz29_0, hfz29_0⟩ := Zy (v := (u535000)) BK534.out 0
              obtain ⟨hcz29_1, hfz29_1⟩ := Zy (v := (u535001)) BK534.out 1
              obtain ⟨hcz29_2, hfz29_2⟩ := Zy (v := (u535002)) BK534.out 2
              (try (have hz540_0 := hx540_0; rw [show ad540.add (x34_2).toNat = ⟨ad540.block, ad540.off + 1, none⟩ from by simp [c26x, Addr.add]] at hz540_0))
              generalize hzez540 : rd y537 x34_2 = z540 at hx540_0 Ny544 hz540_0
              have hqz540 : (1 : Int) < (y537.length : Int) := by have h_ := of_eq_true q540; rw [c26x] at h_; exact h_
              have hiz540 : decide ((1 : Int) < (y537.length : Int)) = T := decide_eq_true hqz540
              have hnz540 : decide (1 < y537.length) = T := decide_eq_true (by omega)
              have hmz540 : (1 < y537.length) = True := eq_true (by omega)
              replace hqz540 := eq_true hqz540
              go_wp2_with (first | ((with_reducible refine Qbi (b := .append) (xs := #[.tmp 42, .tmp 44]) rfl ?_); at_builtin; refine Kd.R_append (Kd.int .i64) (w0 := w) w.heap.size rfl (.tmp 42) (.tmp 44) 63 3 (.int .i64 0) 8 rfl Try.underlying63 info3 rfl (by decide) (by omega) u535001 x535001_2 z540 [.int .i64 z540] (fun k_ => some k_ ≠ (.slice (some ad540) y537.length co15 : Value).ownBlock ∧ some k_ ≠ (u535000 : Value).ownBlock ∧ some k_ ≠ (u535002 : Value).ownBlock) (fun _ => False) rfl rfl ?aP (fun _ hk => hk.elim) ?aF ?aO ?aB ?aS ?aL ?_; (case aP => exact rfl); (case aB => exact (Zc2 GE534.out GE536.out)); (case aF => exact (fun k_ hk => ⟨Kd.fresh' (Kd.R_lt (Zr HO_32.out)) k_ hk, Kd.fresh' (Kd.R_lt (Zr HO_535000.out)) k_ hk, Kd.fresh' (Kd.R_lt (Zr HO_535002.out)) k_ hk⟩)); (case aO => exact (Zr HO_535001.out)); (case aS => exact (Qam (Zc2 GE534.out GE536.out))); (case aL => have := LMc27.out; omega); intro v545 w30 ho hb hg hat; rw [← Ny544.out] at ho; have HO546 := Aside0.mk (ho); replace HO_32 := Aside0.mk (Kd.R_after (ok := (fun k_ => some k_ ≠ (u535000 : Value).ownBlock ∧ some k_ ≠ (u535002 : Value).ownBlock)) (by (with_reducible repeat (first | apply Kd.R_alloc | apply Kd.R_drewN | apply Kd.R_drew)); exact Kd.R_mono HO_32.out (fun _ hk => ⟨⟨hk.1, hk.2.2⟩, hk.2.1⟩)) hg hat); replace HO_535000 := Aside0.mk (Kd.R_after (ok := (fun k_ => some k_ ≠ (.slice (some ad540) y537.length co15 : Value).ownBlock ∧ some k_ ≠ (u535002 : Value).ownBlock)) (by (with_reducible repeat (first | apply Kd.R_alloc | apply Kd.R_drewN | apply Kd.R_drew)); exact Kd.R_mono HO_535000.out (fun _ hk => ⟨⟨hk.1, hk.2.2⟩, hk.2.1⟩)) hg hat); replace HO_535002 := Aside0.mk (Kd.R_after (ok := (fun k_ => some k_ ≠ (.slice (some ad540) y537.length co15 : Value).ownBlock ∧ some k_ ≠ (u535000 : Value).ownBlock)) (by (with_reducible repeat (first | apply Kd.R_alloc | apply Kd.R_drewN | apply Kd.R_drew)); exact Kd.R_mono HO_535002.out (fun _ hk => ⟨⟨hk.1, hk.2.1⟩, hk.2.2⟩)) hg hat); replace BK534 := Aside0.mk (QaK (g := gb534) (o := .cells #[u535000, u535001, u535002] 101 (0, 0)) (Zu BK534.out) hg (Kd.R_ne HO_535001.out BK534.out (by decide))); replace BK536 := Aside0.mk (QaK (g := gb536) (o := .cells #[.string ((rd_T50 l0 x17_1).f0.f0), .string ((rd_T50 l0 x17_1).f0.f1), .int .i64 ((rd_T50 l0 x17_1).f1), .int .i64 ((rd_T50 l0 x17_1).f2), .int .i64 ((rd_T50 l0 x17_1).f3)] 50 (0, 0)) (Zu BK536.out) hg (Kd.R_ne HO_535001.out BK536.out (by decide))); replace HB := Aside0.mk (hb); clear HO_535001; clear ho hb hg hat; obtain ⟨Ao31, co31, eo31⟩ := Kd.R_slice HO546.out; subst eo31; obtain ⟨hcz32_0, hfz32_0⟩ := Zy (v := (u535000)) BK534.out 0; obtain ⟨hcz32_1, hfz32_1⟩ := Zy (v := (u535001)) BK534.out 1; obtain ⟨hcz32_2, hfz32_2⟩ := Zy (v := (u535002)) BK534.out 2))
              repeat (go_quiet (first | ((with_reducible refine Qbi (b := .append) (xs := #[.tmp 42, .tmp 44]) rfl ?_); at_builtin; refine Kd.R_append (Kd.int .i64) (w0 := w) w.heap.size rfl (.tmp 42) (.tmp 44) 63 3 (.int .i64 0) 8 rfl Try.underlying63 info3 rfl (by decide) (by omega) u535001 x535001_2 z540 [.int .i64 z540] (fun k_ => some k_ ≠ (.slice (some ad540) y537.length co15 : Value).ownBlock ∧ some k_ ≠ (u535000 : Value).ownBlock ∧ some k_ ≠ (u535002 : Value).ownBlock) (fun _ => False) rfl rfl ?aP (fun _ hk => hk.elim) ?aF ?aO ?aB ?aS ?aL ?_; (case aP => exact rfl); (case aB => exact (Zc2 GE534.out GE536.out)); (case aF => exact (fun k_ hk => ⟨Kd.fresh' (Kd.R_lt (Zr HO_32.out)) k_ hk, Kd.fresh' (Kd.R_lt (Zr HO_535000.out)) k_ hk, Kd.fresh' (Kd.R_lt (Zr HO_535002.out)) k_ hk⟩)); (case aO => exact (Zr HO_535001.out)); (case aS => exact (Qam (Zc2 GE534.out GE536.out))); (case aL => have := LMc27.out; omega); intro v545 w30 ho hb hg hat; rw [← Ny544.out] at ho; have HO546 := Aside0.mk (ho); replace HO_32 := Aside0.mk (Kd.R_after (ok := (fun k_ => some k_ ≠ (u535000 : Value).ownBlock ∧ some k_ ≠ (u535002 : Value).ownBlock)) (by (with_reducible repeat (first | apply Kd.R_alloc | apply Kd.R_drewN | apply Kd.R_drew)); exact Kd.R_mono HO_32.out (fun _ hk => ⟨⟨hk.1, hk.2.2⟩, hk.2.1⟩)) hg hat); replace HO_535000 := Aside0.mk (Kd.R_after (ok := (fun k_ => some k_ ≠ (.slice (some ad540) y537.length co15 : Value).ownBlock ∧ some k_ ≠ (u535002 : Value).ownBlock)) (by (with_reducible repeat (first | apply Kd.R_alloc | apply Kd.R_drewN | apply Kd.R_drew)); exact Kd.R_mono HO_535000.out (fun _ hk => ⟨⟨hk.1, hk.2.2⟩, hk.2.1⟩)) hg hat); replace HO_535002 := Aside0.mk (Kd.R_after (ok := (fun k_ => some k_ ≠ (.slice (some ad540) y537.length co15 : Value).ownBlock ∧ some k_ ≠ (u535000 : Value).ownBlock)) (by (with_reducible repeat (first | apply Kd.R_alloc | apply Kd.R_drewN | apply Kd.R_drew)); exact Kd.R_mono HO_535002.out (fun _ hk => ⟨⟨hk.1, hk.2.1⟩, hk.2.2⟩)) hg hat); replace BK534 := Aside0.mk (QaK (g := gb534) (o := .cells #[u535000, u535001, u535002] 101 (0, 0)) (Zu BK534.out) hg (Kd.R_ne HO_535001.out BK534.out (by decide))); replace BK536 := Aside0.mk (QaK (g := gb536) (o := .cells #[.string ((rd_T50 l0 x17_1).f0.f0), .string ((rd_T50 l0 x17_1).f0.f1), .int .i64 ((rd_T50 l0 x17_1).f1), .int .i64 ((rd_T50 l0 x17_1).f2), .int .i64 ((rd_T50 l0 x17_1).f3)] 50 (0, 0)) (Zu BK536.out) hg (Kd.R_ne HO_535001.out BK536.out (by decide))); replace HB := Aside0.mk (hb); clear HO_535001; clear ho hb hg hat; obtain ⟨Ao31, co31, eo31⟩ := Kd.R_slice HO546.out; subst eo31; obtain ⟨hcz32_0, hfz32_0⟩ := Zy (v := (u535000)) BK534.out 0; obtain ⟨hcz32_1, hfz32_1⟩ := Zy (v := (u535001)) BK534.out 1; obtain ⟨hcz32_2, hfz32_2⟩ := Zy (v := (u535002)) BK534.out 2)); try go_wp2_with (first | ((with_reducible refine Qbi (b := .append) (xs := #[.tmp 42, .tmp 44]) rfl ?_); at_builtin; refine Kd.R_append (Kd.int .i64) (w0 := w) w.heap.size rfl (.tmp 42) (.tmp 44) 63 3 (.int .i64 0) 8 rfl Try.underlying63 info3 rfl (by decide) (by omega) u535001 x535001_2 z540 [.int .i64 z540] (fun k_ => some k_ ≠ (.slice (some ad540) y537.length co15 : Value).ownBlock ∧ some k_ ≠ (u535000 : Value).ownBlock ∧ some k_ ≠ (u535002 : Value).ownBlock) (fun _ => False) rfl rfl ?aP (fun _ hk => hk.elim) ?aF ?aO ?aB ?aS ?aL ?_; (case aP => exact rfl); (case aB => exact (Zc2 GE534.out GE536.out)); (case aF => exact (fun k_ hk => ⟨Kd.fresh' (Kd.R_lt (Zr HO_32.out)) k_ hk, Kd.fresh' (Kd.R_lt (Zr HO_535000.out)) k_ hk, Kd.fresh' (Kd.R_lt (Zr HO_535002.out)) k_ hk⟩)); (case aO => exact (Zr HO_535001.out)); (case aS => exact (Qam (Zc2 GE534.out GE536.out))); (case aL => have := LMc27.out; omega); intro v545 w30 ho hb hg hat; rw [← Ny544.out] at ho; have HO546 := Aside0.mk (ho); replace HO_32 := Aside0.mk (Kd.R_after (ok := (fun k_ => some k_ ≠ (u535000 : Value).ownBlock ∧ some k_ ≠ (u535002 : Value).ownBlock)) (by (with_reducible repeat (first | apply Kd.R_alloc | apply Kd.R_drewN | apply Kd.R_drew)); exact Kd.R_mono HO_32.out (fun _ hk => ⟨⟨hk.1, hk.2.2⟩, hk.2.1⟩)) hg hat); replace HO_535000 := Aside0.mk (Kd.R_after (ok := (fun k_ => some k_ ≠ (.slice (some ad540) y537.length co15 : Value).ownBlock ∧ some k_ ≠ (u535002 : Value).ownBlock)) (by (with_reducible repeat (first | apply Kd.R_alloc | apply Kd.R_drewN | apply Kd.R_drew)); exact Kd.R_mono HO_535000.out (fun _ hk => ⟨⟨hk.1, hk.2.2⟩, hk.2.1⟩)) hg hat); replace HO_535002 := Aside0.mk (Kd.R_after (ok := (fun k_ => some k_ ≠ (.slice (some ad540) y537.length co15 : Value).ownBlock ∧ some k_ ≠ (u535000 : Value).ownBlock)) (by (with_reducible repeat (first | apply Kd.R_alloc | apply Kd.R_drewN | apply Kd.R_drew)); exact Kd.R_mono HO_535002.out (fun _ hk => ⟨⟨hk.1, hk.2.1⟩, hk.2.2⟩)) hg hat); replace BK534 := Aside0.mk (QaK (g := gb534) (o := .cells #[u535000, u535001, u535002] 101 (0, 0)) (Zu BK534.out) hg (Kd.R_ne HO_535001.out BK534.out (by decide))); replace BK536 := Aside0.mk (QaK (g := gb536) (o := .cells #[.string ((rd_T50 l0 x17_1).f0.f0), .string ((rd_T50 l0 x17_1).f0.f1), .int .i64 ((rd_T50 l0 x17_1).f1), .int .i64 ((rd_T50 l0 x17_1).f2), .int .i64 ((rd_T50 l0 x17_1).f3)] 50 (0, 0)) (Zu BK536.out) hg (Kd.R_ne HO_535001.out BK536.out (by decide))); replace HB := Aside0.mk (hb); clear HO_535001; clear ho hb hg hat; obtain ⟨Ao31, co31, eo31⟩ := Kd.R_slice HO546.out; subst eo31; obtain ⟨hcz32_0, hfz32_0⟩ := Zy (v := (u535000)) BK534.out 0; obtain ⟨hcz32_1, hfz32_1⟩ := Zy (v := (u535001)) BK534.out 1; obtain ⟨hcz32_2, hfz32_2⟩ := Zy (v := (u535002)) BK534.out 2)))
              go_roundg k2
              case measure => have := HK1.out; have := HK2.out; omega
              case rel => exact ⟨(wrap64 (x34_2 + 1)), (x535000_2), (y544), (x535002_2), (u535000), (.slice Ao31 y544.length co31), (u535002), (Zs2), H', ⟨by have := HK1.out; have := HK2.out; omega⟩, ⟨by (with_reducible repeat (first | apply Kd.R_alloc | apply Kd.R_drewN | apply Kd.R_drew)); exact Kd.R_mono (Zf gb534 1 (Kd.R_types HO_32.out BK534.out (by decide)) (.slice Ao31 y544.length co31)) (fun _ hk => ⟨hk.1.1.1, ⟨hk.1.2, hk.1.1.2⟩⟩)⟩, ⟨by (with_reducible repeat (first | apply Kd.R_alloc | apply Kd.R_drewN | apply Kd.R_drew)); exact Kd.R_mono (Zf gb534 1 (Kd.R_types HO_535000.out BK534.out (by decide)) (.slice Ao31 y544.length co31)) (fun _ hk => ⟨hk.1.1.1, ⟨hk.1.2, hk.1.1.2⟩⟩)⟩, ⟨by (with_reducible repeat (first | apply Kd.R_alloc | apply Kd.R_drewN | apply Kd.R_drew)); exact Kd.R_mono (Zf gb534 1 (Kd.R_types HO546.out BK534.out (by decide)) (.slice Ao31 y544.length co31)) (fun _ hk => ⟨hk.1.1, ⟨hk.1.2.1, hk.1.2.2⟩⟩)⟩, ⟨by (with_reducible repeat (first | apply Kd.R_alloc | apply Kd.R_drewN | apply Kd.R_drew)); exact Kd.R_mono (Zf gb534 1 (Kd.R_types HO_535002.out BK534.out (by decide)) (.slice Ao31 y544.length co31)) (fun _ hk => ⟨hk.1.1.1, ⟨hk.1.1.2, hk.1.2⟩⟩)⟩, ⟨Zp2 BK534.out⟩, ⟨Zg1 BK536.out NB536_534.out⟩, ⟨Zc2 GE534.out GE536.out⟩⟩
             rw [if_neg c27] at H
             exact absurd H (by simp)
            rw [if_neg c26] at H
            have c26b0 : (x34_2 == 1) = F := beq_eq_false_iff_ne.mpr c26
            have c26b1 : (x34_2 != 1) = T := bne_iff_ne.mpr c26
            by_cases c33 : x34_2 = 2
            ·rw [if_pos c33] at H
             have c33x := c33
             have c33b0 : (x34_2 == 2) = T := beq_iff_eq.mpr c33
             have c33b1 : (x34_2 != 2) = F := bne_eq_false_iff_eq.mpr c33
             clear c33
             by_cases c34 : x535002_2.length < 17592186044416
             ·rw [if_pos c34] at H
              have LMc34 := Aside0.mk c34
              clear c34
              obtain ⟨y547, hy547⟩ : ∃ y_ : List Int, y_ = (x535002_2 ++ [rd y537 x34_2]) := ⟨_, rfl⟩
              replace H : (Qaw.l1 k2 a1 l0 (l0.length : Int) x17_1 y537 (y537.length : Int) (wrap64 (x34_2 + 1)) x535000_2 x535001_2 y547) = some (r1, r2, r3, r4) := by first | (rw [hy547]; with_reducible exact H) | (have H2_ := (Option.bind_some _ _).symm.trans H; rw [hy547]; with_reducible exact H2_) | (have H2_ := (Option.bind_some _ _).symm.trans H; with_reducible exact H2_) | with_reducible exact H | (rw [hy547]; exact H) | exact H
              have Ny547 := Aside0.mk hy547
              clear hy547
              have H' := Aside0.mk H
              clear H
              have p540 : 0 ≤ (x34_2 : Int) := Ze
              have q540 : x34_2 < (y537.length : Int) := Ze
              obtain ⟨ad540, e540, hx540_0⟩ := Kd.at_int (Kd.R_reads' HO_32.out).2.2 x34_2 p540 q540
              cases e540
              replace p540 := eq_true p540
              replace q540 := eq_true q540
              have hnb35 := NB534_536.out
              have hnc35 := NB536_534.out
              obtain ⟨hcz36_0, hfz36_0⟩ := Zy (v := (u535000)) BK534.out 0
              obtain ⟨hcz36_1, hfz36_1⟩ := Zy (v := (u535001)) BK534.out 1
              obtain ⟨hcz36_2, hfz36_2⟩ := Zy (v := (u535002)) BK534.out 2
              (try (have hz540_0 := hx540_0; rw [show ad540.add (x34_2).toNat = ⟨ad540.block, ad540.off + 2, none⟩ from by simp [c33x, Addr.add]] at hz540_0))
              generalize hzez540 : rd y537 x34_2 = z540 at hx540_0 Ny547 hz540_0
              have hqz540 : (2 : Int) < (y537.length : Int) := by have h_ := of_eq_true q540; rw [c33x] at h_; exact h_
              have hiz540 : decide ((2 : Int) < (y537.length : Int)) = T := decide_eq_true hqz540
              have hnz540 : decide (2 < y537.length) = T := decide_eq_true (by omega)
              have hmz540 : (2 < y537.length) = True := eq_true (by omega)
              replace hqz540 := eq_true hqz540
              go_wp2_with (first | ((with_reducible refine Qbi (b := .append) (xs := #[.tmp 42, .tmp 44]) rfl ?_); at_builtin; refine Kd.R_append (Kd.int .i64) (w0 := w) w.heap.size rfl (.tmp 42) (.tmp 44) 63 3 (.int .i64 0) 8 rfl Try.underlying63 info3 rfl (by decide) (by omega) u535002 x535002_2 z540 [.int .i64 z540] (fun k_ => some k_ ≠ (.slice (some ad540) y537.length co15 : Value).ownBlock ∧ some k_ ≠ (u535000 : Value).ownBlock ∧ some k_ ≠ (u535001 : Value).ownBlock) (fun _ => False) rfl rfl ?aP (fun _ hk => hk.elim) ?aF ?aO ?aB ?aS ?aL ?_; (case aP => exact rfl); (case aB => exact (Zc2 GE534.out GE536.out)); (case aF => exact (fun k_ hk => ⟨Kd.fresh' (Kd.R_lt (Zr HO_32.out)) k_ hk, Kd.fresh' (Kd.R_lt (Zr HO_535000.out)) k_ hk, Kd.fresh' (Kd.R_lt (Zr HO_535001.out)) k_ hk⟩)); (case aO => exact (Zr HO_535002.out)); (case aS => exact (Qam (Zc2 GE534.out GE536.out))); (case aL => have := LMc34.out; omega); intro v548 w37 ho hb hg hat; rw [← Ny547.out] at ho; have HO549 := Aside0.mk (ho); replace HO_32 := Aside0.mk (Kd.R_after (ok := (fun k_ => some k_ ≠ (u535000 : Value).ownBlock ∧ some k_ ≠ (u535001 : Value).ownBlock)) (by (with_reducible repeat (first | apply Kd.R_alloc | apply Kd.R_drewN | apply Kd.R_drew)); exact Kd.R_mono HO_32.out (fun _ hk => ⟨⟨hk.1, hk.2.1⟩, hk.2.2⟩)) hg hat); replace HO_535000 := Aside0.mk (Kd.R_after (ok := (fun k_ => some k_ ≠ (.slice (some ad540) y537.length co15 : Value).ownBlock ∧ some k_ ≠ (u535001 : Value).ownBlock)) (by (with_reducible repeat (first | apply Kd.R_alloc | apply Kd.R_drewN | apply Kd.R_drew)); exact Kd.R_mono HO_535000.out (fun _ hk => ⟨⟨hk.1, hk.2.1⟩, hk.2.2⟩)) hg hat); replace HO_535001 := Aside0.mk (Kd.R_after (ok := (fun k_ => some k_ ≠ (.slice (some ad540) y537.length co15 : Value).ownBlock ∧ some k_ ≠ (u535000 : Value).ownBlock)) (by (with_reducible repeat (first | apply Kd.R_alloc | apply Kd.R_drewN | apply Kd.R_drew)); exact Kd.R_mono HO_535001.out (fun _ hk => ⟨⟨hk.1, hk.2.1⟩, hk.2.2⟩)) hg hat); replace BK534 := Aside0.mk (QaK (g := gb534) (o := .cells #[u535000, u535001, u535002] 101 (0, 0)) (Zu BK534.out) hg (Kd.R_ne HO_535002.out BK534.out (by decide))); replace BK536 := Aside0.mk (QaK (g := gb536) (o := .cells #[.string ((rd_T50 l0 x17_1).f0.f0), .string ((rd_T50 l0 x17_1).f0.f1), .int .i64 ((rd_T50 l0 x17_1).f1), .int .i64 ((rd_T50 l0 x17_1).f2), .int .i64 ((rd_T50 l0 x17_1).f3)] 50 (0, 0)) (Zu BK536.out) hg (Kd.R_ne HO_535002.out BK536.out (by decide))); replace HB := Aside0.mk (hb); clear HO_535002; clear ho hb hg hat; obtain ⟨Ao38, co38, eo38⟩ := Kd.R_slice HO549.out; subst eo38; obtain ⟨hcz39_0, hfz39_0⟩ := Zy (v := (u535000)) BK534.out 0; obtain ⟨hcz39_1, hfz39_1⟩ := Zy (v := (u535001)) BK534.out 1; obtain ⟨hcz39_2, hfz39_2⟩ := Zy (v := (u535002)) BK534.out 2))
              repeat (go_quiet (first | ((with_reducible refine Qbi (b := .append) (xs := #[.tmp 42, .tmp 44]) rfl ?_); at_builtin; refine Kd.R_append (Kd.int .i64) (w0 := w) w.heap.size rfl (.tmp 42) (.tmp 44) 63 3 (.int .i64 0) 8 rfl Try.underlying63 info3 rfl (by decide) (by omega) u535002 x535002_2 z540 [.int .i64 z540] (fun k_ => some k_ ≠ (.slice (some ad540) y537.length co15 : Value).ownBlock ∧ some k_ ≠ (u535000 : Value).ownBlock ∧ some k_ ≠ (u535001 : Value).ownBlock) (fun _ => False) rfl rfl ?aP (fun _ hk => hk.elim) ?aF ?aO ?aB ?aS ?aL ?_; (case aP => exact rfl); (case aB => exact (Zc2 GE534.out GE536.out)); (case aF => exact (fun k_ hk => ⟨Kd.fresh' (Kd.R_lt (Zr HO_32.out)) k_ hk, Kd.fresh' (Kd.R_lt (Zr HO_535000.out)) k_ hk, Kd.fresh' (Kd.R_lt (Zr HO_535001.out)) k_ hk⟩)); (case aO => exact (Zr HO_535002.out)); (case aS => exact (Qam (Zc2 GE534.out GE536.out))); (case aL => have := LMc34.out; omega); intro v548 w37 ho hb hg hat; rw [← Ny547.out] at ho; have HO549 := Aside0.mk (ho); replace HO_32 := Aside0.mk (Kd.R_after (ok := (fun k_ => some k_ ≠ (u535000 : Value).ownBlock ∧ some k_ ≠ (u535001 : Value).ownBlock)) (by (with_reducible repeat (first | apply Kd.R_alloc | apply Kd.R_drewN | apply Kd.R_drew)); exact Kd.R_mono HO_32.out (fun _ hk => ⟨⟨hk.1, hk.2.1⟩, hk.2.2⟩)) hg hat); replace HO_535000 := Aside0.mk (Kd.R_after (ok := (fun k_ => some k_ ≠ (.slice (some ad540) y537.length co15 : Value).ownBlock ∧ some k_ ≠ (u535001 : Value).ownBlock)) (by (with_reducible repeat (first | apply Kd.R_alloc | apply Kd.R_drewN | apply Kd.R_drew)); exact Kd.R_mono HO_535000.out (fun _ hk => ⟨⟨hk.1, hk.2.1⟩, hk.2.2⟩)) hg hat); replace HO_535001 := Aside0.mk (Kd.R_after (ok := (fun k_ => some k_ ≠ (.slice (some ad540) y537.length co15 : Value).ownBlock ∧ some k_ ≠ (u535000 : Value).ownBlock)) (by (with_reducible repeat (first | apply Kd.R_alloc | apply Kd.R_drewN | apply Kd.R_drew)); exact Kd.R_mono HO_535001.out (fun _ hk => ⟨⟨hk.1, hk.2.1⟩, hk.2.2⟩)) hg hat); replace BK534 := Aside0.mk (QaK (g := gb534) (o := .cells #[u535000, u535001, u535002] 101 (0, 0)) (Zu BK534.out) hg (Kd.R_ne HO_535002.out BK534.out (by decide))); replace BK536 := Aside0.mk (QaK (g := gb536) (o := .cells #[.string ((rd_T50 l0 x17_1).f0.f0), .string ((rd_T50 l0 x17_1).f0.f1), .int .i64 ((rd_T50 l0 x17_1).f1), .int .i64 ((rd_T50 l0 x17_1).f2), .int .i64 ((rd_T50 l0 x17_1).f3)] 50 (0, 0)) (Zu BK536.out) hg (Kd.R_ne HO_535002.out BK536.out (by decide))); replace HB := Aside0.mk (hb); clear HO_535002; clear ho hb hg hat; obtain ⟨Ao38, co38, eo38⟩ := Kd.R_slice HO549.out; subst eo38; obtain ⟨hcz39_0, hfz39_0⟩ := Zy (v := (u535000)) BK534.out 0; obtain ⟨hcz39_1, hfz39_1⟩ := Zy (v := (u535001)) BK534.out 1; obtain ⟨hcz39_2, hfz39_2⟩ := Zy (v := (u535002)) BK534.out 2)); try go_wp2_with (first | ((with_reducible refine Qbi (b := .append) (xs := #[.tmp 42, .tmp 44]) rfl ?_); at_builtin; refine Kd.R_append (Kd.int .i64) (w0 := w) w.heap.size rfl (.tmp 42) (.tmp 44) 63 3 (.int .i64 0) 8 rfl Try.underlying63 info3 rfl (by decide) (by omega) u535002 x535002_2 z540 [.int .i64 z540] (fun k_ => some k_ ≠ (.slice (some ad540) y537.length co15 : Value).ownBlock ∧ some k_ ≠ (u535000 : Value).ownBlock ∧ some k_ ≠ (u535001 : Value).ownBlock) (fun _ => False) rfl rfl ?aP (fun _ hk => hk.elim) ?aF ?aO ?aB ?aS ?aL ?_; (case aP => exact rfl); (case aB => exact (Zc2 GE534.out GE536.out)); (case aF => exact (fun k_ hk => ⟨Kd.fresh' (Kd.R_lt (Zr HO_32.out)) k_ hk, Kd.fresh' (Kd.R_lt (Zr HO_535000.out)) k_ hk, Kd.fresh' (Kd.R_lt (Zr HO_535001.out)) k_ hk⟩)); (case aO => exact (Zr HO_535002.out)); (case aS => exact (Qam (Zc2 GE534.out GE536.out))); (case aL => have := LMc34.out; omega); intro v548 w37 ho hb hg hat; rw [← Ny547.out] at ho; have HO549 := Aside0.mk (ho); replace HO_32 := Aside0.mk (Kd.R_after (ok := (fun k_ => some k_ ≠ (u535000 : Value).ownBlock ∧ some k_ ≠ (u535001 : Value).ownBlock)) (by (with_reducible repeat (first | apply Kd.R_alloc | apply Kd.R_drewN | apply Kd.R_drew)); exact Kd.R_mono HO_32.out (fun _ hk => ⟨⟨hk.1, hk.2.1⟩, hk.2.2⟩)) hg hat); replace HO_535000 := Aside0.mk (Kd.R_after (ok := (fun k_ => some k_ ≠ (.slice (some ad540) y537.length co15 : Value).ownBlock ∧ some k_ ≠ (u535001 : Value).ownBlock)) (by (with_reducible repeat (first | apply Kd.R_alloc | apply Kd.R_drewN | apply Kd.R_drew)); exact Kd.R_mono HO_535000.out (fun _ hk => ⟨⟨hk.1, hk.2.1⟩, hk.2.2⟩)) hg hat); replace HO_535001 := Aside0.mk (Kd.R_after (ok := (fun k_ => some k_ ≠ (.slice (some ad540) y537.length co15 : Value).ownBlock ∧ some k_ ≠ (u535000 : Value).ownBlock)) (by (with_reducible repeat (first | apply Kd.R_alloc | apply Kd.R_drewN | apply Kd.R_drew)); exact Kd.R_mono HO_535001.out (fun _ hk => ⟨⟨hk.1, hk.2.1⟩, hk.2.2⟩)) hg hat); replace BK534 := Aside0.mk (QaK (g := gb534) (o := .cells #[u535000, u535001, u535002] 101 (0, 0)) (Zu BK534.out) hg (Kd.R_ne HO_535002.out BK534.out (by decide))); replace BK536 := Aside0.mk (QaK (g := gb536) (o := .cells #[.string ((rd_T50 l0 x17_1).f0.f0), .string ((rd_T50 l0 x17_1).f0.f1), .int .i64 ((rd_T50 l0 x17_1).f1), .int .i64 ((rd_T50 l0 x17_1).f2), .int .i64 ((rd_T50 l0 x17_1).f3)] 50 (0, 0)) (Zu BK536.out) hg (Kd.R_ne HO_535002.out BK536.out (by decide))); replace HB := Aside0.mk (hb); clear HO_535002; clear ho hb hg hat; obtain ⟨Ao38, co38, eo38⟩ := Kd.R_slice HO549.out; subst eo38; obtain ⟨hcz39_0, hfz39_0⟩ := Zy (v := (u535000)) BK534.out 0; obtain ⟨hcz39_1, hfz39_1⟩ := Zy (v := (u535001)) BK534.out 1; obtain ⟨hcz39_2, hfz39_2⟩ := Zy (v := (u535002)) BK534.out 2)))
              go_roundg k2
              case measure => have := HK1.out; have := HK2.out; omega
              case rel => exact ⟨(wrap64 (x34_2 + 1)), (x535000_2), (x535001_2), (y547), (u535000), (u535001), (.slice Ao38 y547.length co38), (Zs2), H', ⟨by have := HK1.out; have := HK2.out; omega⟩, ⟨by (with_reducible repeat (first | apply Kd.R_alloc | apply Kd.R_drewN | apply Kd.R_drew)); exact Kd.R_mono (Zf gb534 2 (Kd.R_types HO_32.out BK534.out (by decide)) (.slice Ao38 y547.length co38)) (fun _ hk => ⟨hk.1.1.1, ⟨hk.1.1.2, hk.1.2⟩⟩)⟩, ⟨by (with_reducible repeat (first | apply Kd.R_alloc | apply Kd.R_drewN | apply Kd.R_drew)); exact Kd.R_mono (Zf gb534 2 (Kd.R_types HO_535000.out BK534.out (by decide)) (.slice Ao38 y547.length co38)) (fun _ hk => ⟨hk.1.1.1, ⟨hk.1.1.2, hk.1.2⟩⟩)⟩, ⟨by (with_reducible repeat (first | apply Kd.R_alloc | apply Kd.R_drewN | apply Kd.R_drew)); exact Kd.R_mono (Zf gb534 2 (Kd.R_types HO_535001.out BK534.out (by decide)) (.slice Ao38 y547.length co38)) (fun _ hk => ⟨hk.1.1.1, ⟨hk.1.1.2, hk.1.2⟩⟩)⟩, ⟨by (with_reducible repeat (first | apply Kd.R_alloc | apply Kd.R_drewN | apply Kd.R_drew)); exact Kd.R_mono (Zf gb534 2 (Kd.R_types HO549.out BK534.out (by decide)) (.slice Ao38 y547.length co38)) (fun _ hk => ⟨hk.1.1, ⟨hk.1.2.1, hk.1.2.2⟩⟩)⟩, ⟨Zp2 BK534.out⟩, ⟨Zg1 BK536.out NB536_534.out⟩, ⟨Zc2 GE534.out GE536.out⟩⟩
             rw [if_neg c34] at H
             exact absurd H (by simp)
            rw [if_neg c33] at H
            exact absurd H (by simp)
           rw [if_neg c18] at H
           exact absurd H (by simp)
          rw [if_neg c17] at H
          exact absurd H (by simp)
         rw [if_neg c16] at H
         have c16b0 : decide (x34_2 < (y537.length : Int)) = F := decide_eq_false c16
         clear c16
         (try simp only [c16b0])
         have H' := Aside0.mk H
         clear H
         go_wp2
         repeat (go_quiet (fail); try go_wp2)
         go_roundg k2
         case measure => have := HK1.out; have := HK2.out; omega
         case rel => exact ⟨(wrap64 (x17_1 + 1)), (x535000_2), (x535001_2), (x535002_2), (u535000), (u535001), (u535002), (Zs2), H', ⟨by have := HK1.out; have := HK2.out; omega⟩, ⟨by (with_reducible repeat (first | apply Kd.R_alloc | apply Kd.R_drewN | apply Kd.R_drew)); exact Kd.R_mono HO_535000.out (fun _ hk => ⟨hk.2.1, hk.2.2⟩)⟩, ⟨by (with_reducible repeat (first | apply Kd.R_alloc | apply Kd.R_drewN | apply Kd.R_drew)); exact Kd.R_mono HO_535001.out (fun _ hk => ⟨hk.2.1, hk.2.2⟩)⟩, ⟨by (with_reducible repeat (first | apply Kd.R_alloc | apply Kd.R_drewN | apply Kd.R_drew)); exact Kd.R_mono HO_535002.out (fun _ hk => ⟨hk.2.1, hk.2.2⟩)⟩, ⟨Zu BK534.out⟩, ⟨Zc2 GE534.out GE536.out⟩⟩
      rw [if_neg c10] at H
      have c10b0 : (((rd_T50 l0 x17_1).f0.f0).toList == a1.toList) = F := beq_eq_false_iff_ne.mpr c10
      have c10b1 : (((rd_T50 l0 x17_1).f0.f0).toList != a1.toList) = T := bne_iff_ne.mpr c10
      (try simp only [c10b0, c10b1])
      have H' := Aside0.mk H
      clear H
      go_wp2
      repeat (go_quiet (fail); try go_wp2)
      go_roundg k1
      case measure => have := HK1.out; omega
      case rel => exact ⟨(wrap64 (x17_1 + 1)), (x535000_1), (x535001_1), (x535002_1), (u535000), (u535001), (u535002), (Zs2), H', ⟨by have := HK1.out; omega⟩, ⟨by (with_reducible repeat (first | apply Kd.R_alloc | apply Kd.R_drewN | apply Kd.R_drew)); exact Kd.R_mono (Zf gb536 4 (Zf gb536 3 (Zf gb536 2 (Zf gb536 1 (Zf gb536 0 (Kd.R_types HO_535000.out BK536.out (by decide)) (.string ((rd_T50 l0 x17_1).f0.f0))) (.string ((rd_T50 l0 x17_1).f0.f1))) (.int .i64 ((rd_T50 l0 x17_1).f1))) (.int .i64 ((rd_T50 l0 x17_1).f2))) (.int .i64 ((rd_T50 l0 x17_1).f3))) (fun _ hk => ⟨hk.1.1, hk.1.2⟩)⟩, ⟨by (with_reducible repeat (first | apply Kd.R_alloc | apply Kd.R_drewN | apply Kd.R_drew)); exact Kd.R_mono (Zf gb536 4 (Zf gb536 3 (Zf gb536 2 (Zf gb536 1 (Zf gb536 0 (Kd.R_types HO_535001.out BK536.out (by decide)) (.string ((rd_T50 l0 x17_1).f0.f0))) (.string ((rd_T50 l0 x17_1).f0.f1))) (.int .i64 ((rd_T50 l0 x17_1).f1))) (.int .i64 ((rd_T50 l0 x17_1).f2))) (.int .i64 ((rd_T50 l0 x17_1).f3))) (fun _ hk => ⟨hk.1.1, hk.1.2⟩)⟩, ⟨by (with_reducible repeat (first | apply Kd.R_alloc | apply Kd.R_drewN | apply Kd.R_drew)); exact Kd.R_mono (Zf gb536 4 (Zf gb536 3 (Zf gb536 2 (Zf gb536 1 (Zf gb536 0 (Kd.R_types HO_535002.out BK536.out (by decide)) (.string ((rd_T50 l0 x17_1).f0.f0))) (.string ((rd_T50 l0 x17_1).f0.f1))) (.int .i64 ((rd_T50 l0 x17_1).f1))) (.int .i64 ((rd_T50 l0 x17_1).f2))) (.int .i64 ((rd_T50 l0 x17_1).f3))) (fun _ hk => ⟨hk.1.1, hk.1.2⟩)⟩, ⟨Zg5 BK534.out NB534_536.out NB534_536.out NB534_536.out NB534_536.out NB534_536.out⟩, ⟨Zc2 GE534.out GE536.out⟩⟩
     rw [if_neg c6] at H
     exact absurd H (by simp)
    rw [if_neg c5] at H
    exact absurd H (by simp)
   rw [if_neg c4] at H
   have c4b0 : decide (x17_1 < (l0.length : Int)) = F := decide_eq_false c4
   clear c4
   (try simp only [c4b0])
   have H' := Aside0.mk H
   clear H
   go_wp2_with (first | ((with_reducible refine QaJ (N := 13) rfl ?_); refine Zbx (N := 13) (cs := #[.int .i64 0, .int .i64 0, .int .i64 0]) (t := 102) ?_; intro gb550 hg w40 hbox hb; have BK550 := Aside0.mk (hbox); have GW550 := Aside0.mk (Zt w hg (Zc1 GE534.out)); have GE550 := GW550; have NB534_550 := Aside0.mk (Zn hg BK534.out); have NB550_534 := Aside0.mk NB534_550.out.symm; replace HO_535000 := Aside0.mk (Kd.R_below (Zr HO_535000.out) hb); replace HO_535001 := Aside0.mk (Kd.R_below (Zr HO_535001.out) hb); replace HO_535002 := Aside0.mk (Kd.R_below (Zr HO_535002.out) hb); replace BK534 := Aside0.mk (Zi BK534.out hb); replace HB := Aside0.mk (Qap (Zc1 GE534.out) hb); clear hb hbox hg))
   repeat (go_quiet (first | ((with_reducible refine QaJ (N := 13) rfl ?_); refine Zbx (N := 13) (cs := #[.int .i64 0, .int .i64 0, .int .i64 0]) (t := 102) ?_; intro gb550 hg w40 hbox hb; have BK550 := Aside0.mk (hbox); have GW550 := Aside0.mk (Zt w hg (Zc1 GE534.out)); have GE550 := GW550; have NB534_550 := Aside0.mk (Zn hg BK534.out); have NB550_534 := Aside0.mk NB534_550.out.symm; replace HO_535000 := Aside0.mk (Kd.R_below (Zr HO_535000.out) hb); replace HO_535001 := Aside0.mk (Kd.R_below (Zr HO_535001.out) hb); replace HO_535002 := Aside0.mk (Kd.R_below (Zr HO_535002.out) hb); replace BK534 := Aside0.mk (Zi BK534.out hb); replace HB := Aside0.mk (Qap (Zc1 GE534.out) hb); clear hb hbox hg)); try go_wp2_with (first | ((with_reducible refine QaJ (N := 13) rfl ?_); refine Zbx (N := 13) (cs := #[.int .i64 0, .int .i64 0, .int .i64 0]) (t := 102) ?_; intro gb550 hg w40 hbox hb; have BK550 := Aside0.mk (hbox); have GW550 := Aside0.mk (Zt w hg (Zc1 GE534.out)); have GE550 := GW550; have NB534_550 := Aside0.mk (Zn hg BK534.out); have NB550_534 := Aside0.mk NB534_550.out.symm; replace HO_535000 := Aside0.mk (Kd.R_below (Zr HO_535000.out) hb); replace HO_535001 := Aside0.mk (Kd.R_below (Zr HO_535001.out) hb); replace HO_535002 := Aside0.mk (Kd.R_below (Zr HO_535002.out) hb); replace BK534 := Aside0.mk (Zi BK534.out hb); replace HB := Aside0.mk (Qap (Zc1 GE534.out) hb); clear hb hbox hg)))
   go_loopg [49] k1 (fun kq v49 w' => ∃ (x49_2 : Int) (x551000_2 : Int) (x551001_2 : Int) (x551002_2 : Int), v49 = .int .i64 x49_2 ∧ Aside0 (Qaw.l2 kq x49_2 x535000_1 x535001_1 x535002_1 x551000_2 x551001_2 x551002_2 = some (r1, r2, r3, r4)) ∧ Aside0 (kq ≤ k1) ∧ Aside0 (Kd.R (Kd.int .i64) 3 w' w.heap.size (fun k_ => some k_ ≠ (u535001 : Value).ownBlock ∧ some k_ ≠ (u535002 : Value).ownBlock) u535000 x535000_1) ∧ Aside0 (Kd.R (Kd.int .i64) 3 w' w.heap.size (fun k_ => some k_ ≠ (u535000 : Value).ownBlock ∧ some k_ ≠ (u535002 : Value).ownBlock) u535001 x535001_1) ∧ Aside0 (Kd.R (Kd.int .i64) 3 w' w.heap.size (fun k_ => some k_ ≠ (u535000 : Value).ownBlock ∧ some k_ ≠ (u535001 : Value).ownBlock) u535002 x535002_1) ∧ Aside0 (w'.heap[gb534]? = some (.cells #[u535000, u535001, u535002] 101 (0, 0))) ∧ Aside0 (w'.heap[gb550]? = some (.cells #[.int .i64 x551000_2, .int .i64 x551001_2, .int .i64 x551002_2] 102 (0, 0))) ∧ Aside0 (Below w.heap.size w w'))
   case atStart => exact ⟨(0), (0), (0), (0), (Zs2), H', ⟨Nat.le_refl _⟩, ⟨Zr HO_535000.out⟩, ⟨Zr HO_535001.out⟩, ⟨Zr HO_535002.out⟩, ⟨Zu BK534.out⟩, ⟨Zu BK550.out⟩, ⟨Zc2 GE534.out GE550.out⟩⟩
   case round =>
    clear H'
    try clear c1
    try clear c2
    try clear p2
    try clear c3
    try clear c4
    try clear c4b0
    try clear c5
    try clear c5b0
    try clear p5
    try clear q5
    try clear hx5
    try clear c6
    try clear c6b0
    try clear p6
    try clear c8
    try clear c10
    try clear c10b0
    try clear c10b1
    try clear c11
    try clear c16
    try clear c16b0
    try clear c17
    try clear c17b0
    try clear c18
    try clear c18b0
    try clear c19
    try clear c19b0
    try clear c19b1
    try clear c20
    try clear c21
    try clear c23
    try clear c26
    try clear c26b0
    try clear c26b1
    try clear c27
    try clear c28
    try clear c33
    try clear c33b0
    try clear c33b1
    try clear c34
    try clear c35
    try clear hcz12_0
    try clear hcz12_1
    try clear hcz12_2
    try clear hcz12_3
    try clear hcz12_4
    try clear hcz22_0
    try clear hcz22_1
    try clear hcz22_2
    try clear hcz25_0
    try clear hcz25_1
    try clear hcz25_2
    try clear hcz29_0
    try clear hcz29_1
    try clear hcz29_2
    try clear hcz32_0
    try clear hcz32_1
    try clear hcz32_2
    try clear hcz36_0
    try clear hcz36_1
    try clear hcz36_2
    try clear hcz39_0
    try clear hcz39_1
    try clear hcz39_2
    try clear hcz9_0
    try clear hcz9_1
    try clear hcz9_2
    try clear hcz9_3
    try clear hcz9_4
    try clear hfz12_0
    try clear hfz12_1
    try clear hfz12_2
    try clear hfz12_3
    try clear hfz12_4
    try clear hfz22_0
    try clear hfz22_1
    try clear hfz22_2
    try clear hfz25_0
    try clear hfz25_1
    try clear hfz25_2
    try clear hfz29_0
    try clear hfz29_1
    try clear hfz29_2
    try clear hfz32_0
    try clear hfz32_1
    try clear hfz32_2
    try clear hfz36_0
    try clear hfz36_1
    try clear hfz36_2
    try clear hfz39_0
    try clear hfz39_1
    try clear hfz39_2
    try clear hfz9_0
    try clear hfz9_1
    try clear hfz9_2
    try clear hfz9_3
    try clear hfz9_4
    try clear hx535_0
    try clear hx535_1
    try clear hx535_2
    try clear hx535_3
    try clear hx535_4
    try clear hx540_0
    try clear p2
    try clear p5
    try clear p535
    try clear p540
    try clear q5
    try clear q535
    try clear q540
    obtain ⟨x49_2, x551000_2, x551001_2, x551002_2, rfl, HA, HK2, HO_535000, HO_535001, HO_535002, BK534, BK550, HB⟩ := hrel
    cases gk with
    | zero => exact absurd HA.out (by simp [Qaw.l2])
    | succ k2 =>
     have H := HA.out
     clear HA
     simp only [Qaw.l2] at H
     by_cases c41 : x49_2 < 3
     ·rw [if_pos c41] at H
      have c41b0 : decide (x49_2 < 3) = T := decide_eq_true c41
      clear c41
      (try simp only [c41b0])
      by_cases c42 : x49_2 = 0
      ·rw [if_pos c42] at H
       have c42x := c42
       have c42b0 : (x49_2 == 0) = T := beq_iff_eq.mpr c42
       have c42b1 : (x49_2 != 0) = F := bne_eq_false_iff_eq.mpr c42
       clear c42
       replace H := Option.bind_eq_some_iff.mp H
       obtain ⟨⟨t551, t552⟩, A430, H⟩ := H
       replace H : (if t552 = 0 then (Qaw.l2 k2 (wrap64 (x49_2 + 1)) x535000_1 x535001_1 x535002_1 t551 x551001_2 x551002_2) else (some (0, 0, 0, t552))) = some (r1, r2, r3, r4) := H
       have A43 := Aside0.mk A430
       clear A430
       have hnb44 := NB534_550.out
       have hnc44 := NB550_534.out
       obtain ⟨hcz45_0, hfz45_0⟩ := Zy (v := (u535000)) BK534.out 0
       obtain ⟨hcz45_1, hfz45_1⟩ := Zy (v := (u535001)) BK534.out 1
       obtain ⟨hcz45_2, hfz45_2⟩ := Zy (v := (u535002)) BK534.out 2
       obtain ⟨Ao46, co46, eo46⟩ := Kd.R_slice HO_535000.out
       subst eo46
       go_upto_if 62 with (first | (go_at_call 53; (with_reducible refine (QaN.calls k2 _ _ x535000_1 t551 t552 _ ?side1 ?side2 A43.out).mono ?_); (case side1 => exact Zv (Kd.R_reads' HO_535000.out).2.2); (case side2 => exact (Kd.R_reads' HO_535000.out).2.1); rintro e w' ⟨rfl, ⟨nd, rfl⟩⟩; (try first | exact ⟨rfl, _, World.drewN_drewN _ _ _⟩ | exact ⟨rfl, _, Eq.trans (World.drewN_drewN _ _ _) (congrArg (World.drewN _) (Nat.add_assoc _ _ _))⟩); obtain ⟨hcz47_0, hfz47_0⟩ := Zy (v := (.int .i64 x551000_2)) BK550.out 0; obtain ⟨hcz47_1, hfz47_1⟩ := Zy (v := (.int .i64 x551001_2)) BK550.out 1; obtain ⟨hcz47_2, hfz47_2⟩ := Zy (v := (.int .i64 x551002_2)) BK550.out 2))
       repeat (go_quiet (first | (go_at_call 53; (with_reducible refine (QaN.calls k2 _ _ x535000_1 t551 t552 _ ?side1 ?side2 A43.out).mono ?_); (case side1 => exact Zv (Kd.R_reads' HO_535000.out).2.2); (case side2 => exact (Kd.R_reads' HO_535000.out).2.1); rintro e w' ⟨rfl, ⟨nd, rfl⟩⟩; (try first | exact ⟨rfl, _, World.drewN_drewN _ _ _⟩ | exact ⟨rfl, _, Eq.trans (World.drewN_drewN _ _ _) (congrArg (World.drewN _) (Nat.add_assoc _ _ _))⟩); obtain ⟨hcz47_0, hfz47_0⟩ := Zy (v := (.int .i64 x551000_2)) BK550.out 0; obtain ⟨hcz47_1, hfz47_1⟩ := Zy (v := (.int .i64 x551001_2)) BK550.out 1; obtain ⟨hcz47_2, hfz47_2⟩ := Zy (v := (.int .i64 x551002_2)) BK550.out 2)); go_upto_if 62 with (first | (go_at_call 53; (with_reducible refine (QaN.calls k2 _ _ x535000_1 t551 t552 _ ?side1 ?side2 A43.out).mono ?_); (case side1 => exact Zv (Kd.R_reads' HO_535000.out).2.2); (case side2 => exact (Kd.R_reads' HO_535000.out).2.1); rintro e w' ⟨rfl, ⟨nd, rfl⟩⟩; (try first | exact ⟨rfl, _, World.drewN_drewN _ _ _⟩ | exact ⟨rfl, _, Eq.trans (World.drewN_drewN _ _ _) (congrArg (World.drewN _) (Nat.add_assoc _ _ _))⟩); obtain ⟨hcz47_0, hfz47_0⟩ := Zy (v := (.int .i64 x551000_2)) BK550.out 0; obtain ⟨hcz47_1, hfz47_1⟩ := Zy (v := (.int .i64 x551001_2)) BK550.out 1; obtain ⟨hcz47_2, hfz47_2⟩ := Zy (v := (.int .i64 x551002_2)) BK550.out 2)))
       (try simp only [Act.put, Zj, Zk, Zm])
       by_cases c48 : t552 = 0
       ·rw [if_pos c48] at H
        have c48b0 : (t552 == 0) = T := beq_iff_eq.mpr c48
        have c48b1 : (t552 != 0) = F := bne_eq_false_iff_eq.mpr c48
        clear c48
        (try simp only [c48b0, c48b1])
        have H' := Aside0.mk H
        clear H
        go_wp2
        repeat (go_quiet (fail); try go_wp2)
        go_roundg k2
        case measure => have := HK1.out; have := HK2.out; omega
        case rel => exact ⟨(wrap64 (x49_2 + 1)), (t551), (x551001_2), (x551002_2), (Zs2), H', ⟨by have := HK1.out; have := HK2.out; omega⟩, ⟨by (with_reducible repeat (first | apply Kd.R_alloc | apply Kd.R_drewN | apply Kd.R_drew)); exact Kd.R_mono (Zf gb550 0 (Kd.R_types HO_535000.out BK550.out (by decide)) (.int .i64 t551)) (fun _ hk => ⟨hk.1.1, hk.1.2⟩)⟩, ⟨by (with_reducible repeat (first | apply Kd.R_alloc | apply Kd.R_drewN | apply Kd.R_drew)); exact Kd.R_mono (Zf gb550 0 (Kd.R_types HO_535001.out BK550.out (by decide)) (.int .i64 t551)) (fun _ hk => ⟨hk.1.1, hk.1.2⟩)⟩, ⟨by (with_reducible repeat (first | apply Kd.R_alloc | apply Kd.R_drewN | apply Kd.R_drew)); exact Kd.R_mono (Zf gb550 0 (Kd.R_types HO_535002.out BK550.out (by decide)) (.int .i64 t551)) (fun _ hk => ⟨hk.1.1, hk.1.2⟩)⟩, ⟨Zg1 BK534.out NB534_550.out⟩, ⟨Zp2 BK550.out⟩, ⟨Zc2 GE534.out GE550.out⟩⟩
       rw [if_neg c48] at H
       have c48b0 : (t552 == 0) = F := beq_eq_false_iff_ne.mpr c48
       have c48b1 : (t552 != 0) = T := bne_iff_ne.mpr c48
       (try simp only [c48b0, c48b1])
       simp only [Option.some.injEq, Prod.mk.injEq] at H
       obtain ⟨rfl, rfl, rfl, rfl⟩ := H
       go_wp2
       repeat (go_quiet (fail); try go_wp2)
       refine bodyPost_ret (QbB (rs := [.tmp 4, .tmp 5, .tmp 6, .tmp 7]) rfl (by simp) (.tmp (.tmp (.tmp (.tmp .nil))))) rfl ?_
       exact ⟨Zq, Zc2 GE534.out GE550.out⟩
      rw [if_neg c42] at H
      have c42b0 : (x49_2 == 0) = F := beq_eq_false_iff_ne.mpr c42
      have c42b1 : (x49_2 != 0) = T := bne_iff_ne.mpr c42
      by_cases c49 : x49_2 = 1
      ·rw [if_pos c49] at H
       have c49x := c49
       have c49b0 : (x49_2 == 1) = T := beq_iff_eq.mpr c49
       have c49b1 : (x49_2 != 1) = F := bne_eq_false_iff_eq.mpr c49
       clear c49
       replace H := Option.bind_eq_some_iff.mp H
       obtain ⟨⟨t553, t554⟩, A500, H⟩ := H
       replace H : (if t554 = 0 then (Qaw.l2 k2 (wrap64 (x49_2 + 1)) x535000_1 x535001_1 x535002_1 x551000_2 t553 x551002_2) else (some (0, 0, 0, t554))) = some (r1, r2, r3, r4) := H
       have A50 := Aside0.mk A500
       clear A500
       have hnb51 := NB534_550.out
       have hnc51 := NB550_534.out
       obtain ⟨hcz52_0, hfz52_0⟩ := Zy (v := (u535000)) BK534.out 0
       obtain ⟨hcz52_1, hfz52_1⟩ := Zy (v := (u535001)) BK534.out 1
       obtain ⟨hcz52_2, hfz52_2⟩ := Zy (v := (u535002)) BK534.out 2
       obtain ⟨Ao53, co53, eo53⟩ := Kd.R_slice HO_535001.out
       subst eo53
       go_upto_if 62 with (first | (go_at_call 53; (with_reducible refine (QaN.calls k2 _ _ x535001_1 t553 t554 _ ?side1 ?side2 A50.out).mono ?_); (case side1 => exact Zv (Kd.R_reads' HO_535001.out).2.2); (case side2 => exact (Kd.R_reads' HO_535001.out).2.1); rintro e w' ⟨rfl, ⟨nd, rfl⟩⟩; (try first | exact ⟨rfl, _, World.drewN_drewN _ _ _⟩ | exact ⟨rfl, _, Eq.trans (World.drewN_drewN _ _ _) (congrArg (World.drewN _) (Nat.add_assoc _ _ _))⟩); obtain ⟨hcz54_0, hfz54_0⟩ := Zy (v := (.int .i64 x551000_2)) BK550.out 0; obtain ⟨hcz54_1, hfz54_1⟩ := Zy (v := (.int .i64 x551001_2)) BK550.out 1; obtain ⟨hcz54_2, hfz54_2⟩ := Zy (v := (.int .i64 x551002_2)) BK550.out 2))
       repeat (go_quiet (first | (go_at_call 53; (with_reducible refine (QaN.calls k2 _ _ x535001_1 t553 t554 _ ?side1 ?side2 A50.out).mono ?_); (case side1 => exact Zv (Kd.R_reads' HO_535001.out).2.2); (case side2 => exact (Kd.R_reads' HO_535001.out).2.1); rintro e w' ⟨rfl, ⟨nd, rfl⟩⟩; (try first | exact ⟨rfl, _, World.drewN_drewN _ _ _⟩ | exact ⟨rfl, _, Eq.trans (World.drewN_drewN _ _ _) (congrArg (World.drewN _) (Nat.add_assoc _ _ _))⟩); obtain ⟨hcz54_0, hfz54_0⟩ := Zy (v := (.int .i64 x551000_2)) BK550.out 0; obtain ⟨hcz54_1, hfz54_1⟩ := Zy (v := (.int .i64 x551001_2)) BK550.out 1; obtain ⟨hcz54_2, hfz54_2⟩ := Zy (v := (.int .i64 x551002_2)) BK550.out 2)); go_upto_if 62 with (first | (go_at_call 53; (with_reducible refine (QaN.calls k2 _ _ x535001_1 t553 t554 _ ?side1 ?side2 A50.out).mono ?_); (case side1 => exact Zv (Kd.R_reads' HO_535001.out).2.2); (case side2 => exact (Kd.R_reads' HO_535001.out).2.1); rintro e w' ⟨rfl, ⟨nd, rfl⟩⟩; (try first | exact ⟨rfl, _, World.drewN_drewN _ _ _⟩ | exact ⟨rfl, _, Eq.trans (World.drewN_drewN _ _ _) (congrArg (World.drewN _) (Nat.add_assoc _ _ _))⟩); obtain ⟨hcz54_0, hfz54_0⟩ := Zy (v := (.int .i64 x551000_2)) BK550.out 0; obtain ⟨hcz54_1, hfz54_1⟩ := Zy (v := (.int .i64 x551001_2)) BK550.out 1; obtain ⟨hcz54_2, hfz54_2⟩ := Zy (v := (.int .i64 x551002_2)) BK550.out 2)))
       (try simp only [Act.put, Zj, Zk, Zm])
       by_cases c55 : t554 = 0
       ·rw [if_pos c55] at H
        have c55b0 : (t554 == 0) = T := beq_iff_eq.mpr c55
        have c55b1 : (t554 != 0) = F := bne_eq_false_iff_eq.mpr c55
        clear c55
        (try simp only [c55b0, c55b1])
        have H' := Aside0.mk H
        clear H
        go_wp2
        repeat (go_quiet (fail); try go_wp2)
        go_roundg k2
        case measure => have := HK1.out; have := HK2.out; omega
        case rel => exact ⟨(wrap64 (x49_2 + 1)), (x551000_2), (t553), (x551002_2), (Zs2), H', ⟨by have := HK1.out; have := HK2.out; omega⟩, ⟨by (with_reducible repeat (first | apply Kd.R_alloc | apply Kd.R_drewN | apply Kd.R_drew)); exact Kd.R_mono (Zf gb550 1 (Kd.R_types HO_535000.out BK550.out (by decide)) (.int .i64 t553)) (fun _ hk => ⟨hk.1.1, hk.1.2⟩)⟩, ⟨by (with_reducible repeat (first | apply Kd.R_alloc | apply Kd.R_drewN | apply Kd.R_drew)); exact Kd.R_mono (Zf gb550 1 (Kd.R_types HO_535001.out BK550.out (by decide)) (.int .i64 t553)) (fun _ hk => ⟨hk.1.1, hk.1.2⟩)⟩, ⟨by (with_reducible repeat (first | apply Kd.R_alloc | apply Kd.R_drewN | apply Kd.R_drew)); exact Kd.R_mono (Zf gb550 1 (Kd.R_types HO_535002.out BK550.out (by decide)) (.int .i64 t553)) (fun _ hk => ⟨hk.1.1, hk.1.2⟩)⟩, ⟨Zg1 BK534.out NB534_550.out⟩, ⟨Zp2 BK550.out⟩, ⟨Zc2 GE534.out GE550.out⟩⟩
       rw [if_neg c55] at H
       have c55b0 : (t554 == 0) = F := beq_eq_false_iff_ne.mpr c55
       have c55b1 : (t554 != 0) = T := bne_iff_ne.mpr c55
       (try simp only [c55b0, c55b1])
       simp only [Option.some.injEq, Prod.mk.injEq] at H
       obtain ⟨rfl, rfl, rfl, rfl⟩ := H
       go_wp2
       repeat (go_quiet (fail); try go_wp2)
       refine bodyPost_ret (QbB (rs := [.tmp 4, .tmp 5, .tmp 6, .tmp 7]) rfl (by simp) (.tmp (.tmp (.tmp (.tmp .nil))))) rfl ?_
       exact ⟨Zq, Zc2 GE534.out GE550.out⟩
      rw [if_neg c49] at H
      have c49b0 : (x49_2 == 1) = F := beq_eq_false_iff_ne.mpr c49
      have c49b1 : (x49_2 != 1) = T := bne_iff_ne.mpr c49
      by_cases c56 : x49_2 = 2
      ·rw [if_pos c56] at H
       have c56x := c56
       have c56b0 : (x49_2 == 2) = T := beq_iff_eq.mpr c56
       have c56b1 : (x49_2 != 2) = F := bne_eq_false_iff_eq.mpr c56
       clear c56
       replace H := Option.bind_eq_some_iff.mp H
       obtain ⟨⟨t555, t556⟩, A570, H⟩ := H
       replace H : (if t556 = 0 then (Qaw.l2 k2 (wrap64 (x49_2 + 1)) x535000_1 x535001_1 x535002_1 x551000_2 x551001_2 t555) else (some (0, 0, 0, t556))) = some (r1, r2, r3, r4) := H
       have A57 := Aside0.mk A570
       clear A570
       have hnb58 := NB534_550.out
       have hnc58 := NB550_534.out
       obtain ⟨hcz59_0, hfz59_0⟩ := Zy (v := (u535000)) BK534.out 0
       obtain ⟨hcz59_1, hfz59_1⟩ := Zy (v := (u535001)) BK534.out 1
       obtain ⟨hcz59_2, hfz59_2⟩ := Zy (v := (u535002)) BK534.out 2
       obtain ⟨Ao60, co60, eo60⟩ := Kd.R_slice HO_535002.out
       subst eo60
       go_upto_if 62 with (first | (go_at_call 53; (with_reducible refine (QaN.calls k2 _ _ x535002_1 t555 t556 _ ?side1 ?side2 A57.out).mono ?_); (case side1 => exact Zv (Kd.R_reads' HO_535002.out).2.2); (case side2 => exact (Kd.R_reads' HO_535002.out).2.1); rintro e w' ⟨rfl, ⟨nd, rfl⟩⟩; (try first | exact ⟨rfl, _, World.drewN_drewN _ _ _⟩ | exact ⟨rfl, _, Eq.trans (World.drewN_drewN _ _ _) (congrArg (World.drewN _) (Nat.add_assoc _ _ _))⟩); obtain ⟨hcz61_0, hfz61_0⟩ := Zy (v := (.int .i64 x551000_2)) BK550.out 0; obtain ⟨hcz61_1, hfz61_1⟩ := Zy (v := (.int .i64 x551001_2)) BK550.out 1; obtain ⟨hcz61_2, hfz61_2⟩ := Zy (v := (.int .i64 x551002_2)) BK550.out 2))
       repeat (go_quiet (first | (go_at_call 53; (with_reducible refine (QaN.calls k2 _ _ x535002_1 t555 t556 _ ?side1 ?side2 A57.out).mono ?_); (case side1 => exact Zv (Kd.R_reads' HO_535002.out).2.2); (case side2 => exact (Kd.R_reads' HO_535002.out).2.1); rintro e w' ⟨rfl, ⟨nd, rfl⟩⟩; (try first | exact ⟨rfl, _, World.drewN_drewN _ _ _⟩ | exact ⟨rfl, _, Eq.trans (World.drewN_drewN _ _ _) (congrArg (World.drewN _) (Nat.add_assoc _ _ _))⟩); obtain ⟨hcz61_0, hfz61_0⟩ := Zy (v := (.int .i64 x551000_2)) BK550.out 0; obtain ⟨hcz61_1, hfz61_1⟩ := Zy (v := (.int .i64 x551001_2)) BK550.out 1; obtain ⟨hcz61_2, hfz61_2⟩ := Zy (v := (.int .i64 x551002_2)) BK550.out 2)); go_upto_if 62 with (first | (go_at_call 53; (with_reducible refine (QaN.calls k2 _ _ x535002_1 t555 t556 _ ?side1 ?side2 A57.out).mono ?_); (case side1 => exact Zv (Kd.R_reads' HO_535002.out).2.2); (case side2 => exact (Kd.R_reads' HO_535002.out).2.1); rintro e w' ⟨rfl, ⟨nd, rfl⟩⟩; (try first | exact ⟨rfl, _, World.drewN_drewN _ _ _⟩ | exact ⟨rfl, _, Eq.trans (World.drewN_drewN _ _ _) (congrArg (World.drewN _) (Nat.add_assoc _ _ _))⟩); obtain ⟨hcz61_0, hfz61_0⟩ := Zy (v := (.int .i64 x551000_2)) BK550.out 0; obtain ⟨hcz61_1, hfz61_1⟩ := Zy (v := (.int .i64 x551001_2)) BK550.out 1; obtain ⟨hcz61_2, hfz61_2⟩ := Zy (v := (.int .i64 x551002_2)) BK550.out 2)))
       (try simp only [Act.put, Zj, Zk, Zm])
       by_cases c62 : t556 = 0
       ·rw [if_pos c62] at H
        have c62b0 : (t556 == 0) = T := beq_iff_eq.mpr c62
        have c62b1 : (t556 != 0) = F := bne_eq_false_iff_eq.mpr c62
        clear c62
        (try simp only [c62b0, c62b1])
        have H' := Aside0.mk H
        clear H
        go_wp2
        repeat (go_quiet (fail); try go_wp2)
        go_roundg k2
        case measure => have := HK1.out; have := HK2.out; omega
        case rel => exact ⟨(wrap64 (x49_2 + 1)), (x551000_2), (x551001_2), (t555), (Zs2), H', ⟨by have := HK1.out; have := HK2.out; omega⟩, ⟨by (with_reducible repeat (first | apply Kd.R_alloc | apply Kd.R_drewN | apply Kd.R_drew)); exact Kd.R_mono (Zf gb550 2 (Kd.R_types HO_535000.out BK550.out (by decide)) (.int .i64 t555)) (fun _ hk => ⟨hk.1.1, hk.1.2⟩)⟩, ⟨by (with_reducible repeat (first | apply Kd.R_alloc | apply Kd.R_drewN | apply Kd.R_drew)); exact Kd.R_mono (Zf gb550 2 (Kd.R_types HO_535001.out BK550.out (by decide)) (.int .i64 t555)) (fun _ hk => ⟨hk.1.1, hk.1.2⟩)⟩, ⟨by (with_reducible repeat (first | apply Kd.R_alloc | apply Kd.R_drewN | apply Kd.R_drew)); exact Kd.R_mono (Zf gb550 2 (Kd.R_types HO_535002.out BK550.out (by decide)) (.int .i64 t555)) (fun _ hk => ⟨hk.1.1, hk.1.2⟩)⟩, ⟨Zg1 BK534.out NB534_550.out⟩, ⟨Zp2 BK550.out⟩, ⟨Zc2 GE534.out GE550.out⟩⟩
       rw [if_neg c62] at H
       have c62b0 : (t556 == 0) = F := beq_eq_false_iff_ne.mpr c62
       have c62b1 : (t556 != 0) = T := bne_iff_ne.mpr c62
       (try simp only [c62b0, c62b1])
       simp only [Option.some.injEq, Prod.mk.injEq] at H
       obtain ⟨rfl, rfl, rfl, rfl⟩ := H
       go_wp2
       repeat (go_quiet (fail); try go_wp2)
       refine bodyPost_ret (QbB (rs := [.tmp 4, .tmp 5, .tmp 6, .tmp 7]) rfl (by simp) (.tmp (.tmp (.tmp (.tmp .nil))))) rfl ?_
       exact ⟨Zq, Zc2 GE534.out GE550.out⟩
      rw [if_neg c56] at H
      exact absurd H (by simp)
     rw [if_neg c41] at H
     have c41b0 : decide (x49_2 < 3) = F := decide_eq_false c41
     clear c41
     (try simp only [c41b0])
     simp only [Option.some.injEq, Prod.mk.injEq] at H
     obtain ⟨rfl, rfl, rfl, rfl⟩ := H
     have hnb63 := NB550_534.out
     have hnc63 := NB534_550.out
     obtain ⟨hcz64_0, hfz64_0⟩ := Zy (v := (.int .i64 x551000_2)) BK550.out 0
     obtain ⟨hcz64_1, hfz64_1⟩ := Zy (v := (.int .i64 x551001_2)) BK550.out 1
     obtain ⟨hcz64_2, hfz64_2⟩ := Zy (v := (.int .i64 x551002_2)) BK550.out 2
     go_wp2
     repeat (go_quiet (fail); try go_wp2)
     refine bodyPost_ret (QbB (rs := [.tmp 4, .tmp 5, .tmp 6, .tmp 7]) rfl (by simp) (.tmp (.tmp (.tmp (.tmp .nil))))) rfl ?_
     exact ⟨Zq, Zc2 GE534.out GE550.out⟩
end Go.Proofs.Ytfcaaefdmabkhaa.Pr
