/- Functions' values and contracts, as the print wrote them. -/
import Derived.Test.YtfcaaefdmabkhaaQ1A6P0
import Derived.Test.YtfcaaefdmabkhaaQ1A6P4
import Derived.Test.YtfcaaefdmabkhaaQ1A6P2
import Derived.Test.YtfcaaefdmabkhaaQ1A6P3
import Derived.Test.YtfcaaefdmabkhaaQ1A6P1
namespace Go.Proofs.Ytfcaaefdmabkhaa.Pr
open Bool renaming true → T
open Bool renaming false → F
open Go.RowKit Go.Proofs.YtfcaaefdmabkhaaW.PrintWords Go.Proofs.YtfcaaefdmabkhaaW.PrintLast Go.Proofs.YtfcaaefdmabkhaaW.PrintMore
attribute [local go_sem] QaP QaR QaV QaW QaG QaH QaQ QaS   -- for this text's walks alone
set_option linter.unusedVariables false
set_option linter.unusedSimpArgs false
set_option maxRecDepth 100000
set_option maxHeartbeats 8000000
def QaU.l0 : Nat → List (S50) → List (S48) → Int → Int → List (S46) → List (S84) → List (S98) → Option ((List (S50)) × Int)
 | 0, _, _, _, _, _, _, _ => none
 | k + 1, x11, x21, x22, x23, x279000, x280000, x281000 => if x23 < x22 then (if 0 ≤ x23 then (if x23 < (x21.length : Int) then ((Qbo.f ((rd_T48 x21 x23).f7)).bind fun t283 => (if t283 = T then ((Qa9.f k x279000 ((rd_T48 x21 x23).f0.f0) ((rd_T48 x21 x23).f0.f1) ((rd_T48 x21 x23).f7) x280000 x281000).bind fun bt285 => (if bt285.2 = 0 then ((QbH.f ((rd_T48 x21 x23).f7) bt285.1).bind fun bt287 => (if bt287.2 = 0 then (if x11.length < 2513169434916 then (QaU.l0 k (x11 ++ [(⟨(⟨(rd_T48 x21 x23).f0.f0, (rd_T48 x21 x23).f0.f1⟩ : S44), (rd_T48 x21 x23).f7, bt285.1, bt287.1⟩ : S50)]) x21 x22 (wrap64 (x23 + 1)) x279000 x280000 x281000) else (none)) else (some (([] : List (S50)), bt287.2)))) else (some (([] : List (S50)), bt285.2)))) else (some (([] : List (S50)), 2)))) else (none)) else (none)) else (some (x11, 0))
def QaU.f (k : Nat) (l0 : List (S48)) (l1 : List (S46)) (l2 : List (S84)) (l3 : List (S98)) : Option ((List (S50)) × Int) := if (l0.length : Int) > 1024 then (some (([] : List (S50)), 8)) else (QaU.l0 k ([] : List (S50)) l0 (l0.length : Int) 0 l1 l2 l3)
theorem QaU.mono_l : ∀ k, (∀ y0 y1 y2 y3 y4 y5 y6, LeO (QaU.l0 k y0 y1 y2 y3 y4 y5 y6) (QaU.l0 (k + 1) y0 y1 y2 y3 y4 y5 y6))
 | 0 => fun _ _ _ _ _ _ _ r h => by simp [QaU.l0] at h
 | k + 1 => by
  have ih0 := QaU.mono_l k
  intro y0 y1 y2 y3 y4 y5 y6
  unfold QaU.l0
  exact ZM2 ih0 Qa9.mono
theorem QaU.mono : ∀ a0 a1 a2 a3 k, LeO (QaU.f k a0 a1 a2 a3) (QaU.f (k + 1) a0 a1 a2 a3) := by
 intro a0 a1 a2 a3 k
 have ih0 := QaU.mono_l k
 unfold QaU.f
 exact ZM2 ih0 Qa9.mono
theorem QaU.calls (k : Nat) (A0 : Option Addr) (c0 : Nat) (l0 : List (S48)) (A1 : Option Addr) (c1 : Nat) (l1 : List (S46)) (A2 : Option Addr) (c2 : Nat) (l2 : List (S84)) (A3 : Option Addr) (c3 : Nat) (l3 : List (S98)) (r1 : List (S50)) (r2 : Int) (w : World) (hr0 : Kd.C k48 w A0 l0.length l0) (hc0 : l0.length ≤ c0) (hr1 : Kd.C k46 w A1 l1.length l1) (hc1 : l1.length ≤ c1) (hr2 : Kd.C k84 w A2 l2.length l2) (hc2 : l2.length ≤ c2) (hr3 : Kd.C k98 w A3 l3.length l3) (hc3 : l3.length ≤ c3) (h : QaU.f k l0 l1 l2 l3 = some (r1, r2)) :
  Calls Try.prog 18 #[.slice A0 l0.length c0, .slice A1 l1.length c1, .slice A2 l2.length c2, .slice A3 l3.length c3] w fun e w' => ∃ v0_ : Value, e = .returned (.tuple #[v0_, .int .i64 r2]) ∧ Kd.R k50 50 w' w.heap.size (fun _ => True) v0_ r1 ∧ Below w.heap.size w w' := by
 have hu48 := Try.underlying48
 have hu44 := Try.underlying44
 have hu50 := Try.underlying50
 have HR0 := Aside0.mk hr0
 have HC0 := Aside0.mk hc0
 clear hr0 hc0
 have HR1 := Aside0.mk hr1
 have HC1 := Aside0.mk hc1
 clear hr1 hc1
 have HR2 := Aside0.mk hr2
 have HC2 := Aside0.mk hc2
 clear hr2 hc2
 have HR3 := Aside0.mk hr3
 have HC3 := Aside0.mk hc3
 clear hr3 hc3
 have HB := Aside0.mk (Below.refl w.heap.size w)
 have H : (if (l0.length : Int) > 1024 then (some (([] : List (S50)), 8)) else (QaU.l0 k ([] : List (S50)) l0 (l0.length : Int) 0 l1 l2 l3)) = some (r1, r2) := h
 clear h
 go_enter Try.func18, Try.ntmps18
 go_upto_if 19 with (first | ((with_reducible refine QaD (N := 5) rfl ?_); (refine gate_n (n := 65) rfl ?_); refine Zbx (N := 5) (cs := #[.slice A1 l1.length c1]) (t := 30) ?_; intro gb278 hg w5 hbox hb; have BK278 := Aside0.mk (hbox); have GW278 := Aside0.mk (Zt w hg (Zb)); have GE278 := GW278; replace HB := Aside0.mk (Qao (Zb) hb); clear hb hbox hg) | ((with_reducible refine QaD (N := 6) rfl ?_); (refine gate_n (n := 65) rfl ?_); refine Zbx (N := 6) (cs := #[.slice A2 l2.length c2]) (t := 31) ?_; intro gb279 hg w6 hbox hb; have BK279 := Aside0.mk (hbox); have GW279 := Aside0.mk (Zt w hg (Zc1 GE278.out)); have GE279 := GW279; have NB278_279 := Aside0.mk (Zn hg BK278.out); have NB279_278 := Aside0.mk NB278_279.out.symm; replace BK278 := Aside0.mk (Zi BK278.out hb); replace HB := Aside0.mk (Qao (Zc1 GE278.out) hb); clear hb hbox hg) | ((with_reducible refine QaD (N := 7) rfl ?_); (refine gate_n (n := 65) rfl ?_); refine Zbx (N := 7) (cs := #[.slice A3 l3.length c3]) (t := 32) ?_; intro gb280 hg w7 hbox hb; have BK280 := Aside0.mk (hbox); have GW280 := Aside0.mk (Zt w hg (Zc2 GE278.out GE279.out)); have GE280 := GW280; have NB278_280 := Aside0.mk (Zn hg BK278.out); have NB280_278 := Aside0.mk NB278_280.out.symm; have NB279_280 := Aside0.mk (Zn hg BK279.out); have NB280_279 := Aside0.mk NB279_280.out.symm; replace BK278 := Aside0.mk (Zi BK278.out hb); replace BK279 := Aside0.mk (Zi BK279.out hb); replace HB := Aside0.mk (Qao (Zc2 GE278.out GE279.out) hb); clear hb hbox hg))
 (try simp only [Act.put, Zj, Zk, Zm])
 by_cases c8 : (l0.length : Int) > 1024
 ·rw [if_pos c8] at H
  have c8b0 : decide (1024 < (l0.length : Int)) = T := decide_eq_true c8
  have c8b1 : decide (1024 < l0.length) = T := decide_eq_true (by omega)
  clear c8
  (try simp only [c8b0, c8b1])
  simp only [Option.some.injEq, Prod.mk.injEq] at H
  obtain ⟨rfl, rfl⟩ := H
  go_wp2
  go_ret2
  exact ⟨_, Zq, by first | exact Kd.R_nil _ _ _ _ _ | exact Kd.N_nil _ _ _ _ _ | exact Kd.V_nil _ _ _ _ _ | exact Kd.Q_nil _ _ _ _ _ | exact Kd.S_nil _ _ _ _ _, Zc3 GE278.out GE279.out GE280.out⟩
 rw [if_neg c8] at H
 have c8b0 : decide (1024 < (l0.length : Int)) = F := decide_eq_false c8
 have c8b1 : decide (1024 < l0.length) = F := decide_eq_false (by omega)
 clear c8
 (try simp only [c8b0, c8b1])
 have H' := Aside0.mk H
 clear H
 go_wp2
 go_loopg [11, 23] k (fun kq v11 v23 w' => ∃ (x11_1 : List (S50)) (x23_1 : Int), v23 = .int .i64 x23_1 ∧ Aside0 (QaU.l0 kq x11_1 l0 (l0.length : Int) x23_1 l1 l2 l3 = some (r1, r2)) ∧ Aside0 (kq ≤ k) ∧ Aside0 (Kd.R k50 50 w' w.heap.size (fun _ => True) v11 x11_1) ∧ Aside0 (w'.heap[gb278]? = some (.cells #[(.slice A1 l1.length c1)] 30 (0, 0))) ∧ Aside0 (w'.heap[gb279]? = some (.cells #[(.slice A2 l2.length c2)] 31 (0, 0))) ∧ Aside0 (w'.heap[gb280]? = some (.cells #[(.slice A3 l3.length c3)] 32 (0, 0))) ∧ Aside0 (Below w.heap.size w w'))
 case atStart => exact ⟨(([] : List (S50))), (0), (Zs), H', ⟨Nat.le_refl _⟩, ⟨by first | exact Kd.R_nil _ _ _ _ _ | exact Kd.N_nil _ _ _ _ _ | exact Kd.V_nil _ _ _ _ _ | exact Kd.Q_nil _ _ _ _ _ | exact Kd.S_nil _ _ _ _ _⟩, ⟨Zu BK278.out⟩, ⟨Zu BK279.out⟩, ⟨Zu BK280.out⟩, ⟨Zc3 GE278.out GE279.out GE280.out⟩⟩
 case round =>
  clear H'
  try clear c1
  try clear c2
  try clear p2
  try clear c3
  try clear c8
  try clear c8b0
  try clear c8b1
  obtain ⟨x11_1, x23_1, rfl, HA, HK1, HO_11, BK278, BK279, BK280, HB⟩ := hrel
  cases gk with
  | zero => exact absurd HA.out (by simp [QaU.l0])
  | succ k1 =>
   have H := HA.out
   clear HA
   simp only [QaU.l0] at H
   by_cases c9 : x23_1 < (l0.length : Int)
   ·rw [if_pos c9] at H
    have c9b0 : decide (x23_1 < (l0.length : Int)) = T := decide_eq_true c9
    clear c9
    (try simp only [c9b0])
    by_cases c10 : 0 ≤ x23_1
    ·rw [if_pos c10] at H
     have c10b0 : decide (0 ≤ x23_1) = T := decide_eq_true c10
     clear c10
     by_cases c11 : x23_1 < (l0.length : Int)
     ·rw [if_pos c11] at H
      have c11b0 : decide (x23_1 < (l0.length : Int)) = T := decide_eq_true c11
      clear c11
      replace H := Option.bind_eq_some_iff.mp H
      obtain ⟨t283, A120, H⟩ := H
      replace H : (if t283 = T then ((Qa9.f k1 l1 ((rd_T48 l0 x23_1).f0.f0) ((rd_T48 l0 x23_1).f0.f1) ((rd_T48 l0 x23_1).f7) l2 l3).bind fun bt285 => (if bt285.2 = 0 then ((QbH.f ((rd_T48 l0 x23_1).f7) bt285.1).bind fun bt287 => (if bt287.2 = 0 then (if x11_1.length < 2513169434916 then (QaU.l0 k1 (x11_1 ++ [(⟨(⟨(rd_T48 l0 x23_1).f0.f0, (rd_T48 l0 x23_1).f0.f1⟩ : S44), (rd_T48 l0 x23_1).f7, bt285.1, bt287.1⟩ : S50)]) l0 (l0.length : Int) (wrap64 (x23_1 + 1)) l1 l2 l3) else (none)) else (some (([] : List (S50)), bt287.2)))) else (some (([] : List (S50)), bt285.2)))) else (some (([] : List (S50)), 2))) = some (r1, r2) := H
      have A12 := Aside0.mk A120
      clear A120
      have p281 : 0 ≤ (x23_1 : Int) := Ze
      have q281 : x23_1 < (l0.length : Int) := Ze
      obtain ⟨ad281, e281, hx281_0, hx281_1, hx281_2, hx281_3, hx281_4, hx281_5, hx281_6, hx281_7, hx281_8⟩ := at_T48 HR0.out x23_1 p281 q281
      cases e281
      replace hx281_0 := Zx HB.out hx281_0
      replace hx281_1 := Zx HB.out hx281_1
      replace hx281_2 := Zx HB.out hx281_2
      replace hx281_3 := Zx HB.out hx281_3
      replace hx281_4 := Zx HB.out hx281_4
      replace hx281_5 := Zx HB.out hx281_5
      replace hx281_6 := Zx HB.out hx281_6
      replace hx281_7 := Zx HB.out hx281_7
      replace hx281_8 := Zx HB.out hx281_8
      replace p281 := eq_true p281
      replace q281 := eq_true q281
      go_upto_if 30 with (first | ((with_reducible refine QaD (N := 13) rfl ?_); (refine gate_n (n := 65) rfl ?_); refine Zbx (N := 13) (cs := #[.string (⟨#[]⟩ : ByteArray), .string (⟨#[]⟩ : ByteArray), .int .i64 0, .int .i64 0, .int .i64 0, .int .i64 0, .int .i64 0, .int .i64 0, .int .i64 0]) (t := 48) ?_; intro gb282 hg w13 hbox hb; have BK282 := Aside0.mk (hbox); have GW282 := Aside0.mk (Zt w hg (Zc3 GE278.out GE279.out GE280.out)); have GE282 := GW282; have NB278_282 := Aside0.mk (Zn hg BK278.out); have NB282_278 := Aside0.mk NB278_282.out.symm; have NB279_282 := Aside0.mk (Zn hg BK279.out); have NB282_279 := Aside0.mk NB279_282.out.symm; have NB280_282 := Aside0.mk (Zn hg BK280.out); have NB282_280 := Aside0.mk NB280_282.out.symm; replace HO_11 := Aside0.mk (Kd.R_below (Zr HO_11.out) hb); replace BK278 := Aside0.mk (Zi BK278.out hb); replace BK279 := Aside0.mk (Zi BK279.out hb); replace BK280 := Aside0.mk (Zi BK280.out hb); replace HB := Aside0.mk (Qao (Zc3 GE278.out GE279.out GE280.out) hb); clear hb hbox hg; have hnb14 := NB282_278.out; have hnc14 := NB278_282.out; have hnb15 := NB282_279.out; have hnc15 := NB279_282.out; have hnb16 := NB282_280.out; have hnc16 := NB280_282.out; obtain ⟨hcz17_0, hfz17_0⟩ := Zy (v := (.string (⟨#[]⟩ : ByteArray))) BK282.out 0; obtain ⟨hcz17_1, hfz17_1⟩ := Zy (v := (.string (⟨#[]⟩ : ByteArray))) BK282.out 1; obtain ⟨hcz17_2, hfz17_2⟩ := Zy (v := (.int .i64 0)) BK282.out 2; obtain ⟨hcz17_3, hfz17_3⟩ := Zy (v := (.int .i64 0)) BK282.out 3; obtain ⟨hcz17_4, hfz17_4⟩ := Zy (v := (.int .i64 0)) BK282.out 4; obtain ⟨hcz17_5, hfz17_5⟩ := Zy (v := (.int .i64 0)) BK282.out 5; obtain ⟨hcz17_6, hfz17_6⟩ := Zy (v := (.int .i64 0)) BK282.out 6; obtain ⟨hcz17_7, hfz17_7⟩ := Zy (v := (.int .i64 0)) BK282.out 7; obtain ⟨hcz17_8, hfz17_8⟩ := Zy (v := (.int .i64 0)) BK282.out 8) | ((with_reducible refine Qax (f := 51) rfl ?_); refine goesL_ (some 29) rfl rfl Try.func51 (by kernel_rfl) rfl #[.int .i64 ((rd_T48 l0 x23_1).f7)] rfl (Zl) ?_; (with_reducible refine (Qbo.calls ((rd_T48 l0 x23_1).f7) t283 _ A12.out).mono ?_); rintro e w' ⟨rfl, ⟨nd, rfl⟩⟩; refine ⟨_, rfl, ?_⟩))
      (try simp only [Act.put, Zj, Zk, Zm])
      by_cases c18 : t283 = T
      ·subst c18
       have H1 : ((Qa9.f k1 l1 ((rd_T48 l0 x23_1).f0.f0) ((rd_T48 l0 x23_1).f0.f1) ((rd_T48 l0 x23_1).f7) l2 l3).bind fun bt285 => (if bt285.2 = 0 then ((QbH.f ((rd_T48 l0 x23_1).f7) bt285.1).bind fun bt287 => (if bt287.2 = 0 then (if x11_1.length < 2513169434916 then (QaU.l0 k1 (x11_1 ++ [(⟨(⟨(rd_T48 l0 x23_1).f0.f0, (rd_T48 l0 x23_1).f0.f1⟩ : S44), (rd_T48 l0 x23_1).f7, bt285.1, bt287.1⟩ : S50)]) l0 (l0.length : Int) (wrap64 (x23_1 + 1)) l1 l2 l3) else (none)) else (some (([] : List (S50)), bt287.2)))) else (some (([] : List (S50)), bt285.2)))) = some (r1, r2) := by rw [if_pos rfl] at H; exact H
       clear H
       have H := H1
       clear H1
       replace H := Option.bind_eq_some_iff.mp H
       obtain ⟨⟨t285, t286⟩, A190, H⟩ := H
       replace H : (if t286 = 0 then ((QbH.f ((rd_T48 l0 x23_1).f7) t285).bind fun bt287 => (if bt287.2 = 0 then (if x11_1.length < 2513169434916 then (QaU.l0 k1 (x11_1 ++ [(⟨(⟨(rd_T48 l0 x23_1).f0.f0, (rd_T48 l0 x23_1).f0.f1⟩ : S44), (rd_T48 l0 x23_1).f7, t285, bt287.1⟩ : S50)]) l0 (l0.length : Int) (wrap64 (x23_1 + 1)) l1 l2 l3) else (none)) else (some (([] : List (S50)), bt287.2)))) else (some (([] : List (S50)), t286))) = some (r1, r2) := H
       have A19 := Aside0.mk A190
       clear A190
       have hnb20 := NB282_278.out
       have hnc20 := NB278_282.out
       have hnb21 := NB282_279.out
       have hnc21 := NB279_282.out
       have hnb22 := NB282_280.out
       have hnc22 := NB280_282.out
       obtain ⟨hcz23_0, hfz23_0⟩ := Zy (v := (.string (⟨#[]⟩ : ByteArray))) BK282.out 0
       obtain ⟨hcz23_1, hfz23_1⟩ := Zy (v := (.string (⟨#[]⟩ : ByteArray))) BK282.out 1
       obtain ⟨hcz23_2, hfz23_2⟩ := Zy (v := (.int .i64 0)) BK282.out 2
       obtain ⟨hcz23_3, hfz23_3⟩ := Zy (v := (.int .i64 0)) BK282.out 3
       obtain ⟨hcz23_4, hfz23_4⟩ := Zy (v := (.int .i64 0)) BK282.out 4
       obtain ⟨hcz23_5, hfz23_5⟩ := Zy (v := (.int .i64 0)) BK282.out 5
       obtain ⟨hcz23_6, hfz23_6⟩ := Zy (v := (.int .i64 0)) BK282.out 6
       obtain ⟨hcz23_7, hfz23_7⟩ := Zy (v := (.int .i64 0)) BK282.out 7
       obtain ⟨hcz23_8, hfz23_8⟩ := Zy (v := (.int .i64 0)) BK282.out 8
       go_upto_region 11 with (first | (go_at_call 52; go_in) | ((with_reducible refine QaD (N := 5) rfl ?_); (refine gate_n (n := 17) rfl ?_); refine Zbx (N := 5) (cs := #[.string ((rd_T48 l0 x23_1).f0.f0), .string ((rd_T48 l0 x23_1).f0.f1)]) (t := 44) ?_; intro gb284 hg w24 hbox hb; have BK284 := Aside0.mk (hbox); have GW284 := Aside0.mk (Zt w hg (Zc4 GE278.out GE279.out GE280.out GE282.out)); have GE284 := GW284; have NB278_284 := Aside0.mk ((by rw [hg]; exact Nat.ne_of_lt (blk_lt (g := gb278) (o := .cells #[.slice A1 l1.length c1] 30 (0, 0)) (by (with_reducible repeat (first | refine Qab ?_ _ | refine Qac ?_ | refine Qaa ?_ _)); refine Qak ?_ NB278_282.out _; (with_reducible repeat (first | refine Qab ?_ _ | refine Qac ?_ | refine Qaa ?_ _)); refine Qak ?_ NB278_282.out _; (with_reducible repeat (first | refine Qab ?_ _ | refine Qac ?_ | refine Qaa ?_ _)); refine Qak ?_ NB278_282.out _; (with_reducible repeat (first | refine Qab ?_ _ | refine Qac ?_ | refine Qaa ?_ _)); refine Qak ?_ NB278_282.out _; (with_reducible repeat (first | refine Qab ?_ _ | refine Qac ?_ | refine Qaa ?_ _)); refine Qak ?_ NB278_282.out _; (with_reducible repeat (first | refine Qab ?_ _ | refine Qac ?_ | refine Qaa ?_ _)); refine Qak ?_ NB278_282.out _; (with_reducible repeat (first | refine Qab ?_ _ | refine Qac ?_ | refine Qaa ?_ _)); refine Qak ?_ NB278_282.out _; (with_reducible repeat (first | refine Qab ?_ _ | refine Qac ?_ | refine Qaa ?_ _)); refine Qak ?_ NB278_282.out _; (with_reducible repeat (first | refine Qab ?_ _ | refine Qac ?_ | refine Qaa ?_ _)); refine Qak ?_ NB278_282.out _; (with_reducible repeat (first | refine Qab ?_ _ | refine Qac ?_ | refine Qaa ?_ _)); exact BK278.out)) : gb278 ≠ gb284)); have NB284_278 := Aside0.mk ((by rw [hg]; exact Nat.ne_of_gt (blk_lt (g := gb278) (o := .cells #[.slice A1 l1.length c1] 30 (0, 0)) (by (with_reducible repeat (first | refine Qab ?_ _ | refine Qac ?_ | refine Qaa ?_ _)); refine Qak ?_ NB278_282.out _; (with_reducible repeat (first | refine Qab ?_ _ | refine Qac ?_ | refine Qaa ?_ _)); refine Qak ?_ NB278_282.out _; (with_reducible repeat (first | refine Qab ?_ _ | refine Qac ?_ | refine Qaa ?_ _)); refine Qak ?_ NB278_282.out _; (with_reducible repeat (first | refine Qab ?_ _ | refine Qac ?_ | refine Qaa ?_ _)); refine Qak ?_ NB278_282.out _; (with_reducible repeat (first | refine Qab ?_ _ | refine Qac ?_ | refine Qaa ?_ _)); refine Qak ?_ NB278_282.out _; (with_reducible repeat (first | refine Qab ?_ _ | refine Qac ?_ | refine Qaa ?_ _)); refine Qak ?_ NB278_282.out _; (with_reducible repeat (first | refine Qab ?_ _ | refine Qac ?_ | refine Qaa ?_ _)); refine Qak ?_ NB278_282.out _; (with_reducible repeat (first | refine Qab ?_ _ | refine Qac ?_ | refine Qaa ?_ _)); refine Qak ?_ NB278_282.out _; (with_reducible repeat (first | refine Qab ?_ _ | refine Qac ?_ | refine Qaa ?_ _)); refine Qak ?_ NB278_282.out _; (with_reducible repeat (first | refine Qab ?_ _ | refine Qac ?_ | refine Qaa ?_ _)); exact BK278.out)) : gb284 ≠ gb278)); have NB279_284 := Aside0.mk ((by rw [hg]; exact Nat.ne_of_lt (blk_lt (g := gb279) (o := .cells #[.slice A2 l2.length c2] 31 (0, 0)) (by (with_reducible repeat (first | refine Qab ?_ _ | refine Qac ?_ | refine Qaa ?_ _)); refine Qak ?_ NB279_282.out _; (with_reducible repeat (first | refine Qab ?_ _ | refine Qac ?_ | refine Qaa ?_ _)); refine Qak ?_ NB279_282.out _; (with_reducible repeat (first | refine Qab ?_ _ | refine Qac ?_ | refine Qaa ?_ _)); refine Qak ?_ NB279_282.out _; (with_reducible repeat (first | refine Qab ?_ _ | refine Qac ?_ | refine Qaa ?_ _)); refine Qak ?_ NB279_282.out _; (with_reducible repeat (first | refine Qab ?_ _ | refine Qac ?_ | refine Qaa ?_ _)); refine Qak ?_ NB279_282.out _; (with_reducible repeat (first | refine Qab ?_ _ | refine Qac ?_ | refine Qaa ?_ _)); refine Qak ?_ NB279_282.out _; (with_reducible repeat (first | refine Qab ?_ _ | refine Qac ?_ | refine Qaa ?_ _)); refine Qak ?_ NB279_282.out _; (with_reducible repeat (first | refine Qab ?_ _ | refine Qac ?_ | refine Qaa ?_ _)); refine Qak ?_ NB279_282.out _; (with_reducible repeat (first | refine Qab ?_ _ | refine Qac ?_ | refine Qaa ?_ _)); refine Qak ?_ NB279_282.out _; (with_reducible repeat (first | refine Qab ?_ _ | refine Qac ?_ | refine Qaa ?_ _)); exact BK279.out)) : gb279 ≠ gb284)); have NB284_279 := Aside0.mk ((by rw [hg]; exact Nat.ne_of_gt (blk_lt (g := gb279) (o := .cells #[.slice A2 l2.length c2] 31 (0, 0)) (by (with_reducible repeat (first | refine Qab ?_ _ | refine Qac ?_ | refine Qaa ?_ _)); refine Qak ?_ NB279_282.out _; (with_reducible repeat (first | refine Qab ?_ _ | refine Qac ?_ | refine Qaa ?_ _)); refine Qak ?_ NB279_282.out _; (with_reducible repeat (first | refine Qab ?_ _ | refine Qac ?_ | refine Qaa ?_ _)); refine Qak ?_ NB279_282.out _; (with_reducible repeat (first | refine Qab ?_ _ | refine Qac ?_ | refine Qaa ?_ _)); refine Qak ?_ NB279_282.out _; (with_reducible repeat (first | refine Qab ?_ _ | refine Qac ?_ | refine Qaa ?_ _)); refine Qak ?_ NB279_282.out _; (with_reducible repeat (first | refine Qab ?_ _ | refine Qac ?_ | refine Qaa ?_ _)); refine Qak ?_ NB279_282.out _; (with_reducible repeat (first | refine Qab ?_ _ | refine Qac ?_ | refine Qaa ?_ _)); refine Qak ?_ NB279_282.out _; (with_reducible repeat (first | refine Qab ?_ _ | refine Qac ?_ | refine Qaa ?_ _)); refine Qak ?_ NB279_282.out _; (with_reducible repeat (first | refine Qab ?_ _ | refine Qac ?_ | refine Qaa ?_ _)); refine Qak ?_ NB279_282.out _; (with_reducible repeat (first | refine Qab ?_ _ | refine Qac ?_ | refine Qaa ?_ _)); exact BK279.out)) : gb284 ≠ gb279)); have NB280_284 := Aside0.mk ((by rw [hg]; exact Nat.ne_of_lt (blk_lt (g := gb280) (o := .cells #[.slice A3 l3.length c3] 32 (0, 0)) (by (with_reducible repeat (first | refine Qab ?_ _ | refine Qac ?_ | refine Qaa ?_ _)); refine Qak ?_ NB280_282.out _; (with_reducible repeat (first | refine Qab ?_ _ | refine Qac ?_ | refine Qaa ?_ _)); refine Qak ?_ NB280_282.out _; (with_reducible repeat (first | refine Qab ?_ _ | refine Qac ?_ | refine Qaa ?_ _)); refine Qak ?_ NB280_282.out _; (with_reducible repeat (first | refine Qab ?_ _ | refine Qac ?_ | refine Qaa ?_ _)); refine Qak ?_ NB280_282.out _; (with_reducible repeat (first | refine Qab ?_ _ | refine Qac ?_ | refine Qaa ?_ _)); refine Qak ?_ NB280_282.out _; (with_reducible repeat (first | refine Qab ?_ _ | refine Qac ?_ | refine Qaa ?_ _)); refine Qak ?_ NB280_282.out _; (with_reducible repeat (first | refine Qab ?_ _ | refine Qac ?_ | refine Qaa ?_ _)); refine Qak ?_ NB280_282.out _; (with_reducible repeat (first | refine Qab ?_ _ | refine Qac ?_ | refine Qaa ?_ _)); refine Qak ?_ NB280_282.out _; (with_reducible repeat (first | refine Qab ?_ _ | refine Qac ?_ | refine Qaa ?_ _)); refine Qak ?_ NB280_282.out _; (with_reducible repeat (first | refine Qab ?_ _ | refine Qac ?_ | refine Qaa ?_ _)); exact BK280.out)) : gb280 ≠ gb284)); have NB284_280 := Aside0.mk ((by rw [hg]; exact Nat.ne_of_gt (blk_lt (g := gb280) (o := .cells #[.slice A3 l3.length c3] 32 (0, 0)) (by (with_reducible repeat (first | refine Qab ?_ _ | refine Qac ?_ | refine Qaa ?_ _)); refine Qak ?_ NB280_282.out _; (with_reducible repeat (first | refine Qab ?_ _ | refine Qac ?_ | refine Qaa ?_ _)); refine Qak ?_ NB280_282.out _; (with_reducible repeat (first | refine Qab ?_ _ | refine Qac ?_ | refine Qaa ?_ _)); refine Qak ?_ NB280_282.out _; (with_reducible repeat (first | refine Qab ?_ _ | refine Qac ?_ | refine Qaa ?_ _)); refine Qak ?_ NB280_282.out _; (with_reducible repeat (first | refine Qab ?_ _ | refine Qac ?_ | refine Qaa ?_ _)); refine Qak ?_ NB280_282.out _; (with_reducible repeat (first | refine Qab ?_ _ | refine Qac ?_ | refine Qaa ?_ _)); refine Qak ?_ NB280_282.out _; (with_reducible repeat (first | refine Qab ?_ _ | refine Qac ?_ | refine Qaa ?_ _)); refine Qak ?_ NB280_282.out _; (with_reducible repeat (first | refine Qab ?_ _ | refine Qac ?_ | refine Qaa ?_ _)); refine Qak ?_ NB280_282.out _; (with_reducible repeat (first | refine Qab ?_ _ | refine Qac ?_ | refine Qaa ?_ _)); refine Qak ?_ NB280_282.out _; (with_reducible repeat (first | refine Qab ?_ _ | refine Qac ?_ | refine Qaa ?_ _)); exact BK280.out)) : gb284 ≠ gb280)); have NB282_284 := Aside0.mk ((by rw [hg]; exact Nat.ne_of_lt (blk_lt (g := gb282) (o := .cells #[.string ((rd_T48 l0 x23_1).f0.f0), .string ((rd_T48 l0 x23_1).f0.f1), .int .i64 ((rd_T48 l0 x23_1).f1), .int .i64 ((rd_T48 l0 x23_1).f2), .int .i64 ((rd_T48 l0 x23_1).f3), .int .i64 ((rd_T48 l0 x23_1).f4), .int .i64 ((rd_T48 l0 x23_1).f5), .int .i64 ((rd_T48 l0 x23_1).f6), .int .i64 ((rd_T48 l0 x23_1).f7)] 48 (0, 0)) (Zp2 BK282.out)) : gb282 ≠ gb284)); have NB284_282 := Aside0.mk ((by rw [hg]; exact Nat.ne_of_gt (blk_lt (g := gb282) (o := .cells #[.string ((rd_T48 l0 x23_1).f0.f0), .string ((rd_T48 l0 x23_1).f0.f1), .int .i64 ((rd_T48 l0 x23_1).f1), .int .i64 ((rd_T48 l0 x23_1).f2), .int .i64 ((rd_T48 l0 x23_1).f3), .int .i64 ((rd_T48 l0 x23_1).f4), .int .i64 ((rd_T48 l0 x23_1).f5), .int .i64 ((rd_T48 l0 x23_1).f6), .int .i64 ((rd_T48 l0 x23_1).f7)] 48 (0, 0)) (Zp2 BK282.out)) : gb284 ≠ gb282)); replace HO_11 := Aside0.mk (Kd.R_below (by (with_reducible repeat (first | apply Kd.R_alloc | apply Kd.R_drewN | apply Kd.R_drew)); exact (Kd.R_mono (Zf gb282 8 (Zf gb282 7 (Zf gb282 6 (Zf gb282 5 (Zf gb282 4 (Zf gb282 3 (Zf gb282 2 (Zf gb282 1 (Zf gb282 0 (Kd.R_types HO_11.out BK282.out (by decide)) (.string ((rd_T48 l0 x23_1).f0.f0))) (.string ((rd_T48 l0 x23_1).f0.f1))) (.int .i64 ((rd_T48 l0 x23_1).f1))) (.int .i64 ((rd_T48 l0 x23_1).f2))) (.int .i64 ((rd_T48 l0 x23_1).f3))) (.int .i64 ((rd_T48 l0 x23_1).f4))) (.int .i64 ((rd_T48 l0 x23_1).f5))) (.int .i64 ((rd_T48 l0 x23_1).f6))) (.int .i64 ((rd_T48 l0 x23_1).f7))) (fun _ h_ => h_.1))) hb); replace BK278 := Aside0.mk (Qaj (g := gb278) (o := .cells #[.slice A1 l1.length c1] 30 (0, 0)) (by (with_reducible repeat (first | refine Qab ?_ _ | refine Qac ?_ | refine Qaa ?_ _)); refine Qak ?_ NB278_282.out _; (with_reducible repeat (first | refine Qab ?_ _ | refine Qac ?_ | refine Qaa ?_ _)); refine Qak ?_ NB278_282.out _; (with_reducible repeat (first | refine Qab ?_ _ | refine Qac ?_ | refine Qaa ?_ _)); refine Qak ?_ NB278_282.out _; (with_reducible repeat (first | refine Qab ?_ _ | refine Qac ?_ | refine Qaa ?_ _)); refine Qak ?_ NB278_282.out _; (with_reducible repeat (first | refine Qab ?_ _ | refine Qac ?_ | refine Qaa ?_ _)); refine Qak ?_ NB278_282.out _; (with_reducible repeat (first | refine Qab ?_ _ | refine Qac ?_ | refine Qaa ?_ _)); refine Qak ?_ NB278_282.out _; (with_reducible repeat (first | refine Qab ?_ _ | refine Qac ?_ | refine Qaa ?_ _)); refine Qak ?_ NB278_282.out _; (with_reducible repeat (first | refine Qab ?_ _ | refine Qac ?_ | refine Qaa ?_ _)); refine Qak ?_ NB278_282.out _; (with_reducible repeat (first | refine Qab ?_ _ | refine Qac ?_ | refine Qaa ?_ _)); refine Qak ?_ NB278_282.out _; (with_reducible repeat (first | refine Qab ?_ _ | refine Qac ?_ | refine Qaa ?_ _)); exact BK278.out) hb); replace BK279 := Aside0.mk (Qaj (g := gb279) (o := .cells #[.slice A2 l2.length c2] 31 (0, 0)) (by (with_reducible repeat (first | refine Qab ?_ _ | refine Qac ?_ | refine Qaa ?_ _)); refine Qak ?_ NB279_282.out _; (with_reducible repeat (first | refine Qab ?_ _ | refine Qac ?_ | refine Qaa ?_ _)); refine Qak ?_ NB279_282.out _; (with_reducible repeat (first | refine Qab ?_ _ | refine Qac ?_ | refine Qaa ?_ _)); refine Qak ?_ NB279_282.out _; (with_reducible repeat (first | refine Qab ?_ _ | refine Qac ?_ | refine Qaa ?_ _)); refine Qak ?_ NB279_282.out _; (with_reducible repeat (first | refine Qab ?_ _ | refine Qac ?_ | refine Qaa ?_ _)); refine Qak ?_ NB279_282.out _; (with_reducible repeat (first | refine Qab ?_ _ | refine Qac ?_ | refine Qaa ?_ _)); refine Qak ?_ NB279_282.out _; (with_reducible repeat (first | refine Qab ?_ _ | refine Qac ?_ | refine Qaa ?_ _)); refine Qak ?_ NB279_282.out _; (with_reducible repeat (first | refine Qab ?_ _ | refine Qac ?_ | refine Qaa ?_ _)); refine Qak ?_ NB279_282.out _; (with_reducible repeat (first | refine Qab ?_ _ | refine Qac ?_ | refine Qaa ?_ _)); refine Qak ?_ NB279_282.out _; (with_reducible repeat (first | refine Qab ?_ _ | refine Qac ?_ | refine Qaa ?_ _)); exact BK279.out) hb); replace BK280 := Aside0.mk (Qaj (g := gb280) (o := .cells #[.slice A3 l3.length c3] 32 (0, 0)) (by (with_reducible repeat (first | refine Qab ?_ _ | refine Qac ?_ | refine Qaa ?_ _)); refine Qak ?_ NB280_282.out _; (with_reducible repeat (first | refine Qab ?_ _ | refine Qac ?_ | refine Qaa ?_ _)); refine Qak ?_ NB280_282.out _; (with_reducible repeat (first | refine Qab ?_ _ | refine Qac ?_ | refine Qaa ?_ _)); refine Qak ?_ NB280_282.out _; (with_reducible repeat (first | refine Qab ?_ _ | refine Qac ?_ | refine Qaa ?_ _)); refine Qak ?_ NB280_282.out _; (with_reducible repeat (first | refine Qab ?_ _ | refine Qac ?_ | refine Qaa ?_ _)); refine Qak ?_ NB280_282.out _; (with_reducible repeat (first | refine Qab ?_ _ | refine Qac ?_ | refine Qaa ?_ _)); refine Qak ?_ NB280_282.out _; (with_reducible repeat (first | refine Qab ?_ _ | refine Qac ?_ | refine Qaa ?_ _)); refine Qak ?_ NB280_282.out _; (with_reducible repeat (first | refine Qab ?_ _ | refine Qac ?_ | refine Qaa ?_ _)); refine Qak ?_ NB280_282.out _; (with_reducible repeat (first | refine Qab ?_ _ | refine Qac ?_ | refine Qaa ?_ _)); refine Qak ?_ NB280_282.out _; (with_reducible repeat (first | refine Qab ?_ _ | refine Qac ?_ | refine Qaa ?_ _)); exact BK280.out) hb); replace BK282 := Aside0.mk (Zpi #[.string ((rd_T48 l0 x23_1).f0.f0), .string ((rd_T48 l0 x23_1).f0.f1), .int .i64 ((rd_T48 l0 x23_1).f1), .int .i64 ((rd_T48 l0 x23_1).f2), .int .i64 ((rd_T48 l0 x23_1).f3), .int .i64 ((rd_T48 l0 x23_1).f4), .int .i64 ((rd_T48 l0 x23_1).f5), .int .i64 ((rd_T48 l0 x23_1).f6), .int .i64 ((rd_T48 l0 x23_1).f7)] BK282.out hb); replace HB := Aside0.mk (Qao (Zc4 GE278.out GE279.out GE280.out GE282.out) hb); clear hb hbox hg; have hnb25 := NB278_279.out; have hnc25 := NB279_278.out; have hnb26 := NB278_280.out; have hnc26 := NB280_278.out; have hnb27 := NB278_284.out; have hnc27 := NB284_278.out; obtain ⟨hcz28_0, hfz28_0⟩ := Zy (v := (.slice A1 l1.length c1)) BK278.out 0; have hnb29 := NB284_279.out; have hnc29 := NB279_284.out; have hnb30 := NB284_280.out; have hnc30 := NB280_284.out; have hnb31 := NB284_282.out; have hnc31 := NB282_284.out; obtain ⟨hcz32_0, hfz32_0⟩ := Zy (v := (.string ((rd_T48 l0 x23_1).f0.f0))) BK284.out 0; obtain ⟨hcz32_1, hfz32_1⟩ := Zy (v := (.string ((rd_T48 l0 x23_1).f0.f1))) BK284.out 1; have hnb33 := NB279_280.out; have hnc33 := NB280_279.out; obtain ⟨hcz34_0, hfz34_0⟩ := Zy (v := (.slice A2 l2.length c2)) BK279.out 0; obtain ⟨hcz35_0, hfz35_0⟩ := Zy (v := (.slice A3 l3.length c3)) BK280.out 0) | ((with_reducible refine Qax (f := 30) rfl ?_); refine goesL_ (some 14) rfl rfl Try.func30 (by kernel_rfl) rfl #[.slice A1 l1.length c1, .agg #[.string ((rd_T48 l0 x23_1).f0.f0), .string ((rd_T48 l0 x23_1).f0.f1)], .int .i64 ((rd_T48 l0 x23_1).f7), .slice A2 l2.length c2, .slice A3 l3.length c3] rfl (Zl) ?_; (with_reducible refine (Qa9.calls k1 _ _ l1 ((rd_T48 l0 x23_1).f0.f0) ((rd_T48 l0 x23_1).f0.f1) ((rd_T48 l0 x23_1).f7) _ _ l2 _ _ l3 t285 t286 _ ?side1 ?side2 ?side3 ?side4 ?side5 ?side6 A19.out).mono ?_); (case side1 => exact Zv (Kd.C_below HR1.out HB.out)); (case side2 => exact HC1.out); (case side3 => exact Zv (Kd.C_below HR2.out HB.out)); (case side4 => exact HC2.out); (case side5 => exact Zv (Kd.C_below HR3.out HB.out)); (case side6 => exact HC3.out); rintro e w36 ⟨rfl, hb⟩; refine ⟨_, rfl, ?_⟩; replace HO_11 := Aside0.mk (Kd.R_below (Zr HO_11.out) hb); replace BK278 := Aside0.mk (Zi BK278.out hb); replace BK279 := Aside0.mk (Zi BK279.out hb); replace BK280 := Aside0.mk (Zi BK280.out hb); replace BK282 := Aside0.mk (Zi BK282.out hb); replace BK284 := Aside0.mk (Zi BK284.out hb); replace HB := Aside0.mk (Qao (Zc5 GE278.out GE279.out GE280.out GE282.out GE284.out) hb); (try clear hb); (try clear hb2); (try clear hk); (try clear hi)))
       (try simp only [Act.put, Zj, Zk, Zm])
       by_cases c37 : t286 = 0
       ·rw [if_pos c37] at H
        have c37b0 : (t286 == 0) = T := beq_iff_eq.mpr c37
        have c37b1 : (t286 != 0) = F := bne_eq_false_iff_eq.mpr c37
        clear c37
        (try simp only [c37b0, c37b1])
        replace H := Option.bind_eq_some_iff.mp H
        obtain ⟨⟨t287, t288⟩, A380, H⟩ := H
        replace H : (if t288 = 0 then (if x11_1.length < 2513169434916 then (QaU.l0 k1 (x11_1 ++ [(⟨(⟨(rd_T48 l0 x23_1).f0.f0, (rd_T48 l0 x23_1).f0.f1⟩ : S44), (rd_T48 l0 x23_1).f7, t285, t287⟩ : S50)]) l0 (l0.length : Int) (wrap64 (x23_1 + 1)) l1 l2 l3) else (none)) else (some (([] : List (S50)), t288))) = some (r1, r2) := H
        have A38 := Aside0.mk A380
        clear A380
        have hnb39 := NB282_278.out
        have hnc39 := NB278_282.out
        have hnb40 := NB282_279.out
        have hnc40 := NB279_282.out
        have hnb41 := NB282_280.out
        have hnc41 := NB280_282.out
        have hnb42 := NB282_284.out
        have hnc42 := NB284_282.out
        obtain ⟨hcz43_0, hfz43_0⟩ := Zy (v := (.string ((rd_T48 l0 x23_1).f0.f0))) BK282.out 0
        obtain ⟨hcz43_1, hfz43_1⟩ := Zy (v := (.string ((rd_T48 l0 x23_1).f0.f1))) BK282.out 1
        obtain ⟨hcz43_2, hfz43_2⟩ := Zy (v := (.int .i64 ((rd_T48 l0 x23_1).f1))) BK282.out 2
        obtain ⟨hcz43_3, hfz43_3⟩ := Zy (v := (.int .i64 ((rd_T48 l0 x23_1).f2))) BK282.out 3
        obtain ⟨hcz43_4, hfz43_4⟩ := Zy (v := (.int .i64 ((rd_T48 l0 x23_1).f3))) BK282.out 4
        obtain ⟨hcz43_5, hfz43_5⟩ := Zy (v := (.int .i64 ((rd_T48 l0 x23_1).f4))) BK282.out 5
        obtain ⟨hcz43_6, hfz43_6⟩ := Zy (v := (.int .i64 ((rd_T48 l0 x23_1).f5))) BK282.out 6
        obtain ⟨hcz43_7, hfz43_7⟩ := Zy (v := (.int .i64 ((rd_T48 l0 x23_1).f6))) BK282.out 7
        obtain ⟨hcz43_8, hfz43_8⟩ := Zy (v := (.int .i64 ((rd_T48 l0 x23_1).f7))) BK282.out 8
        go_upto_if 51 with (first | ((with_reducible refine Qax (f := 15) rfl ?_); refine goesL_ (some 47) rfl rfl Try.func15 (by kernel_rfl) rfl #[.int .i64 ((rd_T48 l0 x23_1).f7), .int .i64 t285] rfl (Zl) ?_; (with_reducible refine (QbH.calls ((rd_T48 l0 x23_1).f7) t285 t287 t288 _ A38.out).mono ?_); rintro e w44 ⟨rfl, hb⟩; refine ⟨_, rfl, ?_⟩; replace HO_11 := Aside0.mk (Kd.R_below (Zr HO_11.out) hb); replace BK278 := Aside0.mk (Zi BK278.out hb); replace BK279 := Aside0.mk (Zi BK279.out hb); replace BK280 := Aside0.mk (Zi BK280.out hb); replace BK282 := Aside0.mk (Zi BK282.out hb); replace BK284 := Aside0.mk (Zi BK284.out hb); replace HB := Aside0.mk (Qao (Zc5 GE278.out GE279.out GE280.out GE282.out GE284.out) hb); (try clear hb); (try clear hb2); (try clear hk); (try clear hi)))
        (try simp only [Act.put, Zj, Zk, Zm])
        by_cases c45 : t288 = 0
        ·rw [if_pos c45] at H
         have c45b0 : (t288 == 0) = T := beq_iff_eq.mpr c45
         have c45b1 : (t288 != 0) = F := bne_eq_false_iff_eq.mpr c45
         clear c45
         (try simp only [c45b0, c45b1])
         by_cases c46 : x11_1.length < 2513169434916
         ·rw [if_pos c46] at H
          have LMc46 := Aside0.mk c46
          clear c46
          obtain ⟨y289, hy289⟩ : ∃ y_ : List (S50), y_ = (x11_1 ++ [(⟨(⟨(rd_T48 l0 x23_1).f0.f0, (rd_T48 l0 x23_1).f0.f1⟩ : S44), (rd_T48 l0 x23_1).f7, t285, t287⟩ : S50)]) := ⟨_, rfl⟩
          replace H : (QaU.l0 k1 y289 l0 (l0.length : Int) (wrap64 (x23_1 + 1)) l1 l2 l3) = some (r1, r2) := by first | (rw [hy289]; with_reducible exact H) | (have H2_ := (Option.bind_some _ _).symm.trans H; rw [hy289]; with_reducible exact H2_) | (have H2_ := (Option.bind_some _ _).symm.trans H; with_reducible exact H2_) | with_reducible exact H | (rw [hy289]; exact H) | exact H
          have Ny289 := Aside0.mk hy289
          clear hy289
          have H' := Aside0.mk H
          clear H
          have hnb47 := NB282_278.out
          have hnc47 := NB278_282.out
          have hnb48 := NB282_279.out
          have hnc48 := NB279_282.out
          have hnb49 := NB282_280.out
          have hnc49 := NB280_282.out
          have hnb50 := NB282_284.out
          have hnc50 := NB284_282.out
          obtain ⟨hcz51_0, hfz51_0⟩ := Zy (v := (.string ((rd_T48 l0 x23_1).f0.f0))) BK282.out 0
          obtain ⟨hcz51_1, hfz51_1⟩ := Zy (v := (.string ((rd_T48 l0 x23_1).f0.f1))) BK282.out 1
          obtain ⟨hcz51_2, hfz51_2⟩ := Zy (v := (.int .i64 ((rd_T48 l0 x23_1).f1))) BK282.out 2
          obtain ⟨hcz51_3, hfz51_3⟩ := Zy (v := (.int .i64 ((rd_T48 l0 x23_1).f2))) BK282.out 3
          obtain ⟨hcz51_4, hfz51_4⟩ := Zy (v := (.int .i64 ((rd_T48 l0 x23_1).f3))) BK282.out 4
          obtain ⟨hcz51_5, hfz51_5⟩ := Zy (v := (.int .i64 ((rd_T48 l0 x23_1).f4))) BK282.out 5
          obtain ⟨hcz51_6, hfz51_6⟩ := Zy (v := (.int .i64 ((rd_T48 l0 x23_1).f5))) BK282.out 6
          obtain ⟨hcz51_7, hfz51_7⟩ := Zy (v := (.int .i64 ((rd_T48 l0 x23_1).f6))) BK282.out 7
          obtain ⟨hcz51_8, hfz51_8⟩ := Zy (v := (.int .i64 ((rd_T48 l0 x23_1).f7))) BK282.out 8
          go_wp2_with (first | ((with_reducible refine QbN (b := .append) (xs := #[.tmp 53, .tmp 61]) rfl ?_); at_builtin; refine Kd.R_append k50 (w0 := w) w.heap.size rfl (.tmp 53) (.tmp 61) 35 50 (.agg #[(.string ⟨#[]⟩), (.string ⟨#[]⟩), (.int .i64 0), (.int .i64 0), (.int .i64 0)]) 56 rfl Try.underlying35 info50 rfl (by decide) (by omega) u11 x11_1 (⟨(⟨(rd_T48 l0 x23_1).f0.f0, (rd_T48 l0 x23_1).f0.f1⟩ : S44), (rd_T48 l0 x23_1).f7, t285, t287⟩ : S50) [.string ((rd_T48 l0 x23_1).f0.f0), .string ((rd_T48 l0 x23_1).f0.f1), .int .i64 ((rd_T48 l0 x23_1).f7), .int .i64 t285, .int .i64 t287] (fun _ => True) (fun _ => False) rfl rfl ?aP (fun _ hk => hk.elim) ?aF ?aO ?aB ?aS ?aL ?_; (case aP => exact Qgb _ _ _ (⟨(⟨(rd_T48 l0 x23_1).f0.f0, (rd_T48 l0 x23_1).f0.f1⟩ : S44), (rd_T48 l0 x23_1).f7, t285, t287⟩ : S50)); (case aB => exact (Zc5 GE278.out GE279.out GE280.out GE282.out GE284.out)); (case aF => exact (fun _ _ => trivial)); (case aO => exact (Zr HO_11.out)); (case aS => exact (Qan (Zc5 GE278.out GE279.out GE280.out GE282.out GE284.out))); (case aL => have := LMc46.out; omega); intro v290 w52 ho hb hg hat; rw [← Ny289.out] at ho; have HO291 := Aside0.mk (ho); replace BK278 := Aside0.mk (Qa6 (g := gb278) (o := .cells #[.slice A1 l1.length c1] 30 (0, 0)) (Zu BK278.out) hg (Kd.R_ne HO_11.out BK278.out (by decide))); replace BK279 := Aside0.mk (Qa6 (g := gb279) (o := .cells #[.slice A2 l2.length c2] 31 (0, 0)) (Zu BK279.out) hg (Kd.R_ne HO_11.out BK279.out (by decide))); replace BK280 := Aside0.mk (Qa6 (g := gb280) (o := .cells #[.slice A3 l3.length c3] 32 (0, 0)) (Zu BK280.out) hg (Kd.R_ne HO_11.out BK280.out (by decide))); replace BK282 := Aside0.mk (Qa6 (g := gb282) (o := .cells #[.string ((rd_T48 l0 x23_1).f0.f0), .string ((rd_T48 l0 x23_1).f0.f1), .int .i64 ((rd_T48 l0 x23_1).f1), .int .i64 ((rd_T48 l0 x23_1).f2), .int .i64 ((rd_T48 l0 x23_1).f3), .int .i64 ((rd_T48 l0 x23_1).f4), .int .i64 ((rd_T48 l0 x23_1).f5), .int .i64 ((rd_T48 l0 x23_1).f6), .int .i64 ((rd_T48 l0 x23_1).f7)] 48 (0, 0)) (Zu BK282.out) hg (Kd.R_ne HO_11.out BK282.out (by decide))); replace BK284 := Aside0.mk (Qa6 (g := gb284) (o := .cells #[.string ((rd_T48 l0 x23_1).f0.f0), .string ((rd_T48 l0 x23_1).f0.f1)] 44 (0, 0)) (Zu BK284.out) hg (Kd.R_ne HO_11.out BK284.out (by decide))); replace HB := Aside0.mk (hb); clear HO_11; clear ho hb hg hat))
          go_roundg k1
          case measure => have := HK1.out; omega
          case rel => exact ⟨(y289), (wrap64 (x23_1 + 1)), (Zs), H', ⟨by have := HK1.out; omega⟩, ⟨Zr HO291.out⟩, ⟨Zu BK278.out⟩, ⟨Zu BK279.out⟩, ⟨Zu BK280.out⟩, ⟨Zc5 GE278.out GE279.out GE280.out GE282.out GE284.out⟩⟩
         rw [if_neg c46] at H
         exact absurd H (by simp)
        rw [if_neg c45] at H
        have c45b0 : (t288 == 0) = F := beq_eq_false_iff_ne.mpr c45
        have c45b1 : (t288 != 0) = T := bne_iff_ne.mpr c45
        (try simp only [c45b0, c45b1])
        simp only [Option.some.injEq, Prod.mk.injEq] at H
        obtain ⟨rfl, rfl⟩ := H
        go_wp2
        go_ret2
        exact ⟨_, Zq, by first | exact Kd.R_nil _ _ _ _ _ | exact Kd.N_nil _ _ _ _ _ | exact Kd.V_nil _ _ _ _ _ | exact Kd.Q_nil _ _ _ _ _ | exact Kd.S_nil _ _ _ _ _, Zc5 GE278.out GE279.out GE280.out GE282.out GE284.out⟩
       rw [if_neg c37] at H
       have c37b0 : (t286 == 0) = F := beq_eq_false_iff_ne.mpr c37
       have c37b1 : (t286 != 0) = T := bne_iff_ne.mpr c37
       (try simp only [c37b0, c37b1])
       simp only [Option.some.injEq, Prod.mk.injEq] at H
       obtain ⟨rfl, rfl⟩ := H
       go_wp2
       go_ret2
       exact ⟨_, Zq, by first | exact Kd.R_nil _ _ _ _ _ | exact Kd.N_nil _ _ _ _ _ | exact Kd.V_nil _ _ _ _ _ | exact Kd.Q_nil _ _ _ _ _ | exact Kd.S_nil _ _ _ _ _, Zc5 GE278.out GE279.out GE280.out GE282.out GE284.out⟩
      replace c18 := Bool.eq_false_iff.mpr c18
      subst c18
      have H1 : (some (([] : List (S50)), 2)) = some (r1, r2) := by rw [if_neg (show ¬ (F = T) by decide)] at H; exact H
      clear H
      have H := H1
      clear H1
      simp only [Option.some.injEq, Prod.mk.injEq] at H
      obtain ⟨rfl, rfl⟩ := H
      go_wp2
      go_ret2
      exact ⟨_, Zq, by first | exact Kd.R_nil _ _ _ _ _ | exact Kd.N_nil _ _ _ _ _ | exact Kd.V_nil _ _ _ _ _ | exact Kd.Q_nil _ _ _ _ _ | exact Kd.S_nil _ _ _ _ _, Zc4 GE278.out GE279.out GE280.out GE282.out⟩
     rw [if_neg c11] at H
     exact absurd H (by simp)
    rw [if_neg c10] at H
    exact absurd H (by simp)
   rw [if_neg c9] at H
   have c9b0 : decide (x23_1 < (l0.length : Int)) = F := decide_eq_false c9
   clear c9
   (try simp only [c9b0])
   simp only [Option.some.injEq, Prod.mk.injEq] at H
   obtain ⟨rfl, rfl⟩ := H
   go_wp2
   go_ret2
   exact ⟨_, Zq, Zr HO_11.out, Zc3 GE278.out GE279.out GE280.out⟩
def QaF.l0 : Nat → Int → Int → List (S46) → ByteArray → ByteArray → ByteArray → Int → List (S84) → List (S98) → Option (Int × Int)
 | 0, _, _, _, _, _, _, _, _, _ => none
 | k + 1, x305, x306, x654000, x655000, x655001, x656000, x657000, x658000, x659000 => if x305 < x306 then (if (wrap64 ((IntKind.u64.wrap (wrap64 (x305 + x306))) / 2)) > 0 then ((QaT.f k x654000 x655000 x655001 x656000 (wrap64 ((IntKind.u64.wrap (wrap64 (x305 + x306))) / 2))).bind fun bt671 => (if bt671.2 = 0 then ((Qa9.f k bt671.1 x655000 x655001 x657000 x658000 x659000).bind fun bt675 => (if bt675.2 = 0 then (if bt675.1 ≥ x657000 then (QaF.l0 k (wrap64 ((wrap64 ((IntKind.u64.wrap (wrap64 (x305 + x306))) / 2)) + 1)) x306 x654000 x655000 x655001 x656000 x657000 x658000 x659000) else (QaF.l0 k x305 (wrap64 ((IntKind.u64.wrap (wrap64 (x305 + x306))) / 2)) x654000 x655000 x655001 x656000 x657000 x658000 x659000)) else (QaF.l0 k x305 (wrap64 ((IntKind.u64.wrap (wrap64 (x305 + x306))) / 2)) x654000 x655000 x655001 x656000 x657000 x658000 x659000))) else (QaF.l0 k x305 (wrap64 ((IntKind.u64.wrap (wrap64 (x305 + x306))) / 2)) x654000 x655000 x655001 x656000 x657000 x658000 x659000))) else ((Qa9.f k x654000 x655000 x655001 x657000 x658000 x659000).bind fun bt677 => (if bt677.2 = 0 then (if bt677.1 ≥ x657000 then (QaF.l0 k (wrap64 ((wrap64 ((IntKind.u64.wrap (wrap64 (x305 + x306))) / 2)) + 1)) x306 x654000 x655000 x655001 x656000 x657000 x658000 x659000) else (QaF.l0 k x305 (wrap64 ((IntKind.u64.wrap (wrap64 (x305 + x306))) / 2)) x654000 x655000 x655001 x656000 x657000 x658000 x659000)) else (QaF.l0 k x305 (wrap64 ((IntKind.u64.wrap (wrap64 (x305 + x306))) / 2)) x654000 x655000 x655001 x656000 x657000 x658000 x659000)))) else (some (mx (wrap64 (x305 - 1)) 0, 0))
def QaF.f (k : Nat) (l0 : List (S46)) (a1_0 : ByteArray) (a1_1 : ByteArray) (a2 : ByteArray) (a3 : Int) (l4 : List (S84)) (l5 : List (S98)) : Option (Int × Int) := (Qa9.f k l0 a1_0 a1_1 a3 l4 l5).bind fun bt659 => (if bt659.2 = 0 then ((QaY.f k l4 a2).bind fun bt661 => (if bt661.2.2.2.2.2.2 = T then ((Qa2.f k l0 a1_0 a1_1 a2).bind fun t670 => (QaF.l0 k 0 (wrap64 (t670 + 1)) l0 a1_0 a1_1 a2 a3 l4 l5)) else (some (0, 11)))) else (some (0, bt659.2)))
theorem QaF.mono_l : ∀ k, (∀ y0 y1 y2 y3 y4 y5 y6 y7 y8, LeO (QaF.l0 k y0 y1 y2 y3 y4 y5 y6 y7 y8) (QaF.l0 (k + 1) y0 y1 y2 y3 y4 y5 y6 y7 y8))
 | 0 => fun _ _ _ _ _ _ _ _ _ r h => by simp [QaF.l0] at h
 | k + 1 => by
  have ih0 := QaF.mono_l k
  intro y0 y1 y2 y3 y4 y5 y6 y7 y8
  unfold QaF.l0
  exact ZM5 ih0 QaY.mono Qa9.mono Qa2.mono QaT.mono
theorem QaF.mono : ∀ a0 a1 a2 a3 a4 a5 a6 k, LeO (QaF.f k a0 a1 a2 a3 a4 a5 a6) (QaF.f (k + 1) a0 a1 a2 a3 a4 a5 a6) := by
 intro a0 a1 a2 a3 a4 a5 a6 k
 have ih0 := QaF.mono_l k
 unfold QaF.f
 exact ZM5 ih0 QaY.mono Qa9.mono Qa2.mono QaT.mono
theorem QaF.calls (k : Nat) (A0 : Option Addr) (c0 : Nat) (l0 : List (S46)) (a1_0 : ByteArray) (a1_1 : ByteArray) (a2 : ByteArray) (a3 : Int) (A4 : Option Addr) (c4 : Nat) (l4 : List (S84)) (A5 : Option Addr) (c5 : Nat) (l5 : List (S98)) (r1 : Int) (r2 : Int) (w : World) (hr0 : Kd.C k46 w A0 l0.length l0) (hc0 : l0.length ≤ c0) (hr4 : Kd.C k84 w A4 l4.length l4) (hc4 : l4.length ≤ c4) (hr5 : Kd.C k98 w A5 l5.length l5) (hc5 : l5.length ≤ c5) (h : QaF.f k l0 a1_0 a1_1 a2 a3 l4 l5 = some (r1, r2)) :
  Calls Try.prog 33 #[.slice A0 l0.length c0, .agg #[.string a1_0, .string a1_1], .string a2, .int .i64 a3, .slice A4 l4.length c4, .slice A5 l5.length c5] w fun e w' => e = .returned (.tuple #[.int .i64 r1, .int .i64 r2]) ∧ Below w.heap.size w w' := by
 have hu44 := Try.underlying44
 have hu84 := Try.underlying84
 have HR0 := Aside0.mk hr0
 have HC0 := Aside0.mk hc0
 clear hr0 hc0
 have HR4 := Aside0.mk hr4
 have HC4 := Aside0.mk hc4
 clear hr4 hc4
 have HR5 := Aside0.mk hr5
 have HC5 := Aside0.mk hc5
 clear hr5 hc5
 have HB := Aside0.mk (Below.refl w.heap.size w)
 have H : ((Qa9.f k l0 a1_0 a1_1 a3 l4 l5).bind fun bt659 => (if bt659.2 = 0 then ((QaY.f k l4 a2).bind fun bt661 => (if bt661.2.2.2.2.2.2 = T then ((Qa2.f k l0 a1_0 a1_1 a2).bind fun t670 => (QaF.l0 k 0 (wrap64 (t670 + 1)) l0 a1_0 a1_1 a2 a3 l4 l5)) else (some (0, 11)))) else (some (0, bt659.2)))) = some (r1, r2) := h
 clear h
 replace H := Option.bind_eq_some_iff.mp H
 obtain ⟨⟨t659, t660⟩, A70, H⟩ := H
 replace H : (if t660 = 0 then ((QaY.f k l4 a2).bind fun bt661 => (if bt661.2.2.2.2.2.2 = T then ((Qa2.f k l0 a1_0 a1_1 a2).bind fun t670 => (QaF.l0 k 0 (wrap64 (t670 + 1)) l0 a1_0 a1_1 a2 a3 l4 l5)) else (some (0, 11)))) else (some (0, t660))) = some (r1, r2) := H
 have A7 := Aside0.mk A70
 clear A70
 go_enter Try.func33, Try.ntmps33
 go_upto_if 29 with (first | ((with_reducible refine QaD (N := 6) rfl ?_); (refine gate_n (n := 51) rfl ?_); refine Zbx (N := 6) (cs := #[.slice A0 l0.length c0]) (t := 30) ?_; intro gb653 hg w8 hbox hb; have BK653 := Aside0.mk (hbox); have GW653 := Aside0.mk (Zt w hg (Zb)); have GE653 := GW653; replace HB := Aside0.mk (Qao (Zb) hb); clear hb hbox hg) | ((with_reducible refine QaD (N := 7) rfl ?_); (refine gate_n (n := 51) rfl ?_); refine Zbx (N := 7) (cs := #[.string a1_0, .string a1_1]) (t := 44) ?_; intro gb654 hg w9 hbox hb; have BK654 := Aside0.mk (hbox); have GW654 := Aside0.mk (Zt w hg (Zc1 GE653.out)); have GE654 := GW654; have NB653_654 := Aside0.mk (Zn hg BK653.out); have NB654_653 := Aside0.mk NB653_654.out.symm; replace BK653 := Aside0.mk (Zi BK653.out hb); replace HB := Aside0.mk (Qao (Zc1 GE653.out) hb); clear hb hbox hg) | ((with_reducible refine QaD (N := 8) rfl ?_); (refine gate_n (n := 51) rfl ?_); refine Zbx (N := 8) (cs := #[.string a2]) (t := 9) ?_; intro gb655 hg w10 hbox hb; have BK655 := Aside0.mk (hbox); have GW655 := Aside0.mk (Zt w hg (Zc2 GE653.out GE654.out)); have GE655 := GW655; have NB653_655 := Aside0.mk (Zn hg BK653.out); have NB655_653 := Aside0.mk NB653_655.out.symm; have NB654_655 := Aside0.mk (Zn hg BK654.out); have NB655_654 := Aside0.mk NB654_655.out.symm; replace BK653 := Aside0.mk (Zi BK653.out hb); replace BK654 := Aside0.mk (Zi BK654.out hb); replace HB := Aside0.mk (Qao (Zc2 GE653.out GE654.out) hb); clear hb hbox hg) | ((with_reducible refine QaD (N := 9) rfl ?_); (refine gate_n (n := 51) rfl ?_); refine Zbx (N := 9) (cs := #[.int .i64 a3]) (t := 3) ?_; intro gb656 hg w11 hbox hb; have BK656 := Aside0.mk (hbox); have GW656 := Aside0.mk (Zt w hg (Zc3 GE653.out GE654.out GE655.out)); have GE656 := GW656; have NB653_656 := Aside0.mk (Zn hg BK653.out); have NB656_653 := Aside0.mk NB653_656.out.symm; have NB654_656 := Aside0.mk (Zn hg BK654.out); have NB656_654 := Aside0.mk NB654_656.out.symm; have NB655_656 := Aside0.mk (Zn hg BK655.out); have NB656_655 := Aside0.mk NB655_656.out.symm; replace BK653 := Aside0.mk (Zi BK653.out hb); replace BK654 := Aside0.mk (Zi BK654.out hb); replace BK655 := Aside0.mk (Zi BK655.out hb); replace HB := Aside0.mk (Qao (Zc3 GE653.out GE654.out GE655.out) hb); clear hb hbox hg) | ((with_reducible refine QaD (N := 10) rfl ?_); (refine gate_n (n := 51) rfl ?_); refine Zbx (N := 10) (cs := #[.slice A4 l4.length c4]) (t := 31) ?_; intro gb657 hg w12 hbox hb; have BK657 := Aside0.mk (hbox); have GW657 := Aside0.mk (Zt w hg (Zc4 GE653.out GE654.out GE655.out GE656.out)); have GE657 := GW657; have NB653_657 := Aside0.mk (Zn hg BK653.out); have NB657_653 := Aside0.mk NB653_657.out.symm; have NB654_657 := Aside0.mk (Zn hg BK654.out); have NB657_654 := Aside0.mk NB654_657.out.symm; have NB655_657 := Aside0.mk (Zn hg BK655.out); have NB657_655 := Aside0.mk NB655_657.out.symm; have NB656_657 := Aside0.mk (Zn hg BK656.out); have NB657_656 := Aside0.mk NB656_657.out.symm; replace BK653 := Aside0.mk (Zi BK653.out hb); replace BK654 := Aside0.mk (Zi BK654.out hb); replace BK655 := Aside0.mk (Zi BK655.out hb); replace BK656 := Aside0.mk (Zi BK656.out hb); replace HB := Aside0.mk (Qao (Zc4 GE653.out GE654.out GE655.out GE656.out) hb); clear hb hbox hg) | ((with_reducible refine QaD (N := 11) rfl ?_); (refine gate_n (n := 51) rfl ?_); refine Zbx (N := 11) (cs := #[.slice A5 l5.length c5]) (t := 32) ?_; intro gb658 hg w13 hbox hb; have BK658 := Aside0.mk (hbox); have GW658 := Aside0.mk (Zt w hg (Zc5 GE653.out GE654.out GE655.out GE656.out GE657.out)); have GE658 := GW658; have NB653_658 := Aside0.mk (Zn hg BK653.out); have NB658_653 := Aside0.mk NB653_658.out.symm; have NB654_658 := Aside0.mk (Zn hg BK654.out); have NB658_654 := Aside0.mk NB654_658.out.symm; have NB655_658 := Aside0.mk (Zn hg BK655.out); have NB658_655 := Aside0.mk NB655_658.out.symm; have NB656_658 := Aside0.mk (Zn hg BK656.out); have NB658_656 := Aside0.mk NB656_658.out.symm; have NB657_658 := Aside0.mk (Zn hg BK657.out); have NB658_657 := Aside0.mk NB657_658.out.symm; replace BK653 := Aside0.mk (Zi BK653.out hb); replace BK654 := Aside0.mk (Zi BK654.out hb); replace BK655 := Aside0.mk (Zi BK655.out hb); replace BK656 := Aside0.mk (Zi BK656.out hb); replace BK657 := Aside0.mk (Zi BK657.out hb); replace HB := Aside0.mk (Qao (Zc5 GE653.out GE654.out GE655.out GE656.out GE657.out) hb); clear hb hbox hg; have hnb14 := NB653_654.out; have hnc14 := NB654_653.out; have hnb15 := NB653_655.out; have hnc15 := NB655_653.out; have hnb16 := NB653_656.out; have hnc16 := NB656_653.out; have hnb17 := NB653_657.out; have hnc17 := NB657_653.out; have hnb18 := NB653_658.out; have hnc18 := NB658_653.out; obtain ⟨hcz19_0, hfz19_0⟩ := Zy (v := (.slice A0 l0.length c0)) BK653.out 0; have hnb20 := NB654_655.out; have hnc20 := NB655_654.out; have hnb21 := NB654_656.out; have hnc21 := NB656_654.out; have hnb22 := NB654_657.out; have hnc22 := NB657_654.out; have hnb23 := NB654_658.out; have hnc23 := NB658_654.out; obtain ⟨hcz24_0, hfz24_0⟩ := Zy (v := (.string a1_0)) BK654.out 0; obtain ⟨hcz24_1, hfz24_1⟩ := Zy (v := (.string a1_1)) BK654.out 1; have hnb25 := NB656_655.out; have hnc25 := NB655_656.out; have hnb26 := NB656_657.out; have hnc26 := NB657_656.out; have hnb27 := NB656_658.out; have hnc27 := NB658_656.out; obtain ⟨hcz28_0, hfz28_0⟩ := Zy (v := (.int .i64 a3)) BK656.out 0; have hnb29 := NB657_655.out; have hnc29 := NB655_657.out; have hnb30 := NB657_658.out; have hnc30 := NB658_657.out; obtain ⟨hcz31_0, hfz31_0⟩ := Zy (v := (.slice A4 l4.length c4)) BK657.out 0; have hnb32 := NB658_655.out; have hnc32 := NB655_658.out; obtain ⟨hcz33_0, hfz33_0⟩ := Zy (v := (.slice A5 l5.length c5)) BK658.out 0) | ((with_reducible refine Qax (f := 30) rfl ?_); refine goesL_ (some 25) rfl rfl Try.func30 (by kernel_rfl) rfl #[.slice A0 l0.length c0, .agg #[.string a1_0, .string a1_1], .int .i64 a3, .slice A4 l4.length c4, .slice A5 l5.length c5] rfl (Zl) ?_; (with_reducible refine (Qa9.calls k _ _ l0 a1_0 a1_1 a3 _ _ l4 _ _ l5 t659 t660 _ ?side1 ?side2 ?side3 ?side4 ?side5 ?side6 A7.out).mono ?_); (case side1 => exact Zv (Kd.C_below HR0.out HB.out)); (case side2 => exact HC0.out); (case side3 => exact Zv (Kd.C_below HR4.out HB.out)); (case side4 => exact HC4.out); (case side5 => exact Zv (Kd.C_below HR5.out HB.out)); (case side6 => exact HC5.out); rintro e w34 ⟨rfl, hb⟩; refine ⟨_, rfl, ?_⟩; replace BK653 := Aside0.mk (Zi BK653.out hb); replace BK654 := Aside0.mk (Zi BK654.out hb); replace BK655 := Aside0.mk (Zi BK655.out hb); replace BK656 := Aside0.mk (Zi BK656.out hb); replace BK657 := Aside0.mk (Zi BK657.out hb); replace BK658 := Aside0.mk (Zi BK658.out hb); replace HB := Aside0.mk (Qao (Zc6 GE653.out GE654.out GE655.out GE656.out GE657.out GE658.out) hb); (try clear hb); (try clear hb2); (try clear hk); (try clear hi)))
 (try simp only [Act.put, Zj, Zk, Zm])
 by_cases c35 : t660 = 0
 ·rw [if_pos c35] at H
  have c35b0 : (t660 == 0) = T := beq_iff_eq.mpr c35
  have c35b1 : (t660 != 0) = F := bne_eq_false_iff_eq.mpr c35
  clear c35
  (try simp only [c35b0, c35b1])
  replace H := Option.bind_eq_some_iff.mp H
  obtain ⟨⟨t661, t662, t663, t664, t665, t666, t667⟩, A360, H⟩ := H
  replace H : (if t667 = T then ((Qa2.f k l0 a1_0 a1_1 a2).bind fun t670 => (QaF.l0 k 0 (wrap64 (t670 + 1)) l0 a1_0 a1_1 a2 a3 l4 l5)) else (some (0, 11))) = some (r1, r2) := H
  have A36 := Aside0.mk A360
  clear A360
  have hnb37 := NB657_653.out
  have hnc37 := NB653_657.out
  have hnb38 := NB657_654.out
  have hnc38 := NB654_657.out
  have hnb39 := NB657_655.out
  have hnc39 := NB655_657.out
  have hnb40 := NB657_656.out
  have hnc40 := NB656_657.out
  have hnb41 := NB657_658.out
  have hnc41 := NB658_657.out
  obtain ⟨hcz42_0, hfz42_0⟩ := Zy (v := (.slice A4 l4.length c4)) BK657.out 0
  have hnb43 := NB655_653.out
  have hnc43 := NB653_655.out
  have hnb44 := NB655_654.out
  have hnc44 := NB654_655.out
  have hnb45 := NB655_656.out
  have hnc45 := NB656_655.out
  have hnb46 := NB655_658.out
  have hnc46 := NB658_655.out
  obtain ⟨hcz47_0, hfz47_0⟩ := Zy (v := (.string a2)) BK655.out 0
  go_upto_if 38 with (first | ((with_reducible refine Qax (f := 48) rfl ?_); refine goesL_ (some 34) rfl rfl Try.func48 (by kernel_rfl) rfl #[.slice A4 l4.length c4, .string a2] rfl (Zl) ?_; (with_reducible refine (QaY.calls k _ _ l4 a2 t661 t662 t663 t664 t665 t666 t667 _ ?side1 ?side2 A36.out).mono ?_); (case side1 => exact Zv (Kd.C_below HR4.out HB.out)); (case side2 => exact HC4.out); rintro e w48 ⟨rfl, hb⟩; refine ⟨_, rfl, ?_⟩; replace BK653 := Aside0.mk (Zi BK653.out hb); replace BK654 := Aside0.mk (Zi BK654.out hb); replace BK655 := Aside0.mk (Zi BK655.out hb); replace BK656 := Aside0.mk (Zi BK656.out hb); replace BK657 := Aside0.mk (Zi BK657.out hb); replace BK658 := Aside0.mk (Zi BK658.out hb); replace HB := Aside0.mk (Qao (Zc6 GE653.out GE654.out GE655.out GE656.out GE657.out GE658.out) hb); (try clear hb); (try clear hb2); (try clear hk); (try clear hi)) | ((with_reducible refine QaD (N := 14) rfl ?_); (refine gate_n (n := 51) rfl ?_); refine Zbx (N := 14) (cs := #[.string (⟨#[]⟩ : ByteArray), .int .i64 0, .int .i64 0, .int .i64 0, .int .i64 0, .int .i64 0]) (t := 84) ?_; intro gb668 hg w49 hbox hb; have BK668 := Aside0.mk (hbox); have GW668 := Aside0.mk (Zt w hg (Zc6 GE653.out GE654.out GE655.out GE656.out GE657.out GE658.out)); have GE668 := GW668; have NB653_668 := Aside0.mk (Zn hg BK653.out); have NB668_653 := Aside0.mk NB653_668.out.symm; have NB654_668 := Aside0.mk (Zn hg BK654.out); have NB668_654 := Aside0.mk NB654_668.out.symm; have NB655_668 := Aside0.mk (Zn hg BK655.out); have NB668_655 := Aside0.mk NB655_668.out.symm; have NB656_668 := Aside0.mk (Zn hg BK656.out); have NB668_656 := Aside0.mk NB656_668.out.symm; have NB657_668 := Aside0.mk (Zn hg BK657.out); have NB668_657 := Aside0.mk NB657_668.out.symm; have NB658_668 := Aside0.mk (Zn hg BK658.out); have NB668_658 := Aside0.mk NB658_668.out.symm; replace BK653 := Aside0.mk (Zi BK653.out hb); replace BK654 := Aside0.mk (Zi BK654.out hb); replace BK655 := Aside0.mk (Zi BK655.out hb); replace BK656 := Aside0.mk (Zi BK656.out hb); replace BK657 := Aside0.mk (Zi BK657.out hb); replace BK658 := Aside0.mk (Zi BK658.out hb); replace HB := Aside0.mk (Qao (Zc6 GE653.out GE654.out GE655.out GE656.out GE657.out GE658.out) hb); clear hb hbox hg; have hnb50 := NB668_653.out; have hnc50 := NB653_668.out; have hnb51 := NB668_654.out; have hnc51 := NB654_668.out; have hnb52 := NB668_655.out; have hnc52 := NB655_668.out; have hnb53 := NB668_656.out; have hnc53 := NB656_668.out; have hnb54 := NB668_657.out; have hnc54 := NB657_668.out; have hnb55 := NB668_658.out; have hnc55 := NB658_668.out; obtain ⟨hcz56_0, hfz56_0⟩ := Zy (v := (.string (⟨#[]⟩ : ByteArray))) BK668.out 0; obtain ⟨hcz56_1, hfz56_1⟩ := Zy (v := (.int .i64 0)) BK668.out 1; obtain ⟨hcz56_2, hfz56_2⟩ := Zy (v := (.int .i64 0)) BK668.out 2; obtain ⟨hcz56_3, hfz56_3⟩ := Zy (v := (.int .i64 0)) BK668.out 3; obtain ⟨hcz56_4, hfz56_4⟩ := Zy (v := (.int .i64 0)) BK668.out 4; obtain ⟨hcz56_5, hfz56_5⟩ := Zy (v := (.int .i64 0)) BK668.out 5) | ((with_reducible refine Qdq (t := 84) (p := 14) rfl ?_); (refine gate_n (n := 51) rfl ?_); refine Qde (t := 84) (p := 14) (v := ?vo_w57) (w1 := ((((((w49.setCell ⟨gb668, 0, none⟩ (.string t661)).setCell ⟨gb668, 1, none⟩ (.int .i64 t662)).setCell ⟨gb668, 2, none⟩ (.int .i64 t663)).setCell ⟨gb668, 3, none⟩ (.int .i64 t664)).setCell ⟨gb668, 4, none⟩ (.int .i64 t665)).setCell ⟨gb668, 5, none⟩ (.int .i64 t666))) ?hg ?ho ?hn ?hr ?_; (case ho => rfl); (case hg => rfl); (case hn => rfl); (case hr => first | (exact QcQ (cs := #[.string (⟨#[]⟩ : ByteArray), .int .i64 0, .int .i64 0, .int .i64 0, .int .i64 0, .int .i64 0]) (seg := [.string t661, .int .i64 t662, .int .i64 t663, .int .i64 t664, .int .i64 t665, .int .i64 t666]) BK668.out rfl (by first | rfl | (go_simp; done)) (by first | rfl | (go_simp; done)) (by rfl) (by first | rfl | kernel_rfl) (by simp) (by first | rfl | simp [Value.oneCell'])) | (go_simp; done) | (go_simp; rfl)); intro w57 hw; replace BK653 : Aside0 (w57.heap[gb653]? = some (.cells #[.slice A0 l0.length c0] 30 (0, 0))) := ⟨(by rw [hw]; exact (Zg6 BK653.out NB653_668.out NB653_668.out NB653_668.out NB653_668.out NB653_668.out NB653_668.out))⟩; replace BK654 : Aside0 (w57.heap[gb654]? = some (.cells #[.string a1_0, .string a1_1] 44 (0, 0))) := ⟨(by rw [hw]; exact (Zg6 BK654.out NB654_668.out NB654_668.out NB654_668.out NB654_668.out NB654_668.out NB654_668.out))⟩; replace BK655 : Aside0 (w57.heap[gb655]? = some (.cells #[.string a2] 9 (0, 0))) := ⟨(by rw [hw]; exact (Zg6 BK655.out NB655_668.out NB655_668.out NB655_668.out NB655_668.out NB655_668.out NB655_668.out))⟩; replace BK656 : Aside0 (w57.heap[gb656]? = some (.cells #[.int .i64 a3] 3 (0, 0))) := ⟨(by rw [hw]; exact (Zg6 BK656.out NB656_668.out NB656_668.out NB656_668.out NB656_668.out NB656_668.out NB656_668.out))⟩; replace BK657 : Aside0 (w57.heap[gb657]? = some (.cells #[.slice A4 l4.length c4] 31 (0, 0))) := ⟨(by rw [hw]; exact (Zg6 BK657.out NB657_668.out NB657_668.out NB657_668.out NB657_668.out NB657_668.out NB657_668.out))⟩; replace BK658 : Aside0 (w57.heap[gb658]? = some (.cells #[.slice A5 l5.length c5] 32 (0, 0))) := ⟨(by rw [hw]; exact (Zg6 BK658.out NB658_668.out NB658_668.out NB658_668.out NB658_668.out NB658_668.out NB658_668.out))⟩; replace BK668 : Aside0 (w57.heap[gb668]? = some (.cells #[.string t661, .int .i64 t662, .int .i64 t663, .int .i64 t664, .int .i64 t665, .int .i64 t666] 84 (0, 0))) := ⟨(by rw [hw]; exact (Zp2 BK668.out))⟩; replace HB : Aside0 (Below w.heap.size w w57) := ⟨(by rw [hw]; exact (Zc7 GE653.out GE654.out GE655.out GE656.out GE657.out GE658.out GE668.out))⟩; clear hw))
  (try simp only [Act.put, Zj, Zk, Zm])
  by_cases c58 : t667 = T
  ·subst c58
   have H1 : ((Qa2.f k l0 a1_0 a1_1 a2).bind fun t670 => (QaF.l0 k 0 (wrap64 (t670 + 1)) l0 a1_0 a1_1 a2 a3 l4 l5)) = some (r1, r2) := by rw [if_pos rfl] at H; exact H
   clear H
   have H := H1
   clear H1
   replace H := Option.bind_eq_some_iff.mp H
   obtain ⟨t670, A590, H⟩ := H
   replace H : (QaF.l0 k 0 (wrap64 (t670 + 1)) l0 a1_0 a1_1 a2 a3 l4 l5) = some (r1, r2) := H
   have A59 := Aside0.mk A590
   clear A590
   have H' := Aside0.mk H
   clear H
   go_wp2_with (first | ((with_reducible refine QaD (N := 16) rfl ?_); (refine gate_n (n := 51) rfl ?_); refine Zbx (N := 16) (cs := #[.nilFunc]) (t := 96) ?_; intro gb669 hg w60 hbox hb; have BK669 := Aside0.mk (hbox); have GW669 := Aside0.mk (Zt w hg (Zc7 GE653.out GE654.out GE655.out GE656.out GE657.out GE658.out GE668.out)); have GE669 := GW669; have NB653_669 := Aside0.mk (Zn hg BK653.out); have NB669_653 := Aside0.mk NB653_669.out.symm; have NB654_669 := Aside0.mk (Zn hg BK654.out); have NB669_654 := Aside0.mk NB654_669.out.symm; have NB655_669 := Aside0.mk (Zn hg BK655.out); have NB669_655 := Aside0.mk NB655_669.out.symm; have NB656_669 := Aside0.mk (Zn hg BK656.out); have NB669_656 := Aside0.mk NB656_669.out.symm; have NB657_669 := Aside0.mk (Zn hg BK657.out); have NB669_657 := Aside0.mk NB657_669.out.symm; have NB658_669 := Aside0.mk (Zn hg BK658.out); have NB669_658 := Aside0.mk NB658_669.out.symm; have NB668_669 := Aside0.mk (Zn hg BK668.out); have NB669_668 := Aside0.mk NB668_669.out.symm; replace BK653 := Aside0.mk (Zi BK653.out hb); replace BK654 := Aside0.mk (Zi BK654.out hb); replace BK655 := Aside0.mk (Zi BK655.out hb); replace BK656 := Aside0.mk (Zi BK656.out hb); replace BK657 := Aside0.mk (Zi BK657.out hb); replace BK658 := Aside0.mk (Zi BK658.out hb); replace BK668 := Aside0.mk (Zi BK668.out hb); replace HB := Aside0.mk (Qao (Zc7 GE653.out GE654.out GE655.out GE656.out GE657.out GE658.out GE668.out) hb); clear hb hbox hg; have hnb61 := NB669_653.out; have hnc61 := NB653_669.out; have hnb62 := NB669_654.out; have hnc62 := NB654_669.out; have hnb63 := NB669_655.out; have hnc63 := NB655_669.out; have hnb64 := NB669_656.out; have hnc64 := NB656_669.out; have hnb65 := NB669_657.out; have hnc65 := NB657_669.out; have hnb66 := NB669_658.out; have hnc66 := NB658_669.out; have hnb67 := NB669_668.out; have hnc67 := NB668_669.out; obtain ⟨hcz68_0, hfz68_0⟩ := Zy (v := (.nilFunc)) BK669.out 0) | ((with_reducible refine Qdq (t := 96) (p := 16) rfl ?_); (refine gate_n (n := 51) rfl ?_); refine Qde (t := 96) (p := 16) (v := ?vo_w69) (w1 := (w60.setCell ⟨gb669, 0, none⟩ (.func (.func 61) #[] #[.pointer (some ⟨gb653, 0, none⟩), .pointer (some ⟨gb654, 0, none⟩), .pointer (some ⟨gb655, 0, none⟩), .pointer (some ⟨gb656, 0, none⟩), .pointer (some ⟨gb657, 0, none⟩), .pointer (some ⟨gb658, 0, none⟩)]))) ?hg ?ho ?hn ?hr ?_; (case ho => rfl); (case hg => rfl); (case hn => rfl); (case hr => first | (exact QcQ (cs := #[.nilFunc]) (seg := [.func (.func 61) #[] #[.pointer (some ⟨gb653, 0, none⟩), .pointer (some ⟨gb654, 0, none⟩), .pointer (some ⟨gb655, 0, none⟩), .pointer (some ⟨gb656, 0, none⟩), .pointer (some ⟨gb657, 0, none⟩), .pointer (some ⟨gb658, 0, none⟩)]]) BK669.out rfl (by first | rfl | (go_simp; done)) (by first | rfl | (go_simp; done)) (by rfl) (by first | rfl | kernel_rfl) (by simp) (by first | rfl | simp [Value.oneCell'])) | (go_simp; done) | (go_simp; rfl)); intro w69 hw; replace BK653 : Aside0 (w69.heap[gb653]? = some (.cells #[.slice A0 l0.length c0] 30 (0, 0))) := ⟨(by rw [hw]; exact (Zg1 BK653.out NB653_669.out))⟩; replace BK654 : Aside0 (w69.heap[gb654]? = some (.cells #[.string a1_0, .string a1_1] 44 (0, 0))) := ⟨(by rw [hw]; exact (Zg1 BK654.out NB654_669.out))⟩; replace BK655 : Aside0 (w69.heap[gb655]? = some (.cells #[.string a2] 9 (0, 0))) := ⟨(by rw [hw]; exact (Zg1 BK655.out NB655_669.out))⟩; replace BK656 : Aside0 (w69.heap[gb656]? = some (.cells #[.int .i64 a3] 3 (0, 0))) := ⟨(by rw [hw]; exact (Zg1 BK656.out NB656_669.out))⟩; replace BK657 : Aside0 (w69.heap[gb657]? = some (.cells #[.slice A4 l4.length c4] 31 (0, 0))) := ⟨(by rw [hw]; exact (Zg1 BK657.out NB657_669.out))⟩; replace BK658 : Aside0 (w69.heap[gb658]? = some (.cells #[.slice A5 l5.length c5] 32 (0, 0))) := ⟨(by rw [hw]; exact (Zg1 BK658.out NB658_669.out))⟩; replace BK668 : Aside0 (w69.heap[gb668]? = some (.cells #[.string t661, .int .i64 t662, .int .i64 t663, .int .i64 t664, .int .i64 t665, .int .i64 t666] 84 (0, 0))) := ⟨(by rw [hw]; exact (Zg1 BK668.out NB668_669.out))⟩; replace BK669 : Aside0 (w69.heap[gb669]? = some (.cells #[.func (.func 61) #[] #[.pointer (some ⟨gb653, 0, none⟩), .pointer (some ⟨gb654, 0, none⟩), .pointer (some ⟨gb655, 0, none⟩), .pointer (some ⟨gb656, 0, none⟩), .pointer (some ⟨gb657, 0, none⟩), .pointer (some ⟨gb658, 0, none⟩)]] 96 (0, 0))) := ⟨(by rw [hw]; exact (Zp2 BK669.out))⟩; replace HB : Aside0 (Below w.heap.size w w69) := ⟨(by rw [hw]; exact (Zc8 GE653.out GE654.out GE655.out GE656.out GE657.out GE658.out GE668.out GE669.out))⟩; clear hw; have hnb70 := NB653_654.out; have hnc70 := NB654_653.out; have hnb71 := NB653_655.out; have hnc71 := NB655_653.out; have hnb72 := NB653_656.out; have hnc72 := NB656_653.out; have hnb73 := NB653_657.out; have hnc73 := NB657_653.out; have hnb74 := NB653_658.out; have hnc74 := NB658_653.out; have hnb75 := NB653_668.out; have hnc75 := NB668_653.out; obtain ⟨hcz76_0, hfz76_0⟩ := Zy (v := (.slice A0 l0.length c0)) BK653.out 0; have hnb77 := NB654_655.out; have hnc77 := NB655_654.out; have hnb78 := NB654_656.out; have hnc78 := NB656_654.out; have hnb79 := NB654_657.out; have hnc79 := NB657_654.out; have hnb80 := NB654_658.out; have hnc80 := NB658_654.out; have hnb81 := NB654_668.out; have hnc81 := NB668_654.out; obtain ⟨hcz82_0, hfz82_0⟩ := Zy (v := (.string a1_0)) BK654.out 0; obtain ⟨hcz82_1, hfz82_1⟩ := Zy (v := (.string a1_1)) BK654.out 1; have hnb83 := NB655_656.out; have hnc83 := NB656_655.out; have hnb84 := NB655_657.out; have hnc84 := NB657_655.out; have hnb85 := NB655_658.out; have hnc85 := NB658_655.out; have hnb86 := NB655_668.out; have hnc86 := NB668_655.out; obtain ⟨hcz87_0, hfz87_0⟩ := Zy (v := (.string a2)) BK655.out 0) | ((with_reducible refine Qax (f := 46) rfl ?_); refine goesL_ (some 43) rfl rfl Try.func46 (by kernel_rfl) rfl #[.slice A0 l0.length c0, .agg #[.string a1_0, .string a1_1], .string a2] rfl (Zl) ?_; (with_reducible refine (Qa2.calls k _ _ l0 a1_0 a1_1 a2 t670 _ ?side1 ?side2 A59.out).mono ?_); (case side1 => exact Zv (Kd.C_below HR0.out HB.out)); (case side2 => exact HC0.out); rintro e w88 ⟨rfl, hb⟩; refine ⟨_, rfl, ?_⟩; replace BK653 := Aside0.mk (Zi BK653.out hb); replace BK654 := Aside0.mk (Zi BK654.out hb); replace BK655 := Aside0.mk (Zi BK655.out hb); replace BK656 := Aside0.mk (Zi BK656.out hb); replace BK657 := Aside0.mk (Zi BK657.out hb); replace BK658 := Aside0.mk (Zi BK658.out hb); replace BK668 := Aside0.mk (Zi BK668.out hb); replace BK669 := Aside0.mk (Zi BK669.out hb); replace HB := Aside0.mk (Qao (Zc8 GE653.out GE654.out GE655.out GE656.out GE657.out GE658.out GE668.out GE669.out) hb); (try clear hb); (try clear hb2); (try clear hk); (try clear hi)) | (go_at_call 62; go_in))
   go_loopg [5, 6] k (fun kq v305 v306 w' => ∃ (x305_1 : Int) (x306_1 : Int), v305 = .int .i64 x305_1 ∧ v306 = .int .i64 x306_1 ∧ Aside0 (QaF.l0 kq x305_1 x306_1 l0 a1_0 a1_1 a2 a3 l4 l5 = some (r1, r2)) ∧ Aside0 (kq ≤ k) ∧ Aside0 (w'.heap[gb653]? = some (.cells #[(.slice A0 l0.length c0)] 30 (0, 0))) ∧ Aside0 (w'.heap[gb654]? = some (.cells #[.string a1_0, .string a1_1] 44 (0, 0))) ∧ Aside0 (w'.heap[gb655]? = some (.cells #[.string a2] 9 (0, 0))) ∧ Aside0 (w'.heap[gb656]? = some (.cells #[.int .i64 a3] 3 (0, 0))) ∧ Aside0 (w'.heap[gb657]? = some (.cells #[(.slice A4 l4.length c4)] 31 (0, 0))) ∧ Aside0 (w'.heap[gb658]? = some (.cells #[(.slice A5 l5.length c5)] 32 (0, 0))) ∧ Aside0 (w'.heap[gb668]? = some (.cells #[.string t661, .int .i64 t662, .int .i64 t663, .int .i64 t664, .int .i64 t665, .int .i64 t666] 84 (0, 0))) ∧ Aside0 (w'.heap[gb669]? = some (.cells #[(.func (.func 61) #[] #[.pointer (some ⟨gb653, 0, none⟩), .pointer (some ⟨gb654, 0, none⟩), .pointer (some ⟨gb655, 0, none⟩), .pointer (some ⟨gb656, 0, none⟩), .pointer (some ⟨gb657, 0, none⟩), .pointer (some ⟨gb658, 0, none⟩)])] 96 (0, 0))) ∧ Aside0 (Below w.heap.size w w'))
   case atStart => exact ⟨(0), (wrap64 (t670 + 1)), (Zs), (Zs), H', ⟨Nat.le_refl _⟩, ⟨Zu BK653.out⟩, ⟨Zu BK654.out⟩, ⟨Zu BK655.out⟩, ⟨Zu BK656.out⟩, ⟨Zu BK657.out⟩, ⟨Zu BK658.out⟩, ⟨Zu BK668.out⟩, ⟨Zu BK669.out⟩, ⟨Zc8 GE653.out GE654.out GE655.out GE656.out GE657.out GE658.out GE668.out GE669.out⟩⟩
   case round =>
    clear H'
    try clear c1
    try clear c2
    try clear p2
    try clear c3
    try clear c4
    try clear c5
    try clear c6
    try clear p6
    try clear c7
    try clear c8
    try clear c14
    try clear c15
    try clear c16
    try clear c17
    try clear c18
    try clear c20
    try clear c21
    try clear c22
    try clear c23
    try clear c25
    try clear c26
    try clear c27
    try clear c29
    try clear c30
    try clear c32
    try clear c33
    try clear c35
    try clear c35b0
    try clear c35b1
    try clear c37
    try clear c38
    try clear c39
    try clear c40
    try clear c41
    try clear c43
    try clear c44
    try clear c45
    try clear c46
    try clear c48
    try clear c50
    try clear c51
    try clear c52
    try clear c53
    try clear c54
    try clear c55
    try clear c58
    try clear c61
    try clear c62
    try clear c63
    try clear c64
    try clear p64
    try clear c65
    try clear c66
    try clear c67
    try clear c70
    try clear c71
    try clear c72
    try clear c73
    try clear c74
    try clear c75
    try clear c77
    try clear c78
    try clear c79
    try clear c80
    try clear c81
    try clear c83
    try clear c84
    try clear c85
    try clear c86
    try clear hcz19_0
    try clear hcz24_0
    try clear hcz24_1
    try clear hcz28_0
    try clear hcz31_0
    try clear hcz33_0
    try clear hcz42_0
    try clear hcz47_0
    try clear hcz56_0
    try clear hcz56_1
    try clear hcz56_2
    try clear hcz56_3
    try clear hcz56_4
    try clear hcz56_5
    try clear hcz68_0
    try clear hcz76_0
    try clear hcz82_0
    try clear hcz82_1
    try clear hcz87_0
    try clear hfz19_0
    try clear hfz24_0
    try clear hfz24_1
    try clear hfz28_0
    try clear hfz31_0
    try clear hfz33_0
    try clear hfz42_0
    try clear hfz47_0
    try clear hfz56_0
    try clear hfz56_1
    try clear hfz56_2
    try clear hfz56_3
    try clear hfz56_4
    try clear hfz56_5
    try clear hfz68_0
    try clear hfz76_0
    try clear hfz82_0
    try clear hfz82_1
    try clear hfz87_0
    obtain ⟨x305_1, x306_1, rfl, rfl, HA, HK1, BK653, BK654, BK655, BK656, BK657, BK658, BK668, BK669, HB⟩ := hrel
    cases gk with
    | zero => exact absurd HA.out (by simp [QaF.l0])
    | succ k1 =>
     have H := HA.out
     clear HA
     simp only [QaF.l0] at H
     by_cases c89 : x305_1 < x306_1
     ·rw [if_pos c89] at H
      have c89b0 : decide (x305_1 < x306_1) = T := decide_eq_true c89
      clear c89
      (try simp only [c89b0])
      have hnb90 := NB669_653.out
      have hnc90 := NB653_669.out
      have hnb91 := NB669_654.out
      have hnc91 := NB654_669.out
      have hnb92 := NB669_655.out
      have hnc92 := NB655_669.out
      have hnb93 := NB669_656.out
      have hnc93 := NB656_669.out
      have hnb94 := NB669_657.out
      have hnc94 := NB657_669.out
      have hnb95 := NB669_658.out
      have hnc95 := NB658_669.out
      have hnb96 := NB669_668.out
      have hnc96 := NB668_669.out
      obtain ⟨hcz97_0, hfz97_0⟩ := Zy (v := (.func (.func 61) #[] #[.pointer (some ⟨gb653, 0, none⟩), .pointer (some ⟨gb654, 0, none⟩), .pointer (some ⟨gb655, 0, none⟩), .pointer (some ⟨gb656, 0, none⟩), .pointer (some ⟨gb657, 0, none⟩), .pointer (some ⟨gb658, 0, none⟩)])) BK669.out 0
      have hnb98 := NB653_654.out
      have hnc98 := NB654_653.out
      have hnb99 := NB653_655.out
      have hnc99 := NB655_653.out
      have hnb100 := NB653_656.out
      have hnc100 := NB656_653.out
      have hnb101 := NB653_657.out
      have hnc101 := NB657_653.out
      have hnb102 := NB653_658.out
      have hnc102 := NB658_653.out
      have hnb103 := NB653_668.out
      have hnc103 := NB668_653.out
      obtain ⟨hcz104_0, hfz104_0⟩ := Zy (v := (.slice A0 l0.length c0)) BK653.out 0
      go_upto_if 16 with (first | (go_at_call 63; go_in) | (go_at_call 61; go_in))
      (try simp only [Act.put, Zj, Zk, Zm])
      by_cases c105 : (wrap64 ((IntKind.u64.wrap (wrap64 (x305_1 + x306_1))) / 2)) > 0
      ·rw [if_pos c105] at H
       have c105b0 : decide (0 < (wrap64 ((IntKind.u64.wrap (wrap64 (x305_1 + x306_1))) / 2))) = T := decide_eq_true c105
       clear c105
       (try simp only [c105b0])
       replace H := Option.bind_eq_some_iff.mp H
       obtain ⟨⟨t671, t674⟩, A1060, H⟩ := H
       replace H : (if t674 = 0 then ((Qa9.f k1 t671 a1_0 a1_1 a3 l4 l5).bind fun bt675 => (if bt675.2 = 0 then (if bt675.1 ≥ a3 then (QaF.l0 k1 (wrap64 ((wrap64 ((IntKind.u64.wrap (wrap64 (x305_1 + x306_1))) / 2)) + 1)) x306_1 l0 a1_0 a1_1 a2 a3 l4 l5) else (QaF.l0 k1 x305_1 (wrap64 ((IntKind.u64.wrap (wrap64 (x305_1 + x306_1))) / 2)) l0 a1_0 a1_1 a2 a3 l4 l5)) else (QaF.l0 k1 x305_1 (wrap64 ((IntKind.u64.wrap (wrap64 (x305_1 + x306_1))) / 2)) l0 a1_0 a1_1 a2 a3 l4 l5))) else (QaF.l0 k1 x305_1 (wrap64 ((IntKind.u64.wrap (wrap64 (x305_1 + x306_1))) / 2)) l0 a1_0 a1_1 a2 a3 l4 l5)) = some (r1, r2) := H
       have A106 := Aside0.mk A1060
       clear A1060
       have hnb107 := NB653_654.out
       have hnc107 := NB654_653.out
       have hnb108 := NB653_655.out
       have hnc108 := NB655_653.out
       have hnb109 := NB653_656.out
       have hnc109 := NB656_653.out
       have hnb110 := NB653_657.out
       have hnc110 := NB657_653.out
       have hnb111 := NB653_658.out
       have hnc111 := NB658_653.out
       have hnb112 := NB653_668.out
       have hnc112 := NB668_653.out
       have hnb113 := NB653_669.out
       have hnc113 := NB669_653.out
       obtain ⟨hcz114_0, hfz114_0⟩ := Zy (v := (.slice A0 l0.length c0)) BK653.out 0
       have hnb115 := NB654_655.out
       have hnc115 := NB655_654.out
       have hnb116 := NB654_656.out
       have hnc116 := NB656_654.out
       have hnb117 := NB654_657.out
       have hnc117 := NB657_654.out
       have hnb118 := NB654_658.out
       have hnc118 := NB658_654.out
       have hnb119 := NB654_668.out
       have hnc119 := NB668_654.out
       have hnb120 := NB654_669.out
       have hnc120 := NB669_654.out
       obtain ⟨hcz121_0, hfz121_0⟩ := Zy (v := (.string a1_0)) BK654.out 0
       obtain ⟨hcz121_1, hfz121_1⟩ := Zy (v := (.string a1_1)) BK654.out 1
       have hnb122 := NB655_656.out
       have hnc122 := NB656_655.out
       have hnb123 := NB655_657.out
       have hnc123 := NB657_655.out
       have hnb124 := NB655_658.out
       have hnc124 := NB658_655.out
       have hnb125 := NB655_668.out
       have hnc125 := NB668_655.out
       have hnb126 := NB655_669.out
       have hnc126 := NB669_655.out
       obtain ⟨hcz127_0, hfz127_0⟩ := Zy (v := (.string a2)) BK655.out 0
       go_upto_if 26 with (first | ((with_reducible refine Qax (f := 47) rfl ?_); refine goesL_ (some 22) rfl rfl Try.func47 (by kernel_rfl) rfl #[.slice A0 l0.length c0, .agg #[.string a1_0, .string a1_1], .string a2, .int .i64 (wrap64 ((IntKind.u64.wrap (wrap64 (x305_1 + x306_1))) / 2))] rfl (Zl) ?_; (with_reducible refine (QaT.calls k1 _ _ l0 a1_0 a1_1 a2 (wrap64 ((IntKind.u64.wrap (wrap64 (x305_1 + x306_1))) / 2)) t671 t674 _ ?side1 ?side2 A106.out).mono ?_); (case side1 => exact Zv (Kd.C_below HR0.out HB.out)); (case side2 => exact HC0.out); rintro e w128 ⟨v672, rfl, ho0, hb⟩; refine ⟨_, rfl, ?_⟩; have HO673 := Aside0.mk (Kd.R_lower ho0 (Qan (Zc8 GE653.out GE654.out GE655.out GE656.out GE657.out GE658.out GE668.out GE669.out))); replace BK653 := Aside0.mk (Zi BK653.out hb); replace BK654 := Aside0.mk (Zi BK654.out hb); replace BK655 := Aside0.mk (Zi BK655.out hb); replace BK656 := Aside0.mk (Zi BK656.out hb); replace BK657 := Aside0.mk (Zi BK657.out hb); replace BK658 := Aside0.mk (Zi BK658.out hb); replace BK668 := Aside0.mk (Zi BK668.out hb); replace BK669 := Aside0.mk (Zi BK669.out hb); replace HB := Aside0.mk (Qao (Zc8 GE653.out GE654.out GE655.out GE656.out GE657.out GE658.out GE668.out GE669.out) hb); (try clear hb); (try clear hb2); (try clear hk); (try clear hi); (try clear ho0)))
       (try simp only [Act.put, Zj, Zk, Zm])
       by_cases c129 : t674 = 0
       ·rw [if_pos c129] at H
        have c129b0 : (t674 == 0) = T := beq_iff_eq.mpr c129
        have c129b1 : (t674 != 0) = F := bne_eq_false_iff_eq.mpr c129
        clear c129
        (try simp only [c129b0, c129b1])
        replace H := Option.bind_eq_some_iff.mp H
        obtain ⟨⟨t675, t676⟩, A1300, H⟩ := H
        replace H : (if t676 = 0 then (if t675 ≥ a3 then (QaF.l0 k1 (wrap64 ((wrap64 ((IntKind.u64.wrap (wrap64 (x305_1 + x306_1))) / 2)) + 1)) x306_1 l0 a1_0 a1_1 a2 a3 l4 l5) else (QaF.l0 k1 x305_1 (wrap64 ((IntKind.u64.wrap (wrap64 (x305_1 + x306_1))) / 2)) l0 a1_0 a1_1 a2 a3 l4 l5)) else (QaF.l0 k1 x305_1 (wrap64 ((IntKind.u64.wrap (wrap64 (x305_1 + x306_1))) / 2)) l0 a1_0 a1_1 a2 a3 l4 l5)) = some (r1, r2) := H
        have A130 := Aside0.mk A1300
        clear A1300
        have hnb131 := NB654_653.out
        have hnc131 := NB653_654.out
        have hnb132 := NB654_655.out
        have hnc132 := NB655_654.out
        have hnb133 := NB654_656.out
        have hnc133 := NB656_654.out
        have hnb134 := NB654_657.out
        have hnc134 := NB657_654.out
        have hnb135 := NB654_658.out
        have hnc135 := NB658_654.out
        have hnb136 := NB654_668.out
        have hnc136 := NB668_654.out
        have hnb137 := NB654_669.out
        have hnc137 := NB669_654.out
        obtain ⟨hcz138_0, hfz138_0⟩ := Zy (v := (.string a1_0)) BK654.out 0
        obtain ⟨hcz138_1, hfz138_1⟩ := Zy (v := (.string a1_1)) BK654.out 1
        have hnb139 := NB656_653.out
        have hnc139 := NB653_656.out
        have hnb140 := NB656_655.out
        have hnc140 := NB655_656.out
        have hnb141 := NB656_657.out
        have hnc141 := NB657_656.out
        have hnb142 := NB656_658.out
        have hnc142 := NB658_656.out
        have hnb143 := NB656_668.out
        have hnc143 := NB668_656.out
        have hnb144 := NB656_669.out
        have hnc144 := NB669_656.out
        obtain ⟨hcz145_0, hfz145_0⟩ := Zy (v := (.int .i64 a3)) BK656.out 0
        have hnb146 := NB657_653.out
        have hnc146 := NB653_657.out
        have hnb147 := NB657_655.out
        have hnc147 := NB655_657.out
        have hnb148 := NB657_658.out
        have hnc148 := NB658_657.out
        have hnb149 := NB657_668.out
        have hnc149 := NB668_657.out
        have hnb150 := NB657_669.out
        have hnc150 := NB669_657.out
        obtain ⟨hcz151_0, hfz151_0⟩ := Zy (v := (.slice A4 l4.length c4)) BK657.out 0
        have hnb152 := NB658_653.out
        have hnc152 := NB653_658.out
        have hnb153 := NB658_655.out
        have hnc153 := NB655_658.out
        have hnb154 := NB658_668.out
        have hnc154 := NB668_658.out
        have hnb155 := NB658_669.out
        have hnc155 := NB669_658.out
        obtain ⟨hcz156_0, hfz156_0⟩ := Zy (v := (.slice A5 l5.length c5)) BK658.out 0
        obtain ⟨Ao157, co157, eo157⟩ := Kd.R_slice HO673.out
        subst eo157
        go_upto_region 8 with (first | ((with_reducible refine Qax (f := 30) rfl ?_); refine goesL_ (some 34) rfl rfl Try.func30 (by kernel_rfl) rfl #[.slice Ao157 t671.length co157, .agg #[.string a1_0, .string a1_1], .int .i64 a3, .slice A4 l4.length c4, .slice A5 l5.length c5] rfl (Zl) ?_; (with_reducible refine (Qa9.calls k1 _ _ t671 a1_0 a1_1 a3 _ _ l4 _ _ l5 t675 t676 _ ?side1 ?side2 ?side3 ?side4 ?side5 ?side6 A130.out).mono ?_); (case side1 => exact Zv (Kd.R_reads' HO673.out).2.2); (case side2 => exact (Kd.R_reads' HO673.out).2.1); (case side3 => exact Zv (Kd.C_below HR4.out HB.out)); (case side4 => exact HC4.out); (case side5 => exact Zv (Kd.C_below HR5.out HB.out)); (case side6 => exact HC5.out); rintro e w158 ⟨rfl, hb⟩; refine ⟨_, rfl, ?_⟩; replace HO673 := Aside0.mk (Kd.R_below (Zr HO673.out) hb); replace BK653 := Aside0.mk (Zi BK653.out hb); replace BK654 := Aside0.mk (Zi BK654.out hb); replace BK655 := Aside0.mk (Zi BK655.out hb); replace BK656 := Aside0.mk (Zi BK656.out hb); replace BK657 := Aside0.mk (Zi BK657.out hb); replace BK658 := Aside0.mk (Zi BK658.out hb); replace BK668 := Aside0.mk (Zi BK668.out hb); replace BK669 := Aside0.mk (Zi BK669.out hb); replace HB := Aside0.mk (Qao (Zc8 GE653.out GE654.out GE655.out GE656.out GE657.out GE658.out GE668.out GE669.out) hb); (try clear hb); (try clear hb2); (try clear hk); (try clear hi)))
        (try simp only [Act.put, Zj, Zk, Zm])
        by_cases c159 : t676 = 0
        ·rw [if_pos c159] at H
         have c159b0 : (t676 == 0) = T := beq_iff_eq.mpr c159
         have c159b1 : (t676 != 0) = F := bne_eq_false_iff_eq.mpr c159
         clear c159
         (try simp only [c159b0, c159b1])
         have hnb160 := NB656_653.out
         have hnc160 := NB653_656.out
         have hnb161 := NB656_654.out
         have hnc161 := NB654_656.out
         have hnb162 := NB656_655.out
         have hnc162 := NB655_656.out
         have hnb163 := NB656_657.out
         have hnc163 := NB657_656.out
         have hnb164 := NB656_658.out
         have hnc164 := NB658_656.out
         have hnb165 := NB656_668.out
         have hnc165 := NB668_656.out
         have hnb166 := NB656_669.out
         have hnc166 := NB669_656.out
         obtain ⟨hcz167_0, hfz167_0⟩ := Zy (v := (.int .i64 a3)) BK656.out 0
         go_upto_if 21 with (fail)
         by_cases c168 : t675 ≥ a3
         ·rw [if_pos c168] at H
          have c168b0 : decide (a3 ≤ t675) = T := decide_eq_true c168
          clear c168
          (try simp only [c168b0])
          have H' := Aside0.mk H
          clear H
          go_wp2
          go_roundg k1
          case measure => have := HK1.out; omega
          case rel => exact ⟨(wrap64 ((wrap64 ((IntKind.u64.wrap (wrap64 (x305_1 + x306_1))) / 2)) + 1)), (x306_1), (Zs), (Zs), H', ⟨by have := HK1.out; omega⟩, ⟨Zu BK653.out⟩, ⟨Zu BK654.out⟩, ⟨Zu BK655.out⟩, ⟨Zu BK656.out⟩, ⟨Zu BK657.out⟩, ⟨Zu BK658.out⟩, ⟨Zu BK668.out⟩, ⟨Zu BK669.out⟩, ⟨Zc8 GE653.out GE654.out GE655.out GE656.out GE657.out GE658.out GE668.out GE669.out⟩⟩
         rw [if_neg c168] at H
         have c168b0 : decide (a3 ≤ t675) = F := decide_eq_false c168
         clear c168
         (try simp only [c168b0])
         have H' := Aside0.mk H
         clear H
         go_wp2
         go_roundg k1
         case measure => have := HK1.out; omega
         case rel => exact ⟨(x305_1), (wrap64 ((IntKind.u64.wrap (wrap64 (x305_1 + x306_1))) / 2)), (Zs), (Zs), H', ⟨by have := HK1.out; omega⟩, ⟨Zu BK653.out⟩, ⟨Zu BK654.out⟩, ⟨Zu BK655.out⟩, ⟨Zu BK656.out⟩, ⟨Zu BK657.out⟩, ⟨Zu BK658.out⟩, ⟨Zu BK668.out⟩, ⟨Zu BK669.out⟩, ⟨Zc8 GE653.out GE654.out GE655.out GE656.out GE657.out GE658.out GE668.out GE669.out⟩⟩
        rw [if_neg c159] at H
        have c159b0 : (t676 == 0) = F := beq_eq_false_iff_ne.mpr c159
        have c159b1 : (t676 != 0) = T := bne_iff_ne.mpr c159
        (try simp only [c159b0, c159b1])
        have H' := Aside0.mk H
        clear H
        go_wp2
        go_roundg k1
        case measure => have := HK1.out; omega
        case rel => exact ⟨(x305_1), (wrap64 ((IntKind.u64.wrap (wrap64 (x305_1 + x306_1))) / 2)), (Zs), (Zs), H', ⟨by have := HK1.out; omega⟩, ⟨Zu BK653.out⟩, ⟨Zu BK654.out⟩, ⟨Zu BK655.out⟩, ⟨Zu BK656.out⟩, ⟨Zu BK657.out⟩, ⟨Zu BK658.out⟩, ⟨Zu BK668.out⟩, ⟨Zu BK669.out⟩, ⟨Zc8 GE653.out GE654.out GE655.out GE656.out GE657.out GE658.out GE668.out GE669.out⟩⟩
       rw [if_neg c129] at H
       have c129b0 : (t674 == 0) = F := beq_eq_false_iff_ne.mpr c129
       have c129b1 : (t674 != 0) = T := bne_iff_ne.mpr c129
       (try simp only [c129b0, c129b1])
       go_upto_region 6 with (fail)
       have H' := Aside0.mk H
       clear H
       go_wp2
       go_roundg k1
       case measure => have := HK1.out; omega
       case rel => exact ⟨(x305_1), (wrap64 ((IntKind.u64.wrap (wrap64 (x305_1 + x306_1))) / 2)), (Zs), (Zs), H', ⟨by have := HK1.out; omega⟩, ⟨Zu BK653.out⟩, ⟨Zu BK654.out⟩, ⟨Zu BK655.out⟩, ⟨Zu BK656.out⟩, ⟨Zu BK657.out⟩, ⟨Zu BK658.out⟩, ⟨Zu BK668.out⟩, ⟨Zu BK669.out⟩, ⟨Zc8 GE653.out GE654.out GE655.out GE656.out GE657.out GE658.out GE668.out GE669.out⟩⟩
      rw [if_neg c105] at H
      have c105b0 : decide (0 < (wrap64 ((IntKind.u64.wrap (wrap64 (x305_1 + x306_1))) / 2))) = F := decide_eq_false c105
      clear c105
      (try simp only [c105b0])
      replace H := Option.bind_eq_some_iff.mp H
      obtain ⟨⟨t677, t678⟩, A1690, H⟩ := H
      replace H : (if t678 = 0 then (if t677 ≥ a3 then (QaF.l0 k1 (wrap64 ((wrap64 ((IntKind.u64.wrap (wrap64 (x305_1 + x306_1))) / 2)) + 1)) x306_1 l0 a1_0 a1_1 a2 a3 l4 l5) else (QaF.l0 k1 x305_1 (wrap64 ((IntKind.u64.wrap (wrap64 (x305_1 + x306_1))) / 2)) l0 a1_0 a1_1 a2 a3 l4 l5)) else (QaF.l0 k1 x305_1 (wrap64 ((IntKind.u64.wrap (wrap64 (x305_1 + x306_1))) / 2)) l0 a1_0 a1_1 a2 a3 l4 l5)) = some (r1, r2) := H
      have A169 := Aside0.mk A1690
      clear A1690
      have hnb170 := NB654_653.out
      have hnc170 := NB653_654.out
      have hnb171 := NB654_655.out
      have hnc171 := NB655_654.out
      have hnb172 := NB654_656.out
      have hnc172 := NB656_654.out
      have hnb173 := NB654_657.out
      have hnc173 := NB657_654.out
      have hnb174 := NB654_658.out
      have hnc174 := NB658_654.out
      have hnb175 := NB654_668.out
      have hnc175 := NB668_654.out
      have hnb176 := NB654_669.out
      have hnc176 := NB669_654.out
      obtain ⟨hcz177_0, hfz177_0⟩ := Zy (v := (.string a1_0)) BK654.out 0
      obtain ⟨hcz177_1, hfz177_1⟩ := Zy (v := (.string a1_1)) BK654.out 1
      have hnb178 := NB656_653.out
      have hnc178 := NB653_656.out
      have hnb179 := NB656_655.out
      have hnc179 := NB655_656.out
      have hnb180 := NB656_657.out
      have hnc180 := NB657_656.out
      have hnb181 := NB656_658.out
      have hnc181 := NB658_656.out
      have hnb182 := NB656_668.out
      have hnc182 := NB668_656.out
      have hnb183 := NB656_669.out
      have hnc183 := NB669_656.out
      obtain ⟨hcz184_0, hfz184_0⟩ := Zy (v := (.int .i64 a3)) BK656.out 0
      have hnb185 := NB657_653.out
      have hnc185 := NB653_657.out
      have hnb186 := NB657_655.out
      have hnc186 := NB655_657.out
      have hnb187 := NB657_658.out
      have hnc187 := NB658_657.out
      have hnb188 := NB657_668.out
      have hnc188 := NB668_657.out
      have hnb189 := NB657_669.out
      have hnc189 := NB669_657.out
      obtain ⟨hcz190_0, hfz190_0⟩ := Zy (v := (.slice A4 l4.length c4)) BK657.out 0
      have hnb191 := NB658_653.out
      have hnc191 := NB653_658.out
      have hnb192 := NB658_655.out
      have hnc192 := NB655_658.out
      have hnb193 := NB658_668.out
      have hnc193 := NB668_658.out
      have hnb194 := NB658_669.out
      have hnc194 := NB669_658.out
      obtain ⟨hcz195_0, hfz195_0⟩ := Zy (v := (.slice A5 l5.length c5)) BK658.out 0
      go_upto_region 8 with (first | ((with_reducible refine Qax (f := 30) rfl ?_); refine goesL_ (some 34) rfl rfl Try.func30 (by kernel_rfl) rfl #[.slice A0 l0.length c0, .agg #[.string a1_0, .string a1_1], .int .i64 a3, .slice A4 l4.length c4, .slice A5 l5.length c5] rfl (Zl) ?_; (with_reducible refine (Qa9.calls k1 _ _ l0 a1_0 a1_1 a3 _ _ l4 _ _ l5 t677 t678 _ ?side1 ?side2 ?side3 ?side4 ?side5 ?side6 A169.out).mono ?_); (case side1 => exact Zv (Kd.C_below HR0.out HB.out)); (case side2 => exact HC0.out); (case side3 => exact Zv (Kd.C_below HR4.out HB.out)); (case side4 => exact HC4.out); (case side5 => exact Zv (Kd.C_below HR5.out HB.out)); (case side6 => exact HC5.out); rintro e w196 ⟨rfl, hb⟩; refine ⟨_, rfl, ?_⟩; replace BK653 := Aside0.mk (Zi BK653.out hb); replace BK654 := Aside0.mk (Zi BK654.out hb); replace BK655 := Aside0.mk (Zi BK655.out hb); replace BK656 := Aside0.mk (Zi BK656.out hb); replace BK657 := Aside0.mk (Zi BK657.out hb); replace BK658 := Aside0.mk (Zi BK658.out hb); replace BK668 := Aside0.mk (Zi BK668.out hb); replace BK669 := Aside0.mk (Zi BK669.out hb); replace HB := Aside0.mk (Qao (Zc8 GE653.out GE654.out GE655.out GE656.out GE657.out GE658.out GE668.out GE669.out) hb); (try clear hb); (try clear hb2); (try clear hk); (try clear hi)))
      (try simp only [Act.put, Zj, Zk, Zm])
      by_cases c197 : t678 = 0
      ·rw [if_pos c197] at H
       have c197b0 : (t678 == 0) = T := beq_iff_eq.mpr c197
       have c197b1 : (t678 != 0) = F := bne_eq_false_iff_eq.mpr c197
       clear c197
       (try simp only [c197b0, c197b1])
       have hnb198 := NB656_653.out
       have hnc198 := NB653_656.out
       have hnb199 := NB656_654.out
       have hnc199 := NB654_656.out
       have hnb200 := NB656_655.out
       have hnc200 := NB655_656.out
       have hnb201 := NB656_657.out
       have hnc201 := NB657_656.out
       have hnb202 := NB656_658.out
       have hnc202 := NB658_656.out
       have hnb203 := NB656_668.out
       have hnc203 := NB668_656.out
       have hnb204 := NB656_669.out
       have hnc204 := NB669_656.out
       obtain ⟨hcz205_0, hfz205_0⟩ := Zy (v := (.int .i64 a3)) BK656.out 0
       go_upto_if 21 with (fail)
       by_cases c206 : t677 ≥ a3
       ·rw [if_pos c206] at H
        have c206b0 : decide (a3 ≤ t677) = T := decide_eq_true c206
        clear c206
        (try simp only [c206b0])
        have H' := Aside0.mk H
        clear H
        go_wp2
        go_roundg k1
        case measure => have := HK1.out; omega
        case rel => exact ⟨(wrap64 ((wrap64 ((IntKind.u64.wrap (wrap64 (x305_1 + x306_1))) / 2)) + 1)), (x306_1), (Zs), (Zs), H', ⟨by have := HK1.out; omega⟩, ⟨Zu BK653.out⟩, ⟨Zu BK654.out⟩, ⟨Zu BK655.out⟩, ⟨Zu BK656.out⟩, ⟨Zu BK657.out⟩, ⟨Zu BK658.out⟩, ⟨Zu BK668.out⟩, ⟨Zu BK669.out⟩, ⟨Zc8 GE653.out GE654.out GE655.out GE656.out GE657.out GE658.out GE668.out GE669.out⟩⟩
       rw [if_neg c206] at H
       have c206b0 : decide (a3 ≤ t677) = F := decide_eq_false c206
       clear c206
       (try simp only [c206b0])
       have H' := Aside0.mk H
       clear H
       go_wp2
       go_roundg k1
       case measure => have := HK1.out; omega
       case rel => exact ⟨(x305_1), (wrap64 ((IntKind.u64.wrap (wrap64 (x305_1 + x306_1))) / 2)), (Zs), (Zs), H', ⟨by have := HK1.out; omega⟩, ⟨Zu BK653.out⟩, ⟨Zu BK654.out⟩, ⟨Zu BK655.out⟩, ⟨Zu BK656.out⟩, ⟨Zu BK657.out⟩, ⟨Zu BK658.out⟩, ⟨Zu BK668.out⟩, ⟨Zu BK669.out⟩, ⟨Zc8 GE653.out GE654.out GE655.out GE656.out GE657.out GE658.out GE668.out GE669.out⟩⟩
      rw [if_neg c197] at H
      have c197b0 : (t678 == 0) = F := beq_eq_false_iff_ne.mpr c197
      have c197b1 : (t678 != 0) = T := bne_iff_ne.mpr c197
      (try simp only [c197b0, c197b1])
      go_upto_region 6 with (fail)
      have H' := Aside0.mk H
      clear H
      go_wp2
      go_roundg k1
      case measure => have := HK1.out; omega
      case rel => exact ⟨(x305_1), (wrap64 ((IntKind.u64.wrap (wrap64 (x305_1 + x306_1))) / 2)), (Zs), (Zs), H', ⟨by have := HK1.out; omega⟩, ⟨Zu BK653.out⟩, ⟨Zu BK654.out⟩, ⟨Zu BK655.out⟩, ⟨Zu BK656.out⟩, ⟨Zu BK657.out⟩, ⟨Zu BK658.out⟩, ⟨Zu BK668.out⟩, ⟨Zu BK669.out⟩, ⟨Zc8 GE653.out GE654.out GE655.out GE656.out GE657.out GE658.out GE668.out GE669.out⟩⟩
     rw [if_neg c89] at H
     have c89b0 : decide (x305_1 < x306_1) = F := decide_eq_false c89
     clear c89
     (try simp only [c89b0])
     go_upto_region 10 with (fail)
     obtain ⟨ji207, hji207⟩ : ∃ j_ : Int, (mx (wrap64 (x305_1 - 1)) 0) = j_ := ⟨_, rfl⟩
     replace H : (some (ji207, 0)) = some (r1, r2) := by first | (rw [hji207] at H; exact H) | (simp only [hji207] at H ⊢; exact H)
     have hji207_ : (if (wrap64 (x305_1 - 1)) < 0 then 0 else (wrap64 (x305_1 - 1))) = ji207 := hji207
     simp only [Option.some.injEq, Prod.mk.injEq] at H
     obtain ⟨rfl, rfl⟩ := H
     go_wp2
     go_ret2
     exact ⟨by first | rfl | (simp [Qal, Qam] <;> rfl) | (simp only [← hji207]; first | rfl | (simp [Qal, Qam] <;> rfl)) | (simp [*, Qal, Qam] <;> rfl), Zc8 GE653.out GE654.out GE655.out GE656.out GE657.out GE658.out GE668.out GE669.out⟩
  replace c58 := Bool.eq_false_iff.mpr c58
  subst c58
  have H1 : (some (0, 11)) = some (r1, r2) := by rw [if_neg (show ¬ (F = T) by decide)] at H; exact H
  clear H
  have H := H1
  clear H1
  simp only [Option.some.injEq, Prod.mk.injEq] at H
  obtain ⟨rfl, rfl⟩ := H
  go_wp2
  go_ret2
  exact ⟨Zq, Zc7 GE653.out GE654.out GE655.out GE656.out GE657.out GE658.out GE668.out⟩
 rw [if_neg c35] at H
 have c35b0 : (t660 == 0) = F := beq_eq_false_iff_ne.mpr c35
 have c35b1 : (t660 != 0) = T := bne_iff_ne.mpr c35
 (try simp only [c35b0, c35b1])
 simp only [Option.some.injEq, Prod.mk.injEq] at H
 obtain ⟨rfl, rfl⟩ := H
 go_wp2
 go_ret2
 exact ⟨Zq, Zc6 GE653.out GE654.out GE655.out GE656.out GE657.out GE658.out⟩
def QaN.f (k : Nat) (a0_0 : ByteArray) (a0_1 : ByteArray) (a0_2 : Int) (a0_3 : Int) (a0_4 : Int) (a0_5 : Int) (a0_6 : Int) (a0_7 : Int) (a0_8 : Int) (l0_9 : List (S46)) (l0_10 : List (S84)) (l0_11 : List (S98)) (a0_12 : ByteArray) (l1 : List (S46)) : Option (ByteArray × ByteArray × Int × Int × Int × Bool) := (QaU.f k (([(⟨(⟨a0_0, a0_1⟩ : S44), a0_2, a0_3, a0_4, a0_5, a0_6, a0_7, a0_8⟩ : S48)] : List (S48))) l1 l0_10 l0_11).bind fun bt945 => (if bt945.2 = 0 then (if (bt945.1.length : Int) = 1 then (if 0 < (bt945.1.length : Int) then (some ((rd_T50 bt945.1 0).f0.f0, (rd_T50 bt945.1 0).f0.f1, (rd_T50 bt945.1 0).f1, (rd_T50 bt945.1 0).f2, (rd_T50 bt945.1 0).f3, T)) else (none)) else (some ((⟨#[]⟩ : ByteArray), (⟨#[]⟩ : ByteArray), 0, 0, 0, F))) else (some ((⟨#[]⟩ : ByteArray), (⟨#[]⟩ : ByteArray), 0, 0, 0, F)))
theorem QaN.mono : ∀ a0 a1 a2 a3 a4 a5 a6 a7 a8 a9 a10 a11 a12 a13 k, LeO (QaN.f k a0 a1 a2 a3 a4 a5 a6 a7 a8 a9 a10 a11 a12 a13) (QaN.f (k + 1) a0 a1 a2 a3 a4 a5 a6 a7 a8 a9 a10 a11 a12 a13) := by
 intro a0 a1 a2 a3 a4 a5 a6 a7 a8 a9 a10 a11 a12 a13 k
 unfold QaN.f
 exact ZM1 QaU.mono
theorem QaN.calls (k : Nat) (a0_0 : ByteArray) (a0_1 : ByteArray) (a0_2 : Int) (a0_3 : Int) (a0_4 : Int) (a0_5 : Int) (a0_6 : Int) (a0_7 : Int) (a0_8 : Int) (A0_9 : Option Addr) (c0_9 : Nat) (l0_9 : List (S46)) (A0_10 : Option Addr) (c0_10 : Nat) (l0_10 : List (S84)) (A0_11 : Option Addr) (c0_11 : Nat) (l0_11 : List (S98)) (a0_12 : ByteArray) (A1 : Option Addr) (c1 : Nat) (l1 : List (S46)) (r1 : ByteArray) (r2 : ByteArray) (r3 : Int) (r4 : Int) (r5 : Int) (r6 : Bool) (w : World) (hr0_9 : Kd.C k46 w A0_9 l0_9.length l0_9) (hc0_9 : l0_9.length ≤ c0_9) (hr0_10 : Kd.C k84 w A0_10 l0_10.length l0_10) (hc0_10 : l0_10.length ≤ c0_10) (hr0_11 : Kd.C k98 w A0_11 l0_11.length l0_11) (hc0_11 : l0_11.length ≤ c0_11) (hr1 : Kd.C k46 w A1 l1.length l1) (hc1 : l1.length ≤ c1) (h : QaN.f k a0_0 a0_1 a0_2 a0_3 a0_4 a0_5 a0_6 a0_7 a0_8 l0_9 l0_10 l0_11 a0_12 l1 = some (r1, r2, r3, r4, r5, r6)) :
  Calls Try.prog 45 #[.agg #[.string a0_0, .string a0_1, .int .i64 a0_2, .int .i64 a0_3, .int .i64 a0_4, .int .i64 a0_5, .int .i64 a0_6, .int .i64 a0_7, .int .i64 a0_8, .slice A0_9 l0_9.length c0_9, .slice A0_10 l0_10.length c0_10, .slice A0_11 l0_11.length c0_11, .string a0_12], .slice A1 l1.length c1] w fun e w' => e = .returned (.tuple #[.agg #[.string r1, .string r2, .int .i64 r3, .int .i64 r4, .int .i64 r5], .bool r6]) ∧ Below w.heap.size w w' := by
 have hu89 := Try.underlying89
 have hu50 := Try.underlying50
 have hu48 := Try.underlying48
 have HR0_9 := Aside0.mk hr0_9
 have HC0_9 := Aside0.mk hc0_9
 clear hr0_9 hc0_9
 have HR0_10 := Aside0.mk hr0_10
 have HC0_10 := Aside0.mk hc0_10
 clear hr0_10 hc0_10
 have HR0_11 := Aside0.mk hr0_11
 have HC0_11 := Aside0.mk hc0_11
 clear hr0_11 hc0_11
 have HR1 := Aside0.mk hr1
 have HC1 := Aside0.mk hc1
 clear hr1 hc1
 have HB := Aside0.mk (Below.refl w.heap.size w)
 have H : ((QaU.f k (([(⟨(⟨a0_0, a0_1⟩ : S44), a0_2, a0_3, a0_4, a0_5, a0_6, a0_7, a0_8⟩ : S48)] : List (S48))) l1 l0_10 l0_11).bind fun bt945 => (if bt945.2 = 0 then (if (bt945.1.length : Int) = 1 then (if 0 < (bt945.1.length : Int) then (some ((rd_T50 bt945.1 0).f0.f0, (rd_T50 bt945.1 0).f0.f1, (rd_T50 bt945.1 0).f1, (rd_T50 bt945.1 0).f2, (rd_T50 bt945.1 0).f3, T)) else (none)) else (some ((⟨#[]⟩ : ByteArray), (⟨#[]⟩ : ByteArray), 0, 0, 0, F))) else (some ((⟨#[]⟩ : ByteArray), (⟨#[]⟩ : ByteArray), 0, 0, 0, F)))) = some (r1, r2, r3, r4, r5, r6) := h
 clear h
 obtain ⟨y942, hy942⟩ : ∃ y_ : List (S48), y_ = (([(⟨(⟨a0_0, a0_1⟩ : S44), a0_2, a0_3, a0_4, a0_5, a0_6, a0_7, a0_8⟩ : S48)] : List (S48))) := ⟨_, rfl⟩
 replace H : ((QaU.f k y942 l1 l0_10 l0_11).bind fun bt945 => (if bt945.2 = 0 then (if (bt945.1.length : Int) = 1 then (if 0 < (bt945.1.length : Int) then (some ((rd_T50 bt945.1 0).f0.f0, (rd_T50 bt945.1 0).f0.f1, (rd_T50 bt945.1 0).f1, (rd_T50 bt945.1 0).f2, (rd_T50 bt945.1 0).f3, T)) else (none)) else (some ((⟨#[]⟩ : ByteArray), (⟨#[]⟩ : ByteArray), 0, 0, 0, F))) else (some ((⟨#[]⟩ : ByteArray), (⟨#[]⟩ : ByteArray), 0, 0, 0, F)))) = some (r1, r2, r3, r4, r5, r6) := by first | (rw [hy942]; with_reducible exact H) | (have H2_ := (Option.bind_some _ _).symm.trans H; rw [hy942]; with_reducible exact H2_) | (have H2_ := (Option.bind_some _ _).symm.trans H; with_reducible exact H2_) | with_reducible exact H | (rw [hy942]; exact H) | exact H
 have Ny942 := Aside0.mk hy942
 clear hy942
 replace H := Option.bind_eq_some_iff.mp H
 obtain ⟨⟨t945, t946⟩, A30, H⟩ := H
 replace H : (if t946 = 0 then (if (t945.length : Int) = 1 then (if 0 < (t945.length : Int) then (some ((rd_T50 t945 0).f0.f0, (rd_T50 t945 0).f0.f1, (rd_T50 t945 0).f1, (rd_T50 t945 0).f2, (rd_T50 t945 0).f3, T)) else (none)) else (some ((⟨#[]⟩ : ByteArray), (⟨#[]⟩ : ByteArray), 0, 0, 0, F))) else (some ((⟨#[]⟩ : ByteArray), (⟨#[]⟩ : ByteArray), 0, 0, 0, F))) = some (r1, r2, r3, r4, r5, r6) := H
 have A3 := Aside0.mk A30
 clear A30
 go_enter Try.func45, Try.ntmps45
 go_upto_region 2 with (first | ((with_reducible refine QaD (N := 2) rfl ?_); (try (refine Qbg (by rfl) ?_; dsimp only)); refine Zbx (N := 2) (cs := #[.string a0_0, .string a0_1, .int .i64 a0_2, .int .i64 a0_3, .int .i64 a0_4, .int .i64 a0_5, .int .i64 a0_6, .int .i64 a0_7, .int .i64 a0_8, .slice A0_9 l0_9.length c0_9, .slice A0_10 l0_10.length c0_10, .slice A0_11 l0_11.length c0_11, .string a0_12]) (t := 89) ?_; intro gb940 hg w4 hbox hb; have BK940 := Aside0.mk (hbox); have GW940 := Aside0.mk (Zt w hg (Zb)); have GE940 := GW940; replace HB := Aside0.mk (Qao (Zb) hb); clear hb hbox hg) | ((with_reducible refine QaD (N := 4) rfl ?_); (try (refine Qbg (by rfl) ?_; dsimp only)); refine Zbx (N := 4) (cs := #[.string (⟨#[]⟩ : ByteArray), .string (⟨#[]⟩ : ByteArray), .int .i64 0, .int .i64 0, .int .i64 0]) (t := 50) ?_; intro gb941 hg w5 hbox hb; have BK941 := Aside0.mk (hbox); have GW941 := Aside0.mk (Zt w hg (Zc1 GE940.out)); have GE941 := GW941; have NB940_941 := Aside0.mk (Zn hg BK940.out); have NB941_940 := Aside0.mk NB940_941.out.symm; replace BK940 := Aside0.mk (Zi BK940.out hb); replace HB := Aside0.mk (Qao (Zc1 GE940.out) hb); clear hb hbox hg; have hnb6 := NB940_941.out; have hnc6 := NB941_940.out; obtain ⟨hcz7_0, hfz7_0⟩ := Zy (v := (.string a0_0)) BK940.out 0; obtain ⟨hcz7_1, hfz7_1⟩ := Zy (v := (.string a0_1)) BK940.out 1; obtain ⟨hcz7_2, hfz7_2⟩ := Zy (v := (.int .i64 a0_2)) BK940.out 2; obtain ⟨hcz7_3, hfz7_3⟩ := Zy (v := (.int .i64 a0_3)) BK940.out 3; obtain ⟨hcz7_4, hfz7_4⟩ := Zy (v := (.int .i64 a0_4)) BK940.out 4; obtain ⟨hcz7_5, hfz7_5⟩ := Zy (v := (.int .i64 a0_5)) BK940.out 5; obtain ⟨hcz7_6, hfz7_6⟩ := Zy (v := (.int .i64 a0_6)) BK940.out 6; obtain ⟨hcz7_7, hfz7_7⟩ := Zy (v := (.int .i64 a0_7)) BK940.out 7; obtain ⟨hcz7_8, hfz7_8⟩ := Zy (v := (.int .i64 a0_8)) BK940.out 8; obtain ⟨hcz7_9, hfz7_9⟩ := Zy (v := (.slice A0_9 l0_9.length c0_9)) BK940.out 9; obtain ⟨hcz7_10, hfz7_10⟩ := Zy (v := (.slice A0_10 l0_10.length c0_10)) BK940.out 10; obtain ⟨hcz7_11, hfz7_11⟩ := Zy (v := (.slice A0_11 l0_11.length c0_11)) BK940.out 11; obtain ⟨hcz7_12, hfz7_12⟩ := Zy (v := (.string a0_12)) BK940.out 12) | ((with_reducible refine QaD (N := 11) rfl ?_); (try (refine Qbg (by rfl) ?_; dsimp only)); refine Kd.R_lit k48 _ 48 ?hg (N := 11) ?hd (xs := ([(⟨(⟨a0_0, a0_1⟩ : S44), a0_2, a0_3, a0_4, a0_5, a0_6, a0_7, a0_8⟩ : S48)] : List (S48))) (inner := [.string a0_0, .string a0_1, .int .i64 a0_2, .int .i64 a0_3, .int .i64 a0_4, .int .i64 a0_5, .int .i64 a0_6, .int .i64 a0_7, .int .i64 a0_8]) (ok := fun _ => True) (okp := fun _ => True) ?hr ?hp (fun _ hk => hk) trivial (Below.refl _ _) (Nat.le_refl _) (by simp) ?_; (case hd => rfl); (case hg => rfl); (case hr => first | (go_simp; done) | (go_simp; rfl)); (case hp => exact (Reps.c9 (show Kd.M k48 _ _ _ (⟨(⟨a0_0, a0_1⟩ : S44), a0_2, a0_3, a0_4, a0_5, a0_6, a0_7, a0_8⟩ : S48) [.string a0_0, .string a0_1, .int .i64 a0_2, .int .i64 a0_3, .int .i64 a0_4, .int .i64 a0_5, .int .i64 a0_6, .int .i64 a0_7, .int .i64 a0_8] from (Qc0 _ _ _ (⟨(⟨a0_0, a0_1⟩ : S44), a0_2, a0_3, a0_4, a0_5, a0_6, a0_7, a0_8⟩ : S48) )) (Reps.none _ _))); intro v943 w8 ho9 hb hg_ hnew_; clear hg_ hnew_; (first | rw [← Ny942.out] at ho9 | (simp only [Int.reduceToNat] at ho9; rw [← Ny942.out] at ho9)); have HO944 := Aside0.mk (Kd.R_lower ho9 (Qan (Zc2 GE940.out GE941.out))); replace BK940 := Aside0.mk (Zi BK940.out hb); replace BK941 := Aside0.mk (Zi BK941.out hb); replace HB := Aside0.mk (Qao (Zc2 GE940.out GE941.out) hb); clear hb ho9; obtain ⟨hcz10_0, hfz10_0⟩ := Zy (v := (.string a0_0)) BK940.out 0; obtain ⟨hcz10_1, hfz10_1⟩ := Zy (v := (.string a0_1)) BK940.out 1; obtain ⟨hcz10_2, hfz10_2⟩ := Zy (v := (.int .i64 a0_2)) BK940.out 2; obtain ⟨hcz10_3, hfz10_3⟩ := Zy (v := (.int .i64 a0_3)) BK940.out 3; obtain ⟨hcz10_4, hfz10_4⟩ := Zy (v := (.int .i64 a0_4)) BK940.out 4; obtain ⟨hcz10_5, hfz10_5⟩ := Zy (v := (.int .i64 a0_5)) BK940.out 5; obtain ⟨hcz10_6, hfz10_6⟩ := Zy (v := (.int .i64 a0_6)) BK940.out 6; obtain ⟨hcz10_7, hfz10_7⟩ := Zy (v := (.int .i64 a0_7)) BK940.out 7; obtain ⟨hcz10_8, hfz10_8⟩ := Zy (v := (.int .i64 a0_8)) BK940.out 8; obtain ⟨hcz10_9, hfz10_9⟩ := Zy (v := (.slice A0_9 l0_9.length c0_9)) BK940.out 9; obtain ⟨hcz10_10, hfz10_10⟩ := Zy (v := (.slice A0_10 l0_10.length c0_10)) BK940.out 10; obtain ⟨hcz10_11, hfz10_11⟩ := Zy (v := (.slice A0_11 l0_11.length c0_11)) BK940.out 11; obtain ⟨hcz10_12, hfz10_12⟩ := Zy (v := (.string a0_12)) BK940.out 12; obtain ⟨Ao11, co11, eo11⟩ := Kd.R_slice HO944.out; subst eo11) | ((with_reducible refine Qax (f := 18) rfl ?_); refine goesL_ (some 17) rfl rfl Try.func18 (by kernel_rfl) rfl #[.slice Ao11 y942.length co11, .slice A1 l1.length c1, .slice A0_10 l0_10.length c0_10, .slice A0_11 l0_11.length c0_11] rfl (Zl) ?_; (with_reducible refine (QaU.calls k _ _ y942 _ _ l1 _ _ l0_10 _ _ l0_11 t945 t946 _ ?side1 ?side2 ?side3 ?side4 ?side5 ?side6 ?side7 ?side8 A3.out).mono ?_); (case side1 => exact Zv (Kd.R_reads' HO944.out).2.2); (case side2 => exact (Kd.R_reads' HO944.out).2.1); (case side3 => exact Zv (Kd.C_below HR1.out HB.out)); (case side4 => exact HC1.out); (case side5 => exact Zv (Kd.C_below HR0_10.out HB.out)); (case side6 => exact HC0_10.out); (case side7 => exact Zv (Kd.C_below HR0_11.out HB.out)); (case side8 => exact HC0_11.out); rintro e w12 ⟨v947, rfl, ho0, hb⟩; refine ⟨_, rfl, ?_⟩; have HO948 := Aside0.mk (Kd.R_lower (Kd.R_newB ho0 (g := gb941) (o := .cells #[.string (⟨#[]⟩ : ByteArray), .string (⟨#[]⟩ : ByteArray), .int .i64 0, .int .i64 0, .int .i64 0] 50 (0, 0)) (Zu BK941.out)) (Qan (Zc2 GE940.out GE941.out))); replace HO944 := Aside0.mk (Kd.R_below (Zr HO944.out) hb); replace BK940 := Aside0.mk (Zi BK940.out hb); replace BK941 := Aside0.mk (Zi BK941.out hb); replace HB := Aside0.mk (Qao (Zc2 GE940.out GE941.out) hb); (try clear hb); (try clear hb2); (try clear hk); (try clear hi); (try clear ho0)))
 (try simp only [Act.put, Zj, Zk, Zm])
 by_cases c13 : t946 = 0
 ·rw [if_pos c13] at H
  have c13b0 : (t946 == 0) = T := beq_iff_eq.mpr c13
  have c13b1 : (t946 != 0) = F := bne_eq_false_iff_eq.mpr c13
  clear c13
  (try simp only [c13b0, c13b1])
  obtain ⟨Ao14, co14, eo14⟩ := Kd.R_slice HO948.out
  subst eo14
  go_upto_if 26 with (fail)
  by_cases c15 : (t945.length : Int) = 1
  ·rw [if_pos c15] at H
   have c15b0 : ((t945.length : Int) == 1) = T := beq_iff_eq.mpr c15
   have c15b1 : ((t945.length : Int) != 1) = F := bne_eq_false_iff_eq.mpr c15
   clear c15
   (try simp only [c15b0, c15b1])
   by_cases c16 : 0 < (t945.length : Int)
   ·rw [if_pos c16] at H
    have c16b0 : decide (0 < (t945.length : Int)) = T := decide_eq_true c16
    have c16b1 : decide (0 < t945.length) = T := decide_eq_true (by omega)
    clear c16
    simp only [Option.some.injEq, Prod.mk.injEq] at H
    obtain ⟨rfl, rfl, rfl, rfl, rfl, rfl⟩ := H
    have p949 : 0 ≤ (0 : Int) := (by omega)
    have q949 : 0 < (t945.length : Int) := Ze
    obtain ⟨ad949, e949, hx949_0, hx949_1, hx949_2, hx949_3, hx949_4⟩ := at_T50 (Kd.R_reads' HO948.out).2.2 0 p949 q949
    cases e949
    have qi949 : (0 < t945.length) = True := eq_true (by omega)
    (try rw [show ((0 : Int)).toNat = 0 from rfl] at hx949_0)
    (try rw [show 0 * 5 = 0 from rfl] at hx949_0)
    (try rw [Addr.add_zero'] at hx949_0)
    (try rw [show ((0 : Int)).toNat = 0 from rfl] at hx949_1)
    (try rw [show 0 * 5 = 0 from rfl] at hx949_1)
    (try rw [Addr.add_zero'] at hx949_1)
    (try rw [show ((0 : Int)).toNat = 0 from rfl] at hx949_2)
    (try rw [show 0 * 5 = 0 from rfl] at hx949_2)
    (try rw [Addr.add_zero'] at hx949_2)
    (try rw [show ((0 : Int)).toNat = 0 from rfl] at hx949_3)
    (try rw [show 0 * 5 = 0 from rfl] at hx949_3)
    (try rw [Addr.add_zero'] at hx949_3)
    (try rw [show ((0 : Int)).toNat = 0 from rfl] at hx949_4)
    (try rw [show 0 * 5 = 0 from rfl] at hx949_4)
    (try rw [Addr.add_zero'] at hx949_4)
    replace p949 := eq_true p949
    replace q949 := eq_true q949
    have hnb17 := NB941_940.out
    have hnc17 := NB940_941.out
    obtain ⟨hcz18_0, hfz18_0⟩ := Zy (v := (.string (⟨#[]⟩ : ByteArray))) BK941.out 0
    obtain ⟨hcz18_1, hfz18_1⟩ := Zy (v := (.string (⟨#[]⟩ : ByteArray))) BK941.out 1
    obtain ⟨hcz18_2, hfz18_2⟩ := Zy (v := (.int .i64 0)) BK941.out 2
    obtain ⟨hcz18_3, hfz18_3⟩ := Zy (v := (.int .i64 0)) BK941.out 3
    obtain ⟨hcz18_4, hfz18_4⟩ := Zy (v := (.int .i64 0)) BK941.out 4
    go_wp2
    refine bodyPost_ret (Qb0 rfl _ _ gb941 50 #[.string ((rd_T50 t945 0).f0.f0), .string ((rd_T50 t945 0).f0.f1), .int .i64 ((rd_T50 t945 0).f1), .int .i64 ((rd_T50 t945 0).f2), .int .i64 ((rd_T50 t945 0).f3)] (0, 0) _ rfl (Zp2 BK941.out) Try.underlying50 rfl (by kernel_rfl)) rfl ?_
    exact ⟨Zq, Zc2 GE940.out GE941.out⟩
   rw [if_neg c16] at H
   exact absurd H (by simp)
  rw [if_neg c15] at H
  have c15b0 : ((t945.length : Int) == 1) = F := beq_eq_false_iff_ne.mpr c15
  have c15b1 : ((t945.length : Int) != 1) = T := bne_iff_ne.mpr c15
  (try simp only [c15b0, c15b1])
  simp only [Option.some.injEq, Prod.mk.injEq] at H
  obtain ⟨rfl, rfl, rfl, rfl, rfl, rfl⟩ := H
  have hnb19 := NB941_940.out
  have hnc19 := NB940_941.out
  obtain ⟨hcz20_0, hfz20_0⟩ := Zy (v := (.string (⟨#[]⟩ : ByteArray))) BK941.out 0
  obtain ⟨hcz20_1, hfz20_1⟩ := Zy (v := (.string (⟨#[]⟩ : ByteArray))) BK941.out 1
  obtain ⟨hcz20_2, hfz20_2⟩ := Zy (v := (.int .i64 0)) BK941.out 2
  obtain ⟨hcz20_3, hfz20_3⟩ := Zy (v := (.int .i64 0)) BK941.out 3
  obtain ⟨hcz20_4, hfz20_4⟩ := Zy (v := (.int .i64 0)) BK941.out 4
  go_wp2
  refine bodyPost_ret (Qb0 rfl _ _ gb941 50 #[.string (⟨#[]⟩ : ByteArray), .string (⟨#[]⟩ : ByteArray), .int .i64 0, .int .i64 0, .int .i64 0] (0, 0) _ rfl (Zp2 BK941.out) Try.underlying50 rfl (by kernel_rfl)) rfl ?_
  exact ⟨Zq, Zc2 GE940.out GE941.out⟩
 rw [if_neg c13] at H
 have c13b0 : (t946 == 0) = F := beq_eq_false_iff_ne.mpr c13
 have c13b1 : (t946 != 0) = T := bne_iff_ne.mpr c13
 (try simp only [c13b0, c13b1])
 simp only [Option.some.injEq, Prod.mk.injEq] at H
 obtain ⟨rfl, rfl, rfl, rfl, rfl, rfl⟩ := H
 have hnb21 := NB941_940.out
 have hnc21 := NB940_941.out
 obtain ⟨hcz22_0, hfz22_0⟩ := Zy (v := (.string (⟨#[]⟩ : ByteArray))) BK941.out 0
 obtain ⟨hcz22_1, hfz22_1⟩ := Zy (v := (.string (⟨#[]⟩ : ByteArray))) BK941.out 1
 obtain ⟨hcz22_2, hfz22_2⟩ := Zy (v := (.int .i64 0)) BK941.out 2
 obtain ⟨hcz22_3, hfz22_3⟩ := Zy (v := (.int .i64 0)) BK941.out 3
 obtain ⟨hcz22_4, hfz22_4⟩ := Zy (v := (.int .i64 0)) BK941.out 4
 go_wp2
 refine bodyPost_ret (Qb0 rfl _ _ gb941 50 #[.string (⟨#[]⟩ : ByteArray), .string (⟨#[]⟩ : ByteArray), .int .i64 0, .int .i64 0, .int .i64 0] (0, 0) _ rfl (Zp2 BK941.out) Try.underlying50 rfl (by kernel_rfl)) rfl ?_
 exact ⟨Zq, Zc2 GE940.out GE941.out⟩
theorem Qcp (d : Nat) (w : World) (x0 x1 x2 x3 y0 y1 y2 y3 : Int) : (Op.equalIn (d + 2) 74 (.agg #[.int .i64 x0, .int .i64 x1, .int .i64 x2, .int .i64 x3]) (.agg #[.int .i64 y0, .int .i64 y1, .int .i64 y2, .int .i64 y3])).run Try.prog w = .ok (x0 == y0 && (x1 == y1 && (x2 == y2 && (x3 == y3)))) w := by
 have hs : (sizeOf 3 : Sem Nat).run Try.prog w = .ok 1 w := by go_simp
 have he : ∀ a b : Int, (Op.equalIn (d + 1) 3 (.int .i64 a) (.int .i64 b)).run Try.prog w = .ok (a == b) w := fun a b => by go_simp
 have p0 : ∀ (z0 z1 z2 z3 : Int), (part 3 #[.int .i64 z0, .int .i64 z1, .int .i64 z2, .int .i64 z3] 0).run Try.prog w = .ok (.int .i64 z0) w := fun z0 z1 z2 z3 => by go_simp
 have p1 : ∀ (z0 z1 z2 z3 : Int), (part 3 #[.int .i64 z0, .int .i64 z1, .int .i64 z2, .int .i64 z3] 1).run Try.prog w = .ok (.int .i64 z1) w := fun z0 z1 z2 z3 => by go_simp
 have p2 : ∀ (z0 z1 z2 z3 : Int), (part 3 #[.int .i64 z0, .int .i64 z1, .int .i64 z2, .int .i64 z3] 2).run Try.prog w = .ok (.int .i64 z2) w := fun z0 z1 z2 z3 => by go_simp
 have p3 : ∀ (z0 z1 z2 z3 : Int), (part 3 #[.int .i64 z0, .int .i64 z1, .int .i64 z2, .int .i64 z3] 3).run Try.prog w = .ok (.int .i64 z3) w := fun z0 z1 z2 z3 => by go_simp
 show (Op.equalIn ((d + 1) + 1) 74 _ _).run Try.prog w = _
 revert he
 generalize d + 1 = D
 intro he
 simp only [Op.equalIn, Sem.run_bind, run_underlying Try.underlying74, Result.andThen_ok, hs]
 simp only [Std.Legacy.Range.forIn_eq_forIn_range', Std.Legacy.Range.size, Nat.sub_zero, Nat.add_one_sub_one, Nat.div_one, List.range', List.forIn_cons, List.forIn_nil, Nat.mul_one, Nat.zero_add, Nat.reduceAdd, Sem.run_bind, p0, p1, p2, p3, he, Result.andThen_ok]
 cases h0 : (x0 == y0) <;> cases h1 : (x1 == y1) <;> cases h2 : (x2 == y2) <;> cases h3 : (x3 == y3) <;> simp [p0, p1, p2, p3, he, h0, h1, h2, h3]
attribute [local go_sem] Qcp
end Go.Proofs.Ytfcaaefdmabkhaa.Pr
