/- Functions' values and contracts, as the print wrote them. -/
import Derived.Test.YtfcaaefdmabkhaaQEB3P0
import Derived.Test.YtfcaaefdmabkhaaQEB3P4
namespace Go.Proofs.Ytfcaaefdmabkhaa.Pr
open Go.RowKit Go.Proofs.YtfcaaefdmabkhaaW.PrintWords Go.Proofs.YtfcaaefdmabkhaaW.PrintLast Go.Proofs.YtfcaaefdmabkhaaW.PrintMore
attribute [local go_sem] QaN QaP QaT QaU QaH QaI QaO QaQ   -- for this text's walks alone
set_option linter.unusedVariables false
set_option linter.unusedSimpArgs false
def QaG.l0 : Nat → List (S50) → List (S48) → Int → Int → List (S46) → List (S84) → List (S98) → Option ((List (S50)) × Int)
 | 0, _, _, _, _, _, _, _ => none
 | k + 1, x11, x21, x22, x23, x279000, x280000, x281000 => if x23 < x22 then (if 0 ≤ x23 then (if x23 < (x21.length : Int) then ((Qbe.f ((rd_T48 x21 x23).f7)).bind fun t283 => (if t283 = true then ((Qbc.f k x279000 ((rd_T48 x21 x23).f0.f0) ((rd_T48 x21 x23).f0.f1) ((rd_T48 x21 x23).f7) x280000 x281000).bind fun bt285 => (if bt285.2 = 0 then ((Qbl.f ((rd_T48 x21 x23).f7) bt285.1).bind fun bt287 => (if bt287.2 = 0 then (if x11.length < 2513169434916 then (QaG.l0 k (x11 ++ [(⟨(⟨(rd_T48 x21 x23).f0.f0, (rd_T48 x21 x23).f0.f1⟩ : S44), (rd_T48 x21 x23).f7, bt285.1, bt287.1⟩ : S50)]) x21 x22 (wrap64 (x23 + 1)) x279000 x280000 x281000) else (none)) else (some (([] : List (S50)), bt287.2)))) else (some (([] : List (S50)), bt285.2)))) else (some (([] : List (S50)), 2)))) else (none)) else (none)) else (some (x11, 0))
def QaG.f (k : Nat) (l0 : List (S48)) (l1 : List (S46)) (l2 : List (S84)) (l3 : List (S98)) : Option ((List (S50)) × Int) := if (l0.length : Int) > 1024 then (some (([] : List (S50)), 8)) else (QaG.l0 k ([] : List (S50)) l0 (l0.length : Int) 0 l1 l2 l3)
theorem QaG.mono_l : ∀ k, (∀ y0 y1 y2 y3 y4 y5 y6, LeO (QaG.l0 k y0 y1 y2 y3 y4 y5 y6) (QaG.l0 (k + 1) y0 y1 y2 y3 y4 y5 y6))
 | 0 => fun _ _ _ _ _ _ _ r h => by simp [QaG.l0] at h
 | k + 1 => by
  have ih0 := QaG.mono_l k
  intro y0 y1 y2 y3 y4 y5 y6
  unfold QaG.l0
  exact ZM2 ih0 Qbc.mono
theorem QaG.mono : ∀ a0 a1 a2 a3 k, LeO (QaG.f k a0 a1 a2 a3) (QaG.f (k + 1) a0 a1 a2 a3) := by
 intro a0 a1 a2 a3 k
 have ih0 := QaG.mono_l k
 unfold QaG.f
 exact ZM2 ih0 Qbc.mono
set_option maxHeartbeats 8000000 in
set_option maxRecDepth 100000 in
theorem QaG.calls (k : Nat) (A0 : Option Addr) (c0 : Nat) (l0 : List (S48)) (A1 : Option Addr) (c1 : Nat) (l1 : List (S46)) (A2 : Option Addr) (c2 : Nat) (l2 : List (S84)) (A3 : Option Addr) (c3 : Nat) (l3 : List (S98)) (r1 : List (S50)) (r2 : Int) (w : World) (hr0 : Kd.C k48 w A0 l0.length l0) (hc0 : l0.length ≤ c0) (hr1 : Kd.C k46 w A1 l1.length l1) (hc1 : l1.length ≤ c1) (hr2 : Kd.C k84 w A2 l2.length l2) (hc2 : l2.length ≤ c2) (hr3 : Kd.C k98 w A3 l3.length l3) (hc3 : l3.length ≤ c3) (h : QaG.f k l0 l1 l2 l3 = some (r1, r2)) :
  Calls Try.prog 18 #[.slice A0 l0.length c0, .slice A1 l1.length c1, .slice A2 l2.length c2, .slice A3 l3.length c3] w fun e w' => ∃ v0_ : Value, e = .returned (.tuple #[v0_, .int .i64 r2]) ∧ Kd.R k50 50 w' w.heap.size (fun _ => True) v0_ r1 ∧ Below w.heap.size w w' := by
 have hu48 := Try.underlying48
 have hu44 := Try.underlying44
 have hu50 := Try.underlying50
 have HR0 := Aside0.mk hr0
 have HC0 := Aside0.mk hc0
 clear hr0 hc0
 have HR1 := Aside0.mk hr1
 have HC1 := Aside0.mk hc1
 clear hr1 hc1
 have HR2 := Aside0.mk hr2
 have HC2 := Aside0.mk hc2
 clear hr2 hc2
 have HR3 := Aside0.mk hr3
 have HC3 := Aside0.mk hc3
 clear hr3 hc3
 have HB := Aside0.mk (Below.refl w.heap.size w)
 have H : (if (l0.length : Int) > 1024 then (some (([] : List (S50)), 8)) else (QaG.l0 k ([] : List (S50)) l0 (l0.length : Int) 0 l1 l2 l3)) = some (r1, r2) := h
 clear h
 go_enter Try.func18, Try.ntmps18
 go_upto_if 19 with (first | ((with_reducible refine QaE (N := 5) rfl ?_); (refine gate_n (n := 65) rfl ?_); refine Zbx (N := 5) (cs := #[.slice A1 l1.length c1]) (t := 30) ?_; intro gb278 hg w5 hbox hb; have BK278 := Aside0.mk (hbox); have GW278 := Aside0.mk (Zt w hg (Zb)); have GE278 := GW278; replace HB := Aside0.mk (Qaq (Zb) hb); clear hb hbox hg) | ((with_reducible refine QaE (N := 6) rfl ?_); (refine gate_n (n := 65) rfl ?_); refine Zbx (N := 6) (cs := #[.slice A2 l2.length c2]) (t := 31) ?_; intro gb279 hg w6 hbox hb; have BK279 := Aside0.mk (hbox); have GW279 := Aside0.mk (Zt w hg (Zc1 GE278.out)); have GE279 := GW279; have NB278_279 := Aside0.mk (Zn hg BK278.out); have NB279_278 := Aside0.mk NB278_279.out.symm; replace BK278 := Aside0.mk (Zi BK278.out hb); replace HB := Aside0.mk (Qaq (Zc1 GE278.out) hb); clear hb hbox hg) | ((with_reducible refine QaE (N := 7) rfl ?_); (refine gate_n (n := 65) rfl ?_); refine Zbx (N := 7) (cs := #[.slice A3 l3.length c3]) (t := 32) ?_; intro gb280 hg w7 hbox hb; have BK280 := Aside0.mk (hbox); have GW280 := Aside0.mk (Zt w hg (Zc2 GE278.out GE279.out)); have GE280 := GW280; have NB278_280 := Aside0.mk (Zn hg BK278.out); have NB280_278 := Aside0.mk NB278_280.out.symm; have NB279_280 := Aside0.mk (Zn hg BK279.out); have NB280_279 := Aside0.mk NB279_280.out.symm; replace BK278 := Aside0.mk (Zi BK278.out hb); replace BK279 := Aside0.mk (Zi BK279.out hb); replace HB := Aside0.mk (Qaq (Zc2 GE278.out GE279.out) hb); clear hb hbox hg))
 (try simp only [Act.put, Zj, Zk, Zm])
 by_cases c8 : (l0.length : Int) > 1024
 ·rw [if_pos c8] at H
  have c8b0 : decide (1024 < (l0.length : Int)) = true := decide_eq_true c8
  have c8b1 : decide (1024 < l0.length) = true := decide_eq_true (by omega)
  clear c8
  (try simp only [c8b0, c8b1])
  simp only [Option.some.injEq, Prod.mk.injEq] at H
  obtain ⟨rfl, rfl⟩ := H
  go_wp2
  go_ret2
  exact ⟨_, Zq, by first | exact Kd.R_nil _ _ _ _ _ | exact Kd.N_nil _ _ _ _ _ | exact Kd.V_nil _ _ _ _ _ | exact Kd.Q_nil _ _ _ _ _ | exact Kd.S_nil _ _ _ _ _, Zc3 GE278.out GE279.out GE280.out⟩
 rw [if_neg c8] at H
 have c8b0 : decide (1024 < (l0.length : Int)) = false := decide_eq_false c8
 have c8b1 : decide (1024 < l0.length) = false := decide_eq_false (by omega)
 clear c8
 (try simp only [c8b0, c8b1])
 have H' := Aside0.mk H
 clear H
 go_wp2
 go_loopg [11, 23] k (fun kq v11 v23 w' => ∃ (x11_1 : List (S50)) (x23_1 : Int), v23 = .int .i64 x23_1 ∧ Aside0 (QaG.l0 kq x11_1 l0 (l0.length : Int) x23_1 l1 l2 l3 = some (r1, r2)) ∧ Aside0 (kq ≤ k) ∧ Aside0 (Kd.R k50 50 w' w.heap.size (fun _ => True) v11 x11_1) ∧ Aside0 (w'.heap[gb278]? = some (.cells #[(.slice A1 l1.length c1)] 30 (0, 0))) ∧ Aside0 (w'.heap[gb279]? = some (.cells #[(.slice A2 l2.length c2)] 31 (0, 0))) ∧ Aside0 (w'.heap[gb280]? = some (.cells #[(.slice A3 l3.length c3)] 32 (0, 0))) ∧ Aside0 (Below w.heap.size w w'))
 case atStart => exact ⟨(([] : List (S50))), (0), (Zs), H', ⟨Nat.le_refl _⟩, ⟨by first | exact Kd.R_nil _ _ _ _ _ | exact Kd.N_nil _ _ _ _ _ | exact Kd.V_nil _ _ _ _ _ | exact Kd.Q_nil _ _ _ _ _ | exact Kd.S_nil _ _ _ _ _⟩, ⟨Zu BK278.out⟩, ⟨Zu BK279.out⟩, ⟨Zu BK280.out⟩, ⟨Zc3 GE278.out GE279.out GE280.out⟩⟩
 case round =>
  clear H'
  try clear c1
  try clear c2
  try clear p2
  try clear c3
  try clear c8
  try clear c8b0
  try clear c8b1
  obtain ⟨x11_1, x23_1, rfl, HA, HK1, HO_11, BK278, BK279, BK280, HB⟩ := hrel
  cases gk with
  | zero => exact absurd HA.out (by simp [QaG.l0])
  | succ k1 =>
   have H := HA.out
   clear HA
   simp only [QaG.l0] at H
   by_cases c9 : x23_1 < (l0.length : Int)
   ·rw [if_pos c9] at H
    have c9b0 : decide (x23_1 < (l0.length : Int)) = true := decide_eq_true c9
    clear c9
    (try simp only [c9b0])
    by_cases c10 : 0 ≤ x23_1
    ·rw [if_pos c10] at H
     have c10b0 : decide (0 ≤ x23_1) = true := decide_eq_true c10
     clear c10
     by_cases c11 : x23_1 < (l0.length : Int)
     ·rw [if_pos c11] at H
      have c11b0 : decide (x23_1 < (l0.length : Int)) = true := decide_eq_true c11
      clear c11
      replace H := Option.bind_eq_some_iff.mp H
      obtain ⟨t283, A120, H⟩ := H
      replace H : (if t283 = true then ((Qbc.f k1 l1 ((rd_T48 l0 x23_1).f0.f0) ((rd_T48 l0 x23_1).f0.f1) ((rd_T48 l0 x23_1).f7) l2 l3).bind fun bt285 => (if bt285.2 = 0 then ((Qbl.f ((rd_T48 l0 x23_1).f7) bt285.1).bind fun bt287 => (if bt287.2 = 0 then (if x11_1.length < 2513169434916 then (QaG.l0 k1 (x11_1 ++ [(⟨(⟨(rd_T48 l0 x23_1).f0.f0, (rd_T48 l0 x23_1).f0.f1⟩ : S44), (rd_T48 l0 x23_1).f7, bt285.1, bt287.1⟩ : S50)]) l0 (l0.length : Int) (wrap64 (x23_1 + 1)) l1 l2 l3) else (none)) else (some (([] : List (S50)), bt287.2)))) else (some (([] : List (S50)), bt285.2)))) else (some (([] : List (S50)), 2))) = some (r1, r2) := H
      have A12 := Aside0.mk A120
      clear A120
      have p281 : 0 ≤ (x23_1 : Int) := Ze
      have q281 : x23_1 < (l0.length : Int) := Ze
      obtain ⟨ad281, e281, hx281_0, hx281_1, hx281_2, hx281_3, hx281_4, hx281_5, hx281_6, hx281_7, hx281_8⟩ := at_T48 HR0.out x23_1 p281 q281
      cases e281
      replace hx281_0 := Zx HB.out hx281_0
      replace hx281_1 := Zx HB.out hx281_1
      replace hx281_2 := Zx HB.out hx281_2
      replace hx281_3 := Zx HB.out hx281_3
      replace hx281_4 := Zx HB.out hx281_4
      replace hx281_5 := Zx HB.out hx281_5
      replace hx281_6 := Zx HB.out hx281_6
      replace hx281_7 := Zx HB.out hx281_7
      replace hx281_8 := Zx HB.out hx281_8
      replace p281 := eq_true p281
      replace q281 := eq_true q281
      go_upto_if 30 with (first | ((with_reducible refine QaE (N := 13) rfl ?_); (refine gate_n (n := 65) rfl ?_); refine Zbx (N := 13) (cs := #[.string (⟨#[]⟩ : ByteArray), .string (⟨#[]⟩ : ByteArray), .int .i64 0, .int .i64 0, .int .i64 0, .int .i64 0, .int .i64 0, .int .i64 0, .int .i64 0]) (t := 48) ?_; intro gb282 hg w13 hbox hb; have BK282 := Aside0.mk (hbox); have GW282 := Aside0.mk (Zt w hg (Zc3 GE278.out GE279.out GE280.out)); have GE282 := GW282; have NB278_282 := Aside0.mk (Zn hg BK278.out); have NB282_278 := Aside0.mk NB278_282.out.symm; have NB279_282 := Aside0.mk (Zn hg BK279.out); have NB282_279 := Aside0.mk NB279_282.out.symm; have NB280_282 := Aside0.mk (Zn hg BK280.out); have NB282_280 := Aside0.mk NB280_282.out.symm; replace HO_11 := Aside0.mk (Kd.R_below (Zr HO_11.out) hb); replace BK278 := Aside0.mk (Zi BK278.out hb); replace BK279 := Aside0.mk (Zi BK279.out hb); replace BK280 := Aside0.mk (Zi BK280.out hb); replace HB := Aside0.mk (Qaq (Zc3 GE278.out GE279.out GE280.out) hb); clear hb hbox hg; have hnb14 := NB282_278.out; have hnc14 := NB278_282.out; have hnb15 := NB282_279.out; have hnc15 := NB279_282.out; have hnb16 := NB282_280.out; have hnc16 := NB280_282.out; obtain ⟨hcz17_0, hfz17_0⟩ := Zy (v := (.string (⟨#[]⟩ : ByteArray))) BK282.out 0; obtain ⟨hcz17_1, hfz17_1⟩ := Zy (v := (.string (⟨#[]⟩ : ByteArray))) BK282.out 1; obtain ⟨hcz17_2, hfz17_2⟩ := Zy (v := (.int .i64 0)) BK282.out 2; obtain ⟨hcz17_3, hfz17_3⟩ := Zy (v := (.int .i64 0)) BK282.out 3; obtain ⟨hcz17_4, hfz17_4⟩ := Zy (v := (.int .i64 0)) BK282.out 4; obtain ⟨hcz17_5, hfz17_5⟩ := Zy (v := (.int .i64 0)) BK282.out 5; obtain ⟨hcz17_6, hfz17_6⟩ := Zy (v := (.int .i64 0)) BK282.out 6; obtain ⟨hcz17_7, hfz17_7⟩ := Zy (v := (.int .i64 0)) BK282.out 7; obtain ⟨hcz17_8, hfz17_8⟩ := Zy (v := (.int .i64 0)) BK282.out 8) | ((with_reducible refine QaA (f := 51) rfl ?_); refine goesL_ (some 29) rfl rfl Try.func51 (by kernel_rfl) rfl #[.int .i64 ((rd_T48 l0 x23_1).f7)] rfl (Zl) ?_; (with_reducible refine (Qbe.calls ((rd_T48 l0 x23_1).f7) t283 _ A12.out).mono ?_); rintro e w' ⟨rfl, ⟨nd, rfl⟩⟩; refine ⟨_, rfl, ?_⟩))
      (try simp only [Act.put, Zj, Zk, Zm])
      by_cases c18 : t283 = true
      ·subst c18
       have H1 : ((Qbc.f k1 l1 ((rd_T48 l0 x23_1).f0.f0) ((rd_T48 l0 x23_1).f0.f1) ((rd_T48 l0 x23_1).f7) l2 l3).bind fun bt285 => (if bt285.2 = 0 then ((Qbl.f ((rd_T48 l0 x23_1).f7) bt285.1).bind fun bt287 => (if bt287.2 = 0 then (if x11_1.length < 2513169434916 then (QaG.l0 k1 (x11_1 ++ [(⟨(⟨(rd_T48 l0 x23_1).f0.f0, (rd_T48 l0 x23_1).f0.f1⟩ : S44), (rd_T48 l0 x23_1).f7, bt285.1, bt287.1⟩ : S50)]) l0 (l0.length : Int) (wrap64 (x23_1 + 1)) l1 l2 l3) else (none)) else (some (([] : List (S50)), bt287.2)))) else (some (([] : List (S50)), bt285.2)))) = some (r1, r2) := by rw [if_pos rfl] at H; exact H
       clear H
       have H := H1
       clear H1
       replace H := Option.bind_eq_some_iff.mp H
       obtain ⟨⟨t285, t286⟩, A190, H⟩ := H
       replace H : (if t286 = 0 then ((Qbl.f ((rd_T48 l0 x23_1).f7) t285).bind fun bt287 => (if bt287.2 = 0 then (if x11_1.length < 2513169434916 then (QaG.l0 k1 (x11_1 ++ [(⟨(⟨(rd_T48 l0 x23_1).f0.f0, (rd_T48 l0 x23_1).f0.f1⟩ : S44), (rd_T48 l0 x23_1).f7, t285, bt287.1⟩ : S50)]) l0 (l0.length : Int) (wrap64 (x23_1 + 1)) l1 l2 l3) else (none)) else (some (([] : List (S50)), bt287.2)))) else (some (([] : List (S50)), t286))) = some (r1, r2) := H
       have A19 := Aside0.mk A190
       clear A190
       have hnb20 := NB282_278.out
       have hnc20 := NB278_282.out
       have hnb21 := NB282_279.out
       have hnc21 := NB279_282.out
       have hnb22 := NB282_280.out
       have hnc22 := NB280_282.out
       obtain ⟨hcz23_0, hfz23_0⟩ := Zy (v := (.string (⟨#[]⟩ : ByteArray))) BK282.out 0
       obtain ⟨hcz23_1, hfz23_1⟩ := Zy (v := (.string (⟨#[]⟩ : ByteArray))) BK282.out 1
       obtain ⟨hcz23_2, hfz23_2⟩ := Zy (v := (.int .i64 0)) BK282.out 2
       obtain ⟨hcz23_3, hfz23_3⟩ := Zy (v := (.int .i64 0)) BK282.out 3
       obtain ⟨hcz23_4, hfz23_4⟩ := Zy (v := (.int .i64 0)) BK282.out 4
       obtain ⟨hcz23_5, hfz23_5⟩ := Zy (v := (.int .i64 0)) BK282.out 5
       obtain ⟨hcz23_6, hfz23_6⟩ := Zy (v := (.int .i64 0)) BK282.out 6
       obtain ⟨hcz23_7, hfz23_7⟩ := Zy (v := (.int .i64 0)) BK282.out 7
       obtain ⟨hcz23_8, hfz23_8⟩ := Zy (v := (.int .i64 0)) BK282.out 8
       go_upto_region 11 with (first | (go_at_call 52; go_in) | ((with_reducible refine QaE (N := 5) rfl ?_); (refine gate_n (n := 17) rfl ?_); refine Zbx (N := 5) (cs := #[.string ((rd_T48 l0 x23_1).f0.f0), .string ((rd_T48 l0 x23_1).f0.f1)]) (t := 44) ?_; intro gb284 hg w24 hbox hb; have BK284 := Aside0.mk (hbox); have GW284 := Aside0.mk (Zt w hg (Zc4 GE278.out GE279.out GE280.out GE282.out)); have GE284 := GW284; have NB278_284 := Aside0.mk ((by rw [hg]; exact Nat.ne_of_lt (blk_lt (g := gb278) (o := .cells #[.slice A1 l1.length c1] 30 (0, 0)) (by (with_reducible repeat (first | refine Qab ?_ _ | refine Qac ?_ | refine Qaa ?_ _)); refine Qao ?_ NB278_282.out _; (with_reducible repeat (first | refine Qab ?_ _ | refine Qac ?_ | refine Qaa ?_ _)); refine Qao ?_ NB278_282.out _; (with_reducible repeat (first | refine Qab ?_ _ | refine Qac ?_ | refine Qaa ?_ _)); refine Qao ?_ NB278_282.out _; (with_reducible repeat (first | refine Qab ?_ _ | refine Qac ?_ | refine Qaa ?_ _)); refine Qao ?_ NB278_282.out _; (with_reducible repeat (first | refine Qab ?_ _ | refine Qac ?_ | refine Qaa ?_ _)); refine Qao ?_ NB278_282.out _; (with_reducible repeat (first | refine Qab ?_ _ | refine Qac ?_ | refine Qaa ?_ _)); refine Qao ?_ NB278_282.out _; (with_reducible repeat (first | refine Qab ?_ _ | refine Qac ?_ | refine Qaa ?_ _)); refine Qao ?_ NB278_282.out _; (with_reducible repeat (first | refine Qab ?_ _ | refine Qac ?_ | refine Qaa ?_ _)); refine Qao ?_ NB278_282.out _; (with_reducible repeat (first | refine Qab ?_ _ | refine Qac ?_ | refine Qaa ?_ _)); refine Qao ?_ NB278_282.out _; (with_reducible repeat (first | refine Qab ?_ _ | refine Qac ?_ | refine Qaa ?_ _)); exact BK278.out)) : gb278 ≠ gb284)); have NB284_278 := Aside0.mk ((by rw [hg]; exact Nat.ne_of_gt (blk_lt (g := gb278) (o := .cells #[.slice A1 l1.length c1] 30 (0, 0)) (by (with_reducible repeat (first | refine Qab ?_ _ | refine Qac ?_ | refine Qaa ?_ _)); refine Qao ?_ NB278_282.out _; (with_reducible repeat (first | refine Qab ?_ _ | refine Qac ?_ | refine Qaa ?_ _)); refine Qao ?_ NB278_282.out _; (with_reducible repeat (first | refine Qab ?_ _ | refine Qac ?_ | refine Qaa ?_ _)); refine Qao ?_ NB278_282.out _; (with_reducible repeat (first | refine Qab ?_ _ | refine Qac ?_ | refine Qaa ?_ _)); refine Qao ?_ NB278_282.out _; (with_reducible repeat (first | refine Qab ?_ _ | refine Qac ?_ | refine Qaa ?_ _)); refine Qao ?_ NB278_282.out _; (with_reducible repeat (first | refine Qab ?_ _ | refine Qac ?_ | refine Qaa ?_ _)); refine Qao ?_ NB278_282.out _; (with_reducible repeat (first | refine Qab ?_ _ | refine Qac ?_ | refine Qaa ?_ _)); refine Qao ?_ NB278_282.out _; (with_reducible repeat (first | refine Qab ?_ _ | refine Qac ?_ | refine Qaa ?_ _)); refine Qao ?_ NB278_282.out _; (with_reducible repeat (first | refine Qab ?_ _ | refine Qac ?_ | refine Qaa ?_ _)); refine Qao ?_ NB278_282.out _; (with_reducible repeat (first | refine Qab ?_ _ | refine Qac ?_ | refine Qaa ?_ _)); exact BK278.out)) : gb284 ≠ gb278)); have NB279_284 := Aside0.mk ((by rw [hg]; exact Nat.ne_of_lt (blk_lt (g := gb279) (o := .cells #[.slice A2 l2.length c2] 31 (0, 0)) (by (with_reducible repeat (first | refine Qab ?_ _ | refine Qac ?_ | refine Qaa ?_ _)); refine Qao ?_ NB279_282.out _; (with_reducible repeat (first | refine Qab ?_ _ | refine Qac ?_ | refine Qaa ?_ _)); refine Qao ?_ NB279_282.out _; (with_reducible repeat (first | refine Qab ?_ _ | refine Qac ?_ | refine Qaa ?_ _)); refine Qao ?_ NB279_282.out _; (with_reducible repeat (first | refine Qab ?_ _ | refine Qac ?_ | refine Qaa ?_ _)); refine Qao ?_ NB279_282.out _; (with_reducible repeat (first | refine Qab ?_ _ | refine Qac ?_ | refine Qaa ?_ _)); refine Qao ?_ NB279_282.out _; (with_reducible repeat (first | refine Qab ?_ _ | refine Qac ?_ | refine Qaa ?_ _)); refine Qao ?_ NB279_282.out _; (with_reducible repeat (first | refine Qab ?_ _ | refine Qac ?_ | refine Qaa ?_ _)); refine Qao ?_ NB279_282.out _; (with_reducible repeat (first | refine Qab ?_ _ | refine Qac ?_ | refine Qaa ?_ _)); refine Qao ?_ NB279_282.out _; (with_reducible repeat (first | refine Qab ?_ _ | refine Qac ?_ | refine Qaa ?_ _)); refine Qao ?_ NB279_282.out _; (with_reducible repeat (first | refine Qab ?_ _ | refine Qac ?_ | refine Qaa ?_ _)); exact BK279.out)) : gb279 ≠ gb284)); have NB284_279 := Aside0.mk ((by rw [hg]; exact Nat.ne_of_gt (blk_lt (g := gb279) (o := .cells #[.slice A2 l2.length c2] 31 (0, 0)) (by (with_reducible repeat (first | refine Qab ?_ _ | refine Qac ?_ | refine Qaa ?_ _)); refine Qao ?_ NB279_282.out _; (with_reducible repeat (first | refine Qab ?_ _ | refine Qac ?_ | refine Qaa ?_ _)); refine Qao ?_ NB279_282.out _; (with_reducible repeat (first | refine Qab ?_ _ | refine Qac ?_ | refine Qaa ?_ _)); refine Qao ?_ NB279_282.out _; (with_reducible repeat (first | refine Qab ?_ _ | refine Qac ?_ | refine Qaa ?_ _)); refine Qao ?_ NB279_282.out _; (with_reducible repeat (first | refine Qab ?_ _ | refine Qac ?_ | refine Qaa ?_ _)); refine Qao ?_ NB279_282.out _; (with_reducible repeat (first | refine Qab ?_ _ | refine Qac ?_ | refine Qaa ?_ _)); refine Qao ?_ NB279_282.out _; (with_reducible repeat (first | refine Qab ?_ _ | refine Qac ?_ | refine Qaa ?_ _)); refine Qao ?_ NB279_282.out _; (with_reducible repeat (first | refine Qab ?_ _ | refine Qac ?_ | refine Qaa ?_ _)); refine Qao ?_ NB279_282.out _; (with_reducible repeat (first | refine Qab ?_ _ | refine Qac ?_ | refine Qaa ?_ _)); refine Qao ?_ NB279_282.out _; (with_reducible repeat (first | refine Qab ?_ _ | refine Qac ?_ | refine Qaa ?_ _)); exact BK279.out)) : gb284 ≠ gb279)); have NB280_284 := Aside0.mk ((by rw [hg]; exact Nat.ne_of_lt (blk_lt (g := gb280) (o := .cells #[.slice A3 l3.length c3] 32 (0, 0)) (by (with_reducible repeat (first | refine Qab ?_ _ | refine Qac ?_ | refine Qaa ?_ _)); refine Qao ?_ NB280_282.out _; (with_reducible repeat (first | refine Qab ?_ _ | refine Qac ?_ | refine Qaa ?_ _)); refine Qao ?_ NB280_282.out _; (with_reducible repeat (first | refine Qab ?_ _ | refine Qac ?_ | refine Qaa ?_ _)); refine Qao ?_ NB280_282.out _; (with_reducible repeat (first | refine Qab ?_ _ | refine Qac ?_ | refine Qaa ?_ _)); refine Qao ?_ NB280_282.out _; (with_reducible repeat (first | refine Qab ?_ _ | refine Qac ?_ | refine Qaa ?_ _)); refine Qao ?_ NB280_282.out _; (with_reducible repeat (first | refine Qab ?_ _ | refine Qac ?_ | refine Qaa ?_ _)); refine Qao ?_ NB280_282.out _; (with_reducible repeat (first | refine Qab ?_ _ | refine Qac ?_ | refine Qaa ?_ _)); refine Qao ?_ NB280_282.out _; (with_reducible repeat (first | refine Qab ?_ _ | refine Qac ?_ | refine Qaa ?_ _)); refine Qao ?_ NB280_282.out _; (with_reducible repeat (first | refine Qab ?_ _ | refine Qac ?_ | refine Qaa ?_ _)); refine Qao ?_ NB280_282.out _; (with_reducible repeat (first | refine Qab ?_ _ | refine Qac ?_ | refine Qaa ?_ _)); exact BK280.out)) : gb280 ≠ gb284)); have NB284_280 := Aside0.mk ((by rw [hg]; exact Nat.ne_of_gt (blk_lt (g := gb280) (o := .cells #[.slice A3 l3.length c3] 32 (0, 0)) (by (with_reducible repeat (first | refine Qab ?_ _ | refine Qac ?_ | refine Qaa ?_ _)); refine Qao ?_ NB280_282.out _; (with_reducible repeat (first | refine Qab ?_ _ | refine Qac ?_ | refine Qaa ?_ _)); refine Qao ?_ NB280_282.out _; (with_reducible repeat (first | refine Qab ?_ _ | refine Qac ?_ | refine Qaa ?_ _)); refine Qao ?_ NB280_282.out _; (with_reducible repeat (first | refine Qab ?_ _ | refine Qac ?_ | refine Qaa ?_ _)); refine Qao ?_ NB280_282.out _; (with_reducible repeat (first | refine Qab ?_ _ | refine Qac ?_ | refine Qaa ?_ _)); refine Qao ?_ NB280_282.out _; (with_reducible repeat (first | refine Qab ?_ _ | refine Qac ?_ | refine Qaa ?_ _)); refine Qao ?_ NB280_282.out _; (with_reducible repeat (first | refine Qab ?_ _ | refine Qac ?_ | refine Qaa ?_ _)); refine Qao ?_ NB280_282.out _; (with_reducible repeat (first | refine Qab ?_ _ | refine Qac ?_ | refine Qaa ?_ _)); refine Qao ?_ NB280_282.out _; (with_reducible repeat (first | refine Qab ?_ _ | refine Qac ?_ | refine Qaa ?_ _)); refine Qao ?_ NB280_282.out _; (with_reducible repeat (first | refine Qab ?_ _ | refine Qac ?_ | refine Qaa ?_ _)); exact BK280.out)) : gb284 ≠ gb280)); have NB282_284 := Aside0.mk ((by rw [hg]; exact Nat.ne_of_lt (blk_lt (g := gb282) (o := .cells #[.string ((rd_T48 l0 x23_1).f0.f0), .string ((rd_T48 l0 x23_1).f0.f1), .int .i64 ((rd_T48 l0 x23_1).f1), .int .i64 ((rd_T48 l0 x23_1).f2), .int .i64 ((rd_T48 l0 x23_1).f3), .int .i64 ((rd_T48 l0 x23_1).f4), .int .i64 ((rd_T48 l0 x23_1).f5), .int .i64 ((rd_T48 l0 x23_1).f6), .int .i64 ((rd_T48 l0 x23_1).f7)] 48 (0, 0)) (Zp2 BK282.out)) : gb282 ≠ gb284)); have NB284_282 := Aside0.mk ((by rw [hg]; exact Nat.ne_of_gt (blk_lt (g := gb282) (o := .cells #[.string ((rd_T48 l0 x23_1).f0.f0), .string ((rd_T48 l0 x23_1).f0.f1), .int .i64 ((rd_T48 l0 x23_1).f1), .int .i64 ((rd_T48 l0 x23_1).f2), .int .i64 ((rd_T48 l0 x23_1).f3), .int .i64 ((rd_T48 l0 x23_1).f4), .int .i64 ((rd_T48 l0 x23_1).f5), .int .i64 ((rd_T48 l0 x23_1).f6), .int .i64 ((rd_T48 l0 x23_1).f7)] 48 (0, 0)) (Zp2 BK282.out)) : gb284 ≠ gb282)); replace HO_11 := Aside0.mk (Kd.R_below (by (with_reducible repeat (first | apply Kd.R_alloc | apply Kd.R_drewN | apply Kd.R_drew)); exact (Kd.R_mono (Zf gb282 8 (Zf gb282 7 (Zf gb282 6 (Zf gb282 5 (Zf gb282 4 (Zf gb282 3 (Zf gb282 2 (Zf gb282 1 (Zf gb282 0 (Kd.R_types HO_11.out BK282.out (by decide)) (.string ((rd_T48 l0 x23_1).f0.f0))) (.string ((rd_T48 l0 x23_1).f0.f1))) (.int .i64 ((rd_T48 l0 x23_1).f1))) (.int .i64 ((rd_T48 l0 x23_1).f2))) (.int .i64 ((rd_T48 l0 x23_1).f3))) (.int .i64 ((rd_T48 l0 x23_1).f4))) (.int .i64 ((rd_T48 l0 x23_1).f5))) (.int .i64 ((rd_T48 l0 x23_1).f6))) (.int .i64 ((rd_T48 l0 x23_1).f7))) (fun _ h_ => h_.1))) hb); replace BK278 := Aside0.mk (Qan (g := gb278) (o := .cells #[.slice A1 l1.length c1] 30 (0, 0)) (by (with_reducible repeat (first | refine Qab ?_ _ | refine Qac ?_ | refine Qaa ?_ _)); refine Qao ?_ NB278_282.out _; (with_reducible repeat (first | refine Qab ?_ _ | refine Qac ?_ | refine Qaa ?_ _)); refine Qao ?_ NB278_282.out _; (with_reducible repeat (first | refine Qab ?_ _ | refine Qac ?_ | refine Qaa ?_ _)); refine Qao ?_ NB278_282.out _; (with_reducible repeat (first | refine Qab ?_ _ | refine Qac ?_ | refine Qaa ?_ _)); refine Qao ?_ NB278_282.out _; (with_reducible repeat (first | refine Qab ?_ _ | refine Qac ?_ | refine Qaa ?_ _)); refine Qao ?_ NB278_282.out _; (with_reducible repeat (first | refine Qab ?_ _ | refine Qac ?_ | refine Qaa ?_ _)); refine Qao ?_ NB278_282.out _; (with_reducible repeat (first | refine Qab ?_ _ | refine Qac ?_ | refine Qaa ?_ _)); refine Qao ?_ NB278_282.out _; (with_reducible repeat (first | refine Qab ?_ _ | refine Qac ?_ | refine Qaa ?_ _)); refine Qao ?_ NB278_282.out _; (with_reducible repeat (first | refine Qab ?_ _ | refine Qac ?_ | refine Qaa ?_ _)); refine Qao ?_ NB278_282.out _; (with_reducible repeat (first | refine Qab ?_ _ | refine Qac ?_ | refine Qaa ?_ _)); exact BK278.out) hb); replace BK279 := Aside0.mk (Qan (g := gb279) (o := .cells #[.slice A2 l2.length c2] 31 (0, 0)) (by (with_reducible repeat (first | refine Qab ?_ _ | refine Qac ?_ | refine Qaa ?_ _)); refine Qao ?_ NB279_282.out _; (with_reducible repeat (first | refine Qab ?_ _ | refine Qac ?_ | refine Qaa ?_ _)); refine Qao ?_ NB279_282.out _; (with_reducible repeat (first | refine Qab ?_ _ | refine Qac ?_ | refine Qaa ?_ _)); refine Qao ?_ NB279_282.out _; (with_reducible repeat (first | refine Qab ?_ _ | refine Qac ?_ | refine Qaa ?_ _)); refine Qao ?_ NB279_282.out _; (with_reducible repeat (first | refine Qab ?_ _ | refine Qac ?_ | refine Qaa ?_ _)); refine Qao ?_ NB279_282.out _; (with_reducible repeat (first | refine Qab ?_ _ | refine Qac ?_ | refine Qaa ?_ _)); refine Qao ?_ NB279_282.out _; (with_reducible repeat (first | refine Qab ?_ _ | refine Qac ?_ | refine Qaa ?_ _)); refine Qao ?_ NB279_282.out _; (with_reducible repeat (first | refine Qab ?_ _ | refine Qac ?_ | refine Qaa ?_ _)); refine Qao ?_ NB279_282.out _; (with_reducible repeat (first | refine Qab ?_ _ | refine Qac ?_ | refine Qaa ?_ _)); refine Qao ?_ NB279_282.out _; (with_reducible repeat (first | refine Qab ?_ _ | refine Qac ?_ | refine Qaa ?_ _)); exact BK279.out) hb); replace BK280 := Aside0.mk (Qan (g := gb280) (o := .cells #[.slice A3 l3.length c3] 32 (0, 0)) (by (with_reducible repeat (first | refine Qab ?_ _ | refine Qac ?_ | refine Qaa ?_ _)); refine Qao ?_ NB280_282.out _; (with_reducible repeat (first | refine Qab ?_ _ | refine Qac ?_ | refine Qaa ?_ _)); refine Qao ?_ NB280_282.out _; (with_reducible repeat (first | refine Qab ?_ _ | refine Qac ?_ | refine Qaa ?_ _)); refine Qao ?_ NB280_282.out _; (with_reducible repeat (first | refine Qab ?_ _ | refine Qac ?_ | refine Qaa ?_ _)); refine Qao ?_ NB280_282.out _; (with_reducible repeat (first | refine Qab ?_ _ | refine Qac ?_ | refine Qaa ?_ _)); refine Qao ?_ NB280_282.out _; (with_reducible repeat (first | refine Qab ?_ _ | refine Qac ?_ | refine Qaa ?_ _)); refine Qao ?_ NB280_282.out _; (with_reducible repeat (first | refine Qab ?_ _ | refine Qac ?_ | refine Qaa ?_ _)); refine Qao ?_ NB280_282.out _; (with_reducible repeat (first | refine Qab ?_ _ | refine Qac ?_ | refine Qaa ?_ _)); refine Qao ?_ NB280_282.out _; (with_reducible repeat (first | refine Qab ?_ _ | refine Qac ?_ | refine Qaa ?_ _)); refine Qao ?_ NB280_282.out _; (with_reducible repeat (first | refine Qab ?_ _ | refine Qac ?_ | refine Qaa ?_ _)); exact BK280.out) hb); replace BK282 := Aside0.mk (Zpi #[.string ((rd_T48 l0 x23_1).f0.f0), .string ((rd_T48 l0 x23_1).f0.f1), .int .i64 ((rd_T48 l0 x23_1).f1), .int .i64 ((rd_T48 l0 x23_1).f2), .int .i64 ((rd_T48 l0 x23_1).f3), .int .i64 ((rd_T48 l0 x23_1).f4), .int .i64 ((rd_T48 l0 x23_1).f5), .int .i64 ((rd_T48 l0 x23_1).f6), .int .i64 ((rd_T48 l0 x23_1).f7)] BK282.out hb); replace HB := Aside0.mk (Qaq (Zc4 GE278.out GE279.out GE280.out GE282.out) hb); clear hb hbox hg; have hnb25 := NB278_279.out; have hnc25 := NB279_278.out; have hnb26 := NB278_280.out; have hnc26 := NB280_278.out; have hnb27 := NB278_284.out; have hnc27 := NB284_278.out; obtain ⟨hcz28_0, hfz28_0⟩ := Zy (v := (.slice A1 l1.length c1)) BK278.out 0; have hnb29 := NB284_279.out; have hnc29 := NB279_284.out; have hnb30 := NB284_280.out; have hnc30 := NB280_284.out; have hnb31 := NB284_282.out; have hnc31 := NB282_284.out; obtain ⟨hcz32_0, hfz32_0⟩ := Zy (v := (.string ((rd_T48 l0 x23_1).f0.f0))) BK284.out 0; obtain ⟨hcz32_1, hfz32_1⟩ := Zy (v := (.string ((rd_T48 l0 x23_1).f0.f1))) BK284.out 1; have hnb33 := NB279_280.out; have hnc33 := NB280_279.out; obtain ⟨hcz34_0, hfz34_0⟩ := Zy (v := (.slice A2 l2.length c2)) BK279.out 0; obtain ⟨hcz35_0, hfz35_0⟩ := Zy (v := (.slice A3 l3.length c3)) BK280.out 0) | ((with_reducible refine QaA (f := 30) rfl ?_); refine goesL_ (some 14) rfl rfl Try.func30 (by kernel_rfl) rfl #[.slice A1 l1.length c1, .agg #[.string ((rd_T48 l0 x23_1).f0.f0), .string ((rd_T48 l0 x23_1).f0.f1)], .int .i64 ((rd_T48 l0 x23_1).f7), .slice A2 l2.length c2, .slice A3 l3.length c3] rfl (Zl) ?_; (with_reducible refine (Qbc.calls k1 _ _ l1 ((rd_T48 l0 x23_1).f0.f0) ((rd_T48 l0 x23_1).f0.f1) ((rd_T48 l0 x23_1).f7) _ _ l2 _ _ l3 t285 t286 _ ?side1 ?side2 ?side3 ?side4 ?side5 ?side6 A19.out).mono ?_); (case side1 => exact Zv (Kd.C_below HR1.out HB.out)); (case side2 => exact HC1.out); (case side3 => exact Zv (Kd.C_below HR2.out HB.out)); (case side4 => exact HC2.out); (case side5 => exact Zv (Kd.C_below HR3.out HB.out)); (case side6 => exact HC3.out); rintro e w36 ⟨rfl, hb⟩; refine ⟨_, rfl, ?_⟩; replace HO_11 := Aside0.mk (Kd.R_below (Zr HO_11.out) hb); replace BK278 := Aside0.mk (Zi BK278.out hb); replace BK279 := Aside0.mk (Zi BK279.out hb); replace BK280 := Aside0.mk (Zi BK280.out hb); replace BK282 := Aside0.mk (Zi BK282.out hb); replace BK284 := Aside0.mk (Zi BK284.out hb); replace HB := Aside0.mk (Qaq (Zc5 GE278.out GE279.out GE280.out GE282.out GE284.out) hb); (try clear hb); (try clear hb2); (try clear hk); (try clear hi)))
       (try simp only [Act.put, Zj, Zk, Zm])
       by_cases c37 : t286 = 0
       ·rw [if_pos c37] at H
        have c37b0 : (t286 == 0) = true := beq_iff_eq.mpr c37
        have c37b1 : (t286 != 0) = false := bne_eq_false_iff_eq.mpr c37
        clear c37
        (try simp only [c37b0, c37b1])
        replace H := Option.bind_eq_some_iff.mp H
        obtain ⟨⟨t287, t288⟩, A380, H⟩ := H
        replace H : (if t288 = 0 then (if x11_1.length < 2513169434916 then (QaG.l0 k1 (x11_1 ++ [(⟨(⟨(rd_T48 l0 x23_1).f0.f0, (rd_T48 l0 x23_1).f0.f1⟩ : S44), (rd_T48 l0 x23_1).f7, t285, t287⟩ : S50)]) l0 (l0.length : Int) (wrap64 (x23_1 + 1)) l1 l2 l3) else (none)) else (some (([] : List (S50)), t288))) = some (r1, r2) := H
        have A38 := Aside0.mk A380
        clear A380
        have hnb39 := NB282_278.out
        have hnc39 := NB278_282.out
        have hnb40 := NB282_279.out
        have hnc40 := NB279_282.out
        have hnb41 := NB282_280.out
        have hnc41 := NB280_282.out
        have hnb42 := NB282_284.out
        have hnc42 := NB284_282.out
        obtain ⟨hcz43_0, hfz43_0⟩ := Zy (v := (.string ((rd_T48 l0 x23_1).f0.f0))) BK282.out 0
        obtain ⟨hcz43_1, hfz43_1⟩ := Zy (v := (.string ((rd_T48 l0 x23_1).f0.f1))) BK282.out 1
        obtain ⟨hcz43_2, hfz43_2⟩ := Zy (v := (.int .i64 ((rd_T48 l0 x23_1).f1))) BK282.out 2
        obtain ⟨hcz43_3, hfz43_3⟩ := Zy (v := (.int .i64 ((rd_T48 l0 x23_1).f2))) BK282.out 3
        obtain ⟨hcz43_4, hfz43_4⟩ := Zy (v := (.int .i64 ((rd_T48 l0 x23_1).f3))) BK282.out 4
        obtain ⟨hcz43_5, hfz43_5⟩ := Zy (v := (.int .i64 ((rd_T48 l0 x23_1).f4))) BK282.out 5
        obtain ⟨hcz43_6, hfz43_6⟩ := Zy (v := (.int .i64 ((rd_T48 l0 x23_1).f5))) BK282.out 6
        obtain ⟨hcz43_7, hfz43_7⟩ := Zy (v := (.int .i64 ((rd_T48 l0 x23_1).f6))) BK282.out 7
        obtain ⟨hcz43_8, hfz43_8⟩ := Zy (v := (.int .i64 ((rd_T48 l0 x23_1).f7))) BK282.out 8
        go_upto_if 51 with (first | ((with_reducible refine QaA (f := 15) rfl ?_); refine goesL_ (some 47) rfl rfl Try.func15 (by kernel_rfl) rfl #[.int .i64 ((rd_T48 l0 x23_1).f7), .int .i64 t285] rfl (Zl) ?_; (with_reducible refine (Qbl.calls ((rd_T48 l0 x23_1).f7) t285 t287 t288 _ A38.out).mono ?_); rintro e w44 ⟨rfl, hb⟩; refine ⟨_, rfl, ?_⟩; replace HO_11 := Aside0.mk (Kd.R_below (Zr HO_11.out) hb); replace BK278 := Aside0.mk (Zi BK278.out hb); replace BK279 := Aside0.mk (Zi BK279.out hb); replace BK280 := Aside0.mk (Zi BK280.out hb); replace BK282 := Aside0.mk (Zi BK282.out hb); replace BK284 := Aside0.mk (Zi BK284.out hb); replace HB := Aside0.mk (Qaq (Zc5 GE278.out GE279.out GE280.out GE282.out GE284.out) hb); (try clear hb); (try clear hb2); (try clear hk); (try clear hi)))
        (try simp only [Act.put, Zj, Zk, Zm])
        by_cases c45 : t288 = 0
        ·rw [if_pos c45] at H
         have c45b0 : (t288 == 0) = true := beq_iff_eq.mpr c45
         have c45b1 : (t288 != 0) = false := bne_eq_false_iff_eq.mpr c45
         clear c45
         (try simp only [c45b0, c45b1])
         by_cases c46 : x11_1.length < 2513169434916
         ·rw [if_pos c46] at H
          have LMc46 := Aside0.mk c46
          clear c46
          obtain ⟨y289, hy289⟩ : ∃ y_ : List (S50), y_ = (x11_1 ++ [(⟨(⟨(rd_T48 l0 x23_1).f0.f0, (rd_T48 l0 x23_1).f0.f1⟩ : S44), (rd_T48 l0 x23_1).f7, t285, t287⟩ : S50)]) := ⟨_, rfl⟩
          replace H : (QaG.l0 k1 y289 l0 (l0.length : Int) (wrap64 (x23_1 + 1)) l1 l2 l3) = some (r1, r2) := by first | (rw [hy289]; with_reducible exact H) | (have H2_ := (Option.bind_some _ _).symm.trans H; rw [hy289]; with_reducible exact H2_) | (have H2_ := (Option.bind_some _ _).symm.trans H; with_reducible exact H2_) | with_reducible exact H | (rw [hy289]; exact H) | exact H
          have Ny289 := Aside0.mk hy289
          clear hy289
          have H' := Aside0.mk H
          clear H
          have hnb47 := NB282_278.out
          have hnc47 := NB278_282.out
          have hnb48 := NB282_279.out
          have hnc48 := NB279_282.out
          have hnb49 := NB282_280.out
          have hnc49 := NB280_282.out
          have hnb50 := NB282_284.out
          have hnc50 := NB284_282.out
          obtain ⟨hcz51_0, hfz51_0⟩ := Zy (v := (.string ((rd_T48 l0 x23_1).f0.f0))) BK282.out 0
          obtain ⟨hcz51_1, hfz51_1⟩ := Zy (v := (.string ((rd_T48 l0 x23_1).f0.f1))) BK282.out 1
          obtain ⟨hcz51_2, hfz51_2⟩ := Zy (v := (.int .i64 ((rd_T48 l0 x23_1).f1))) BK282.out 2
          obtain ⟨hcz51_3, hfz51_3⟩ := Zy (v := (.int .i64 ((rd_T48 l0 x23_1).f2))) BK282.out 3
          obtain ⟨hcz51_4, hfz51_4⟩ := Zy (v := (.int .i64 ((rd_T48 l0 x23_1).f3))) BK282.out 4
          obtain ⟨hcz51_5, hfz51_5⟩ := Zy (v := (.int .i64 ((rd_T48 l0 x23_1).f4))) BK282.out 5
          obtain ⟨hcz51_6, hfz51_6⟩ := Zy (v := (.int .i64 ((rd_T48 l0 x23_1).f5))) BK282.out 6
          obtain ⟨hcz51_7, hfz51_7⟩ := Zy (v := (.int .i64 ((rd_T48 l0 x23_1).f6))) BK282.out 7
          obtain ⟨hcz51_8, hfz51_8⟩ := Zy (v := (.int .i64 ((rd_T48 l0 x23_1).f7))) BK282.out 8
          go_wp2_with (first | ((with_reducible refine QbN (b := .append) (xs := #[.tmp 53, .tmp 61]) rfl ?_); at_builtin; refine Kd.R_append k50 (w0 := w) w.heap.size rfl (.tmp 53) (.tmp 61) 35 50 (.agg #[(.string ⟨#[]⟩), (.string ⟨#[]⟩), (.int .i64 0), (.int .i64 0), (.int .i64 0)]) 56 rfl Try.underlying35 info50 rfl (by decide) (by omega) u11 x11_1 (⟨(⟨(rd_T48 l0 x23_1).f0.f0, (rd_T48 l0 x23_1).f0.f1⟩ : S44), (rd_T48 l0 x23_1).f7, t285, t287⟩ : S50) [.string ((rd_T48 l0 x23_1).f0.f0), .string ((rd_T48 l0 x23_1).f0.f1), .int .i64 ((rd_T48 l0 x23_1).f7), .int .i64 t285, .int .i64 t287] (fun _ => True) (fun _ => False) rfl rfl ?aP (fun _ hk => hk.elim) ?aF ?aO ?aB ?aS ?aL ?_; (case aP => exact Qbz _ _ _ (⟨(⟨(rd_T48 l0 x23_1).f0.f0, (rd_T48 l0 x23_1).f0.f1⟩ : S44), (rd_T48 l0 x23_1).f7, t285, t287⟩ : S50)); (case aB => exact (Zc5 GE278.out GE279.out GE280.out GE282.out GE284.out)); (case aF => exact (fun _ _ => trivial)); (case aO => exact (Zr HO_11.out)); (case aS => exact (Qap (Zc5 GE278.out GE279.out GE280.out GE282.out GE284.out))); (case aL => have := LMc46.out; omega); intro v290 w52 ho hb hg hat; rw [← Ny289.out] at ho; have HO291 := Aside0.mk (ho); replace BK278 := Aside0.mk (QaW (g := gb278) (o := .cells #[.slice A1 l1.length c1] 30 (0, 0)) (Zu BK278.out) hg (Kd.R_ne HO_11.out BK278.out (by decide))); replace BK279 := Aside0.mk (QaW (g := gb279) (o := .cells #[.slice A2 l2.length c2] 31 (0, 0)) (Zu BK279.out) hg (Kd.R_ne HO_11.out BK279.out (by decide))); replace BK280 := Aside0.mk (QaW (g := gb280) (o := .cells #[.slice A3 l3.length c3] 32 (0, 0)) (Zu BK280.out) hg (Kd.R_ne HO_11.out BK280.out (by decide))); replace BK282 := Aside0.mk (QaW (g := gb282) (o := .cells #[.string ((rd_T48 l0 x23_1).f0.f0), .string ((rd_T48 l0 x23_1).f0.f1), .int .i64 ((rd_T48 l0 x23_1).f1), .int .i64 ((rd_T48 l0 x23_1).f2), .int .i64 ((rd_T48 l0 x23_1).f3), .int .i64 ((rd_T48 l0 x23_1).f4), .int .i64 ((rd_T48 l0 x23_1).f5), .int .i64 ((rd_T48 l0 x23_1).f6), .int .i64 ((rd_T48 l0 x23_1).f7)] 48 (0, 0)) (Zu BK282.out) hg (Kd.R_ne HO_11.out BK282.out (by decide))); replace BK284 := Aside0.mk (QaW (g := gb284) (o := .cells #[.string ((rd_T48 l0 x23_1).f0.f0), .string ((rd_T48 l0 x23_1).f0.f1)] 44 (0, 0)) (Zu BK284.out) hg (Kd.R_ne HO_11.out BK284.out (by decide))); replace HB := Aside0.mk (hb); clear HO_11; clear ho hb hg hat))
          go_roundg k1
          case measure => have := HK1.out; omega
          case rel => exact ⟨(y289), (wrap64 (x23_1 + 1)), (Zs), H', ⟨by have := HK1.out; omega⟩, ⟨Zr HO291.out⟩, ⟨Zu BK278.out⟩, ⟨Zu BK279.out⟩, ⟨Zu BK280.out⟩, ⟨Zc5 GE278.out GE279.out GE280.out GE282.out GE284.out⟩⟩
         rw [if_neg c46] at H
         exact absurd H (by simp)
        rw [if_neg c45] at H
        have c45b0 : (t288 == 0) = false := beq_eq_false_iff_ne.mpr c45
        have c45b1 : (t288 != 0) = true := bne_iff_ne.mpr c45
        (try simp only [c45b0, c45b1])
        simp only [Option.some.injEq, Prod.mk.injEq] at H
        obtain ⟨rfl, rfl⟩ := H
        go_wp2
        go_ret2
        exact ⟨_, Zq, by first | exact Kd.R_nil _ _ _ _ _ | exact Kd.N_nil _ _ _ _ _ | exact Kd.V_nil _ _ _ _ _ | exact Kd.Q_nil _ _ _ _ _ | exact Kd.S_nil _ _ _ _ _, Zc5 GE278.out GE279.out GE280.out GE282.out GE284.out⟩
       rw [if_neg c37] at H
       have c37b0 : (t286 == 0) = false := beq_eq_false_iff_ne.mpr c37
       have c37b1 : (t286 != 0) = true := bne_iff_ne.mpr c37
       (try simp only [c37b0, c37b1])
       simp only [Option.some.injEq, Prod.mk.injEq] at H
       obtain ⟨rfl, rfl⟩ := H
       go_wp2
       go_ret2
       exact ⟨_, Zq, by first | exact Kd.R_nil _ _ _ _ _ | exact Kd.N_nil _ _ _ _ _ | exact Kd.V_nil _ _ _ _ _ | exact Kd.Q_nil _ _ _ _ _ | exact Kd.S_nil _ _ _ _ _, Zc5 GE278.out GE279.out GE280.out GE282.out GE284.out⟩
      replace c18 := Bool.eq_false_iff.mpr c18
      subst c18
      have H1 : (some (([] : List (S50)), 2)) = some (r1, r2) := by rw [if_neg (show ¬ (false = true) by decide)] at H; exact H
      clear H
      have H := H1
      clear H1
      simp only [Option.some.injEq, Prod.mk.injEq] at H
      obtain ⟨rfl, rfl⟩ := H
      go_wp2
      go_ret2
      exact ⟨_, Zq, by first | exact Kd.R_nil _ _ _ _ _ | exact Kd.N_nil _ _ _ _ _ | exact Kd.V_nil _ _ _ _ _ | exact Kd.Q_nil _ _ _ _ _ | exact Kd.S_nil _ _ _ _ _, Zc4 GE278.out GE279.out GE280.out GE282.out⟩
     rw [if_neg c11] at H
     exact absurd H (by simp)
    rw [if_neg c10] at H
    exact absurd H (by simp)
   rw [if_neg c9] at H
   have c9b0 : decide (x23_1 < (l0.length : Int)) = false := decide_eq_false c9
   clear c9
   (try simp only [c9b0])
   simp only [Option.some.injEq, Prod.mk.injEq] at H
   obtain ⟨rfl, rfl⟩ := H
   go_wp2
   go_ret2
   exact ⟨_, Zq, Zr HO_11.out, Zc3 GE278.out GE279.out GE280.out⟩
end Go.Proofs.Ytfcaaefdmabkhaa.Pr
