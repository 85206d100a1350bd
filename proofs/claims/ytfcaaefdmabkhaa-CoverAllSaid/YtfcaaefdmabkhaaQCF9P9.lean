/- Functions' values and contracts, as the print wrote them. -/
import Derived.Test.YtfcaaefdmabkhaaQCF9P0
import Derived.Test.YtfcaaefdmabkhaaQCF9P5
import Derived.Test.YtfcaaefdmabkhaaQCF9P6
import Derived.Test.YtfcaaefdmabkhaaQCF9P8
import Derived.Test.YtfcaaefdmabkhaaQCF9P2
namespace Go.Proofs.Ytfcaaefdmabkhaa.Pr
open Go.RowKit Go.Proofs.YtfcaaefdmabkhaaW.PrintWords Go.Proofs.YtfcaaefdmabkhaaW.PrintLast Go.Proofs.YtfcaaefdmabkhaaW.PrintMore
attribute [local go_sem] QaP QaR QaX QaY QaJ QaK QaQ QaS   -- for this text's walks alone
set_option linter.unusedVariables false
set_option linter.unusedSimpArgs false
def contangolaw34_CoverAll.j0 : Nat → List (S48) → Bool → List (S46) → List (S84) → List (S98) → Option (Bool)
 | 0, _, _, _, _, _ => none
 | k + 1, x0, x28, x483000, x483001, x483002 => if x28 = true then ((Qbd.f k).bind fun t483 => (some t483)) else ((Qa7.f k x0 x483000 x483001 x483002).bind fun bt484 => ((QaE.f k x0 x483000 x483001 x483002).bind fun bt488 => ((QaC.f k bt484.1 bt488.1).bind fun t492 => (if t492 = true then (if bt484.2 = bt488.2 then ((Qbd.f k).bind fun t493 => (some t493)) else (some false)) else (some false)))))
def contangolaw34_CoverAll.f (k : Nat) (l0 : List (S48)) (l1_0 : List (S46)) (l1_1 : List (S84)) (l1_2 : List (S98)) : Option (Bool) := if (l0.length : Int) > 40 then (if (l0.length : Int) ≤ 1024 then (contangolaw34_CoverAll.j0 k l0 true l1_0 l1_1 l1_2) else (if (l1_0.length : Int) > 60 then (contangolaw34_CoverAll.j0 k l0 (decide ((l1_0.length : Int) ≤ 1024)) l1_0 l1_1 l1_2) else (contangolaw34_CoverAll.j0 k l0 false l1_0 l1_1 l1_2))) else (if (l1_0.length : Int) > 60 then (contangolaw34_CoverAll.j0 k l0 (decide ((l1_0.length : Int) ≤ 1024)) l1_0 l1_1 l1_2) else (contangolaw34_CoverAll.j0 k l0 false l1_0 l1_1 l1_2))
theorem contangolaw34_CoverAll.mono_l : ∀ k, (∀ y0 y1 y2 y3 y4, LeO (contangolaw34_CoverAll.j0 k y0 y1 y2 y3 y4) (contangolaw34_CoverAll.j0 (k + 1) y0 y1 y2 y3 y4))
 | 0 => fun _ _ _ _ _ r h => by simp [contangolaw34_CoverAll.j0] at h
 | k + 1 => by
  have ih0 := contangolaw34_CoverAll.mono_l k
  ·intro y0 y1 y2 y3 y4
   unfold contangolaw34_CoverAll.j0
   repeat' first
   | (with_reducible exact ih0 _ _ _ _ _)
   | (with_reducible exact Qbd.mono _)
   | (with_reducible exact QaC.mono _ _ _)
   | (with_reducible exact QaE.mono _ _ _ _ _)
   | (with_reducible exact Qa7.mono _ _ _ _ _)
   | (with_reducible exact LeO.refl _)
   | (with_reducible exact LeO.none _)
   | (with_reducible refine LeO.ite ?_ ?_)
   | (with_reducible refine LeO.bind ?_ (fun _ => ?_))
   | exact ih0 _ _ _ _ _
   | exact Qbd.mono _
   | exact QaC.mono _ _ _
   | exact QaE.mono _ _ _ _ _
   | exact Qa7.mono _ _ _ _ _
   | exact LeO.none _
   | refine LeO.ite ?_ ?_
   | refine LeO.bind ?_ (fun _ => ?_)
theorem contangolaw34_CoverAll.mono : ∀ a0 a1 a2 a3 k, LeO (contangolaw34_CoverAll.f k a0 a1 a2 a3) (contangolaw34_CoverAll.f (k + 1) a0 a1 a2 a3) := by
 intro a0 a1 a2 a3 k
 have ih0 := contangolaw34_CoverAll.mono_l k
 unfold contangolaw34_CoverAll.f
 repeat' first
   | (with_reducible exact ih0 _ _ _ _ _)
   | (with_reducible exact Qbd.mono _)
   | (with_reducible exact QaC.mono _ _ _)
   | (with_reducible exact QaE.mono _ _ _ _ _)
   | (with_reducible exact Qa7.mono _ _ _ _ _)
   | (with_reducible exact LeO.refl _)
   | (with_reducible exact LeO.none _)
   | (with_reducible refine LeO.ite ?_ ?_)
   | (with_reducible refine LeO.bind ?_ (fun _ => ?_))
   | exact ih0 _ _ _ _ _
   | exact Qbd.mono _
   | exact QaC.mono _ _ _
   | exact QaE.mono _ _ _ _ _
   | exact Qa7.mono _ _ _ _ _
   | exact LeO.none _
   | refine LeO.ite ?_ ?_
   | refine LeO.bind ?_ (fun _ => ?_)
set_option maxHeartbeats 8000000 in
set_option maxRecDepth 100000 in
theorem contangolaw34_CoverAll.calls (k : Nat) (A0 : Option Addr) (c0 : Nat) (l0 : List (S48)) (A1_0 : Option Addr) (c1_0 : Nat) (l1_0 : List (S46)) (A1_1 : Option Addr) (c1_1 : Nat) (l1_1 : List (S84)) (A1_2 : Option Addr) (c1_2 : Nat) (l1_2 : List (S98)) (r : Bool) (w : World) (hr0 : Kd.C k48 w A0 l0.length l0) (hc0 : l0.length ≤ c0) (hr1_0 : Kd.C k46 w A1_0 l1_0.length l1_0) (hc1_0 : l1_0.length ≤ c1_0) (hr1_1 : Kd.C k84 w A1_1 l1_1.length l1_1) (hc1_1 : l1_1.length ≤ c1_1) (hr1_2 : Kd.C k98 w A1_2 l1_2.length l1_2) (hc1_2 : l1_2.length ≤ c1_2) (h : contangolaw34_CoverAll.f k l0 l1_0 l1_1 l1_2 = some r) :
  Calls Try.prog 4 #[.slice A0 l0.length c0, .agg #[.slice A1_0 l1_0.length c1_0, .slice A1_1 l1_1.length c1_1, .slice A1_2 l1_2.length c1_2]] w fun e w' => e = .returned (.bool r) ∧ Below w.heap.size w w' := by
 have hu34 := Try.underlying34
 have HR0 := Aside0.mk hr0
 have HC0 := Aside0.mk hc0
 clear hr0 hc0
 have HR1_0 := Aside0.mk hr1_0
 have HC1_0 := Aside0.mk hc1_0
 clear hr1_0 hc1_0
 have HR1_1 := Aside0.mk hr1_1
 have HC1_1 := Aside0.mk hc1_1
 clear hr1_1 hc1_1
 have HR1_2 := Aside0.mk hr1_2
 have HC1_2 := Aside0.mk hc1_2
 clear hr1_2 hc1_2
 have HB := Aside0.mk (Below.refl w.heap.size w)
 have H : (if (l0.length : Int) > 40 then (if (l0.length : Int) ≤ 1024 then (contangolaw34_CoverAll.j0 k l0 true l1_0 l1_1 l1_2) else (if (l1_0.length : Int) > 60 then (contangolaw34_CoverAll.j0 k l0 (decide ((l1_0.length : Int) ≤ 1024)) l1_0 l1_1 l1_2) else (contangolaw34_CoverAll.j0 k l0 false l1_0 l1_1 l1_2))) else (if (l1_0.length : Int) > 60 then (contangolaw34_CoverAll.j0 k l0 (decide ((l1_0.length : Int) ≤ 1024)) l1_0 l1_1 l1_2) else (contangolaw34_CoverAll.j0 k l0 false l1_0 l1_1 l1_2))) = some r := h
 clear h
 have HC3 := Aside0.mk H
 clear H
 go_enter Try.func4, Try.ntmps4
 go_upto_region 1 with (first | ((with_reducible refine QaW (N := 3) rfl ?_); (try (refine Qbz (by rfl) ?_; dsimp only)); refine Qa2 ?hg (N := 3) ?hd (cs := #[.slice A1_0 l1_0.length c1_0, .slice A1_1 l1_1.length c1_1, .slice A1_2 l1_2.length c1_2]) (t := 34) ?hr ?_; (case hd => rfl); (case hg => rfl); (case hr => first | (go_simp; done) | (go_simp; rfl)); intro gb482 hg w4 hbox hb; have n0_ := Aside0.mk (Qao (Zb) hb); have n1_ := Aside0.mk (hbox); have n2_ := Aside0.mk ((by rw [hg]; exact (Qam (Zb)) : w.heap.size ≤ gb482)); have n3_ := Aside0.mk ((by rw [hg]; exact (Qam (Zb)) : w.heap.size ≤ gb482)); clear HB; have HB := n0_; have BK482 := n1_; have GW482 := n2_; have GE482 := n3_; clear n0_ n1_ n2_ n3_; clear hb hbox hg))
 (try simp only [Act.put, List.setIfInBounds_toArray, List.set_cons_zero, List.set_cons_succ])
 go_cut [28] (fun v28 wc => ∃ (kq : Nat) (x28_2 : Bool), v28 = .bool x28_2 ∧ Aside0 (contangolaw34_CoverAll.j0 kq l0 x28_2 l1_0 l1_1 l1_2 = some r) ∧ Aside0 (kq ≤ k) ∧ Aside0 (wc.heap[gb482]? = some (.cells #[(.slice A1_0 l1_0.length c1_0), (.slice A1_1 l1_1.length c1_1), (.slice A1_2 l1_2.length c1_2)] 34 (0, 0))) ∧ Aside0 (Below w.heap.size w wc))
 case first =>
  have H := HC3.out
  clear HC3
  by_cases c5 : (l0.length : Int) > 40
  ·rw [if_pos c5] at H
   have c5b0 : decide (40 < (l0.length : Int)) = true := decide_eq_true c5
   have c5b1 : decide (40 < l0.length) = true := decide_eq_true (by omega)
   clear c5
   by_cases c6 : (l0.length : Int) ≤ 1024
   ·rw [if_pos c6] at H
    have c6b0 : decide ((l0.length : Int) ≤ 1024) = true := decide_eq_true c6
    have c6b1 : decide (l0.length ≤ 1024) = true := decide_eq_true (by omega)
    clear c6
    have H' := Aside0.mk H
    clear H
    go_wp2
    go_meet
    case rel => exact ⟨_, (true), (Zs), H', ⟨by first | omega | exact Nat.le_refl _⟩, ⟨Zu BK482.out⟩, ⟨Zc1 GE482.out⟩⟩
   ·rw [if_neg c6] at H
    have c6b0 : decide ((l0.length : Int) ≤ 1024) = false := decide_eq_false c6
    have c6b1 : decide (l0.length ≤ 1024) = false := decide_eq_false (by omega)
    clear c6
    by_cases c7 : (l1_0.length : Int) > 60
    ·rw [if_pos c7] at H
     have c7b0 : decide (60 < (l1_0.length : Int)) = true := decide_eq_true c7
     have c7b1 : decide (60 < l1_0.length) = true := decide_eq_true (by omega)
     clear c7
     have H' := Aside0.mk H
     clear H
     have hcz8_0 : w4.cell? ⟨gb482, 0, none⟩ = some (.slice A1_0 l1_0.length c1_0) := (Qai BK482.out 0).trans rfl
     have hcz8_1 : w4.cell? ⟨gb482, 1, none⟩ = some (.slice A1_1 l1_1.length c1_1) := (Qai BK482.out 1).trans rfl
     have hcz8_2 : w4.cell? ⟨gb482, 2, none⟩ = some (.slice A1_2 l1_2.length c1_2) := (Qai BK482.out 2).trans rfl
     have hfz8_0 := Qah BK482.out 0
     have hfz8_1 := Qah BK482.out 1
     have hfz8_2 := Qah BK482.out 2
     go_wp2
     go_meet
     case rel => exact ⟨_, (decide ((l1_0.length : Int) ≤ 1024)), (Zs), H', ⟨by first | omega | exact Nat.le_refl _⟩, ⟨Zu BK482.out⟩, ⟨Zc1 GE482.out⟩⟩
    ·rw [if_neg c7] at H
     have c7b0 : decide (60 < (l1_0.length : Int)) = false := decide_eq_false c7
     have c7b1 : decide (60 < l1_0.length) = false := decide_eq_false (by omega)
     clear c7
     have H' := Aside0.mk H
     clear H
     have hcz9_0 : w4.cell? ⟨gb482, 0, none⟩ = some (.slice A1_0 l1_0.length c1_0) := (Qai BK482.out 0).trans rfl
     have hcz9_1 : w4.cell? ⟨gb482, 1, none⟩ = some (.slice A1_1 l1_1.length c1_1) := (Qai BK482.out 1).trans rfl
     have hcz9_2 : w4.cell? ⟨gb482, 2, none⟩ = some (.slice A1_2 l1_2.length c1_2) := (Qai BK482.out 2).trans rfl
     have hfz9_0 := Qah BK482.out 0
     have hfz9_1 := Qah BK482.out 1
     have hfz9_2 := Qah BK482.out 2
     go_wp2
     go_meet
     case rel => exact ⟨_, (false), (Zs), H', ⟨by first | omega | exact Nat.le_refl _⟩, ⟨Zu BK482.out⟩, ⟨Zc1 GE482.out⟩⟩
  ·rw [if_neg c5] at H
   have c5b0 : decide (40 < (l0.length : Int)) = false := decide_eq_false c5
   have c5b1 : decide (40 < l0.length) = false := decide_eq_false (by omega)
   clear c5
   by_cases c10 : (l1_0.length : Int) > 60
   ·rw [if_pos c10] at H
    have c10b0 : decide (60 < (l1_0.length : Int)) = true := decide_eq_true c10
    have c10b1 : decide (60 < l1_0.length) = true := decide_eq_true (by omega)
    clear c10
    have H' := Aside0.mk H
    clear H
    have hcz11_0 : w4.cell? ⟨gb482, 0, none⟩ = some (.slice A1_0 l1_0.length c1_0) := (Qai BK482.out 0).trans rfl
    have hcz11_1 : w4.cell? ⟨gb482, 1, none⟩ = some (.slice A1_1 l1_1.length c1_1) := (Qai BK482.out 1).trans rfl
    have hcz11_2 : w4.cell? ⟨gb482, 2, none⟩ = some (.slice A1_2 l1_2.length c1_2) := (Qai BK482.out 2).trans rfl
    have hfz11_0 := Qah BK482.out 0
    have hfz11_1 := Qah BK482.out 1
    have hfz11_2 := Qah BK482.out 2
    go_wp2
    go_meet
    case rel => exact ⟨_, (decide ((l1_0.length : Int) ≤ 1024)), (Zs), H', ⟨by first | omega | exact Nat.le_refl _⟩, ⟨Zu BK482.out⟩, ⟨Zc1 GE482.out⟩⟩
   ·rw [if_neg c10] at H
    have c10b0 : decide (60 < (l1_0.length : Int)) = false := decide_eq_false c10
    have c10b1 : decide (60 < l1_0.length) = false := decide_eq_false (by omega)
    clear c10
    have H' := Aside0.mk H
    clear H
    have hcz12_0 : w4.cell? ⟨gb482, 0, none⟩ = some (.slice A1_0 l1_0.length c1_0) := (Qai BK482.out 0).trans rfl
    have hcz12_1 : w4.cell? ⟨gb482, 1, none⟩ = some (.slice A1_1 l1_1.length c1_1) := (Qai BK482.out 1).trans rfl
    have hcz12_2 : w4.cell? ⟨gb482, 2, none⟩ = some (.slice A1_2 l1_2.length c1_2) := (Qai BK482.out 2).trans rfl
    have hfz12_0 := Qah BK482.out 0
    have hfz12_1 := Qah BK482.out 1
    have hfz12_2 := Qah BK482.out 2
    go_wp2
    go_meet
    case rel => exact ⟨_, (false), (Zs), H', ⟨by first | omega | exact Nat.le_refl _⟩, ⟨Zu BK482.out⟩, ⟨Zc1 GE482.out⟩⟩
 case rest =>
  clear HC3
  try clear c1
  try clear p2
  try clear c4
  try clear c5
  try clear c5b0
  try clear c5b1
  try clear c6
  try clear c6b0
  try clear c6b1
  try clear c7
  try clear c7b0
  try clear c7b1
  try clear c10
  try clear c10b0
  try clear c10b1
  try clear hcz11_0
  try clear hcz11_1
  try clear hcz11_2
  try clear hcz12_0
  try clear hcz12_1
  try clear hcz12_2
  try clear hcz8_0
  try clear hcz8_1
  try clear hcz8_2
  try clear hcz9_0
  try clear hcz9_1
  try clear hcz9_2
  try clear hfz11_0
  try clear hfz11_1
  try clear hfz11_2
  try clear hfz12_0
  try clear hfz12_1
  try clear hfz12_2
  try clear hfz8_0
  try clear hfz8_1
  try clear hfz8_2
  try clear hfz9_0
  try clear hfz9_1
  try clear hfz9_2
  obtain ⟨kq, x28_2, rfl, HA, HJ2, BK482, HB⟩ := hcut
  cases kq with
  | zero => exact absurd HA.out (by simp [contangolaw34_CoverAll.j0])
  | succ kj2 =>
   have H := HA.out
   clear HA
   simp only [contangolaw34_CoverAll.j0] at H
   by_cases c13 : x28_2 = true
   ·subst c13
    have H1 : ((Qbd.f kj2).bind fun t483 => (some t483)) = some r := by rw [if_pos rfl] at H; exact H
    clear H
    have H := H1
    clear H1
    replace H := Option.bind_eq_some_iff.mp H
    obtain ⟨t483, A140, H⟩ := H
    replace H : (some t483) = some r := H
    have A14 := Aside0.mk A140
    clear A140
    obtain rfl := Option.some.inj H
    go_wp2_with (first | ((with_reducible refine Qaw (f := 17) rfl ?_); refine goesL_ (some 29) rfl rfl Try.func17 (by kernel_rfl) rfl #[] rfl (Zl) ?_; (with_reducible refine (Qbd.calls kj2  t483 _ A14.out).mono ?_); rintro e w15 ⟨rfl, hb⟩; refine ⟨_, rfl, ?_⟩; have n0_ := Aside0.mk (Qan (g := gb482) (o := .cells #[.slice A1_0 l1_0.length c1_0, .slice A1_1 l1_1.length c1_1, .slice A1_2 l1_2.length c1_2] 34 (0, 0)) (Zu BK482.out) hb); have n1_ := Aside0.mk (Qao (Zc1 GE482.out) hb); clear BK482; clear HB; have BK482 := n0_; have HB := n1_; clear n0_ n1_; (try clear hb); (try clear hb2); (try clear hk); (try clear hi)))
    go_ret
    exact ⟨Zq, Zc1 GE482.out⟩
   ·replace c13 := Bool.eq_false_iff.mpr c13
    subst c13
    have H1 : ((Qa7.f kj2 l0 l1_0 l1_1 l1_2).bind fun bt484 => ((QaE.f kj2 l0 l1_0 l1_1 l1_2).bind fun bt488 => ((QaC.f kj2 bt484.1 bt488.1).bind fun t492 => (if t492 = true then (if bt484.2 = bt488.2 then ((Qbd.f kj2).bind fun t493 => (some t493)) else (some false)) else (some false))))) = some r := by rw [if_neg (show ¬ (false = true) by decide)] at H; exact H
    clear H
    have H := H1
    clear H1
    replace H := Option.bind_eq_some_iff.mp H
    obtain ⟨⟨t484, t485⟩, A160, H⟩ := H
    replace H : ((QaE.f kj2 l0 l1_0 l1_1 l1_2).bind fun bt488 => ((QaC.f kj2 t484 bt488.1).bind fun t492 => (if t492 = true then (if t485 = bt488.2 then ((Qbd.f kj2).bind fun t493 => (some t493)) else (some false)) else (some false)))) = some r := H
    have A16 := Aside0.mk A160
    clear A160
    replace H := Option.bind_eq_some_iff.mp H
    obtain ⟨⟨t488, t489⟩, A170, H⟩ := H
    replace H : ((QaC.f kj2 t484 t488).bind fun t492 => (if t492 = true then (if t485 = t489 then ((Qbd.f kj2).bind fun t493 => (some t493)) else (some false)) else (some false))) = some r := H
    have A17 := Aside0.mk A170
    clear A170
    have hcz18_0 : wc.cell? ⟨gb482, 0, none⟩ = some (.slice A1_0 l1_0.length c1_0) := (Qai BK482.out 0).trans rfl
    have hcz18_1 : wc.cell? ⟨gb482, 1, none⟩ = some (.slice A1_1 l1_1.length c1_1) := (Qai BK482.out 1).trans rfl
    have hcz18_2 : wc.cell? ⟨gb482, 2, none⟩ = some (.slice A1_2 l1_2.length c1_2) := (Qai BK482.out 2).trans rfl
    have hfz18_0 := Qah BK482.out 0
    have hfz18_1 := Qah BK482.out 1
    have hfz18_2 := Qah BK482.out 2
    go_upto_region 5 with (first | ((with_reducible refine Qaw (f := 18) rfl ?_); refine goesL_ (some 38) rfl rfl Try.func18 (by kernel_rfl) rfl #[.slice A0 l0.length c0, .slice A1_0 l1_0.length c1_0, .slice A1_1 l1_1.length c1_1, .slice A1_2 l1_2.length c1_2] rfl (Zl) ?_; (with_reducible refine (Qa7.calls kj2 _ _ l0 _ _ l1_0 _ _ l1_1 _ _ l1_2 t484 t485 _ ?side1 ?side2 ?side3 ?side4 ?side5 ?side6 ?side7 ?side8 A16.out).mono ?_); (case side1 => exact Zv (Kd.C_below HR0.out HB.out)); (case side2 => exact HC0.out); (case side3 => exact Zv (Kd.C_below HR1_0.out HB.out)); (case side4 => exact HC1_0.out); (case side5 => exact Zv (Kd.C_below HR1_1.out HB.out)); (case side6 => exact HC1_1.out); (case side7 => exact Zv (Kd.C_below HR1_2.out HB.out)); (case side8 => exact HC1_2.out); rintro e w19 ⟨v486, rfl, ho0, hb⟩; refine ⟨_, rfl, ?_⟩; have n0_ := Aside0.mk (Kd.R_lower ho0 (Qam (Zc1 GE482.out))); have n1_ := Aside0.mk (Qan (g := gb482) (o := .cells #[.slice A1_0 l1_0.length c1_0, .slice A1_1 l1_1.length c1_1, .slice A1_2 l1_2.length c1_2] 34 (0, 0)) (Zu BK482.out) hb); have n2_ := Aside0.mk (Qao (Zc1 GE482.out) hb); clear BK482; clear HB; have HO487 := n0_; have BK482 := n1_; have HB := n2_; clear n0_ n1_ n2_; (try clear hb); (try clear hb2); (try clear hk); (try clear hi); (try clear ho0); have hcz20_0 : w19.cell? ⟨gb482, 0, none⟩ = some (.slice A1_0 l1_0.length c1_0) := (Qai BK482.out 0).trans rfl; have hcz20_1 : w19.cell? ⟨gb482, 1, none⟩ = some (.slice A1_1 l1_1.length c1_1) := (Qai BK482.out 1).trans rfl; have hcz20_2 : w19.cell? ⟨gb482, 2, none⟩ = some (.slice A1_2 l1_2.length c1_2) := (Qai BK482.out 2).trans rfl; have hfz20_0 := Qah BK482.out 0; have hfz20_1 := Qah BK482.out 1; have hfz20_2 := Qah BK482.out 2) | ((with_reducible refine Qaw (f := 19) rfl ?_); refine goesL_ (some 49) rfl rfl Try.func19 (by kernel_rfl) rfl #[.slice A0 l0.length c0, .slice A1_0 l1_0.length c1_0, .slice A1_1 l1_1.length c1_1, .slice A1_2 l1_2.length c1_2] rfl (Zl) ?_; (with_reducible refine (QaE.calls kj2 _ _ l0 _ _ l1_0 _ _ l1_1 _ _ l1_2 t488 t489 _ ?side1 ?side2 ?side3 ?side4 ?side5 ?side6 ?side7 ?side8 A17.out).mono ?_); (case side1 => exact Zv (Kd.C_below HR0.out HB.out)); (case side2 => exact HC0.out); (case side3 => exact Zv (Kd.C_below HR1_0.out HB.out)); (case side4 => exact HC1_0.out); (case side5 => exact Zv (Kd.C_below HR1_1.out HB.out)); (case side6 => exact HC1_1.out); (case side7 => exact Zv (Kd.C_below HR1_2.out HB.out)); (case side8 => exact HC1_2.out); rintro e w21 ⟨v490, rfl, ho0, hb⟩; refine ⟨_, rfl, ?_⟩; have n0_ := Aside0.mk (Kd.R_below (Zr HO487.out) hb); have n1_ := Aside0.mk (Kd.R_lower ho0 (Qam (Zc1 GE482.out))); have n2_ := Aside0.mk (Qan (g := gb482) (o := .cells #[.slice A1_0 l1_0.length c1_0, .slice A1_1 l1_1.length c1_1, .slice A1_2 l1_2.length c1_2] 34 (0, 0)) (Zu BK482.out) hb); have n3_ := Aside0.mk (Qao (Zc1 GE482.out) hb); clear HO487; clear BK482; clear HB; have HO487 := n0_; have HO491 := n1_; have BK482 := n2_; have HB := n3_; clear n0_ n1_ n2_ n3_; (try clear hb); (try clear hb2); (try clear hk); (try clear hi); (try clear ho0)))
    (try simp only [Act.put, List.setIfInBounds_toArray, List.set_cons_zero, List.set_cons_succ])
    replace H := Option.bind_eq_some_iff.mp H
    obtain ⟨t492, A220, H⟩ := H
    replace H : (if t492 = true then (if t485 = t489 then ((Qbd.f kj2).bind fun t493 => (some t493)) else (some false)) else (some false)) = some r := H
    have A22 := Aside0.mk A220
    clear A220
    by_cases c23 : t492 = true
    ·subst c23
     have H1 : (if t485 = t489 then ((Qbd.f kj2).bind fun t493 => (some t493)) else (some false)) = some r := by rw [if_pos rfl] at H; exact H
     clear H
     have H := H1
     clear H1
     by_cases c24 : t485 = t489
     ·rw [if_pos c24] at H
      have c24b0 : (t485 == t489) = true := beq_iff_eq.mpr c24
      have c24b1 : (t485 != t489) = false := bne_eq_false_iff_eq.mpr c24
      clear c24
      (try simp only [c24b0, c24b1])
      replace H := Option.bind_eq_some_iff.mp H
      obtain ⟨t493, A250, H⟩ := H
      replace H : (some t493) = some r := H
      have A25 := Aside0.mk A250
      clear A250
      obtain rfl := Option.some.inj H
      obtain ⟨Ao26, co26, eo26⟩ := Kd.R_slice HO487.out
      subst eo26
      obtain ⟨Ao27, co27, eo27⟩ := Kd.R_slice HO491.out
      subst eo27
      go_wp2_with (first | ((with_reducible refine Qaw (f := 20) rfl ?_); refine goesL_ (some 54) rfl rfl Try.func20 (by kernel_rfl) rfl #[.slice Ao26 t484.length co26, .slice Ao27 t488.length co27] rfl (Zl) ?_; (with_reducible refine (QaC.calls kj2 _ _ t484 _ _ t488 true _ ?side1 ?side2 ?side3 ?side4 A22.out).mono ?_); (case side1 => repeat (first | exact (Kd.R_reads' HO487.out).2.2 | (with_reducible refine Kd.C_alloc ?_ _) | (with_reducible refine Kd.C_drewN ?_ _) | (with_reducible refine Kd.C_drew ?_))); (case side2 => exact (Kd.R_reads' HO487.out).2.1); (case side3 => repeat (first | exact (Kd.R_reads' HO491.out).2.2 | (with_reducible refine Kd.C_alloc ?_ _) | (with_reducible refine Kd.C_drewN ?_ _) | (with_reducible refine Kd.C_drew ?_))); (case side4 => exact (Kd.R_reads' HO491.out).2.1); rintro e w' ⟨rfl, ⟨nd, rfl⟩⟩; refine ⟨_, rfl, ?_⟩) | (go_at_call 17; (with_reducible refine (Qbd.calls kj2  t493 _ A25.out).mono ?_); rintro e w28 ⟨rfl, hb⟩; have n0_ := Aside0.mk (Kd.R_below (Zr HO487.out) hb); have n1_ := Aside0.mk (Kd.R_below (Zr HO491.out) hb); have n2_ := Aside0.mk (Qan (g := gb482) (o := .cells #[.slice A1_0 l1_0.length c1_0, .slice A1_1 l1_1.length c1_1, .slice A1_2 l1_2.length c1_2] 34 (0, 0)) (Zu BK482.out) hb); have n3_ := Aside0.mk (Qao (Zc1 GE482.out) hb); clear HO487; clear HO491; clear BK482; clear HB; have HO487 := n0_; have HO491 := n1_; have BK482 := n2_; have HB := n3_; clear n0_ n1_ n2_ n3_; (try clear hb); (try clear hb2); (try clear hk); (try clear hi)))
      go_ret
      exact ⟨Zq, Zc1 GE482.out⟩
     ·rw [if_neg c24] at H
      have c24b0 : (t485 == t489) = false := beq_eq_false_iff_ne.mpr c24
      have c24b1 : (t485 != t489) = true := bne_iff_ne.mpr c24
      (try simp only [c24b0, c24b1])
      obtain rfl := Option.some.inj H
      obtain ⟨Ao29, co29, eo29⟩ := Kd.R_slice HO487.out
      subst eo29
      obtain ⟨Ao30, co30, eo30⟩ := Kd.R_slice HO491.out
      subst eo30
      go_wp2_with (first | ((with_reducible refine Qaw (f := 20) rfl ?_); refine goesL_ (some 54) rfl rfl Try.func20 (by kernel_rfl) rfl #[.slice Ao29 t484.length co29, .slice Ao30 t488.length co30] rfl (Zl) ?_; (with_reducible refine (QaC.calls kj2 _ _ t484 _ _ t488 true _ ?side1 ?side2 ?side3 ?side4 A22.out).mono ?_); (case side1 => repeat (first | exact (Kd.R_reads' HO487.out).2.2 | (with_reducible refine Kd.C_alloc ?_ _) | (with_reducible refine Kd.C_drewN ?_ _) | (with_reducible refine Kd.C_drew ?_))); (case side2 => exact (Kd.R_reads' HO487.out).2.1); (case side3 => repeat (first | exact (Kd.R_reads' HO491.out).2.2 | (with_reducible refine Kd.C_alloc ?_ _) | (with_reducible refine Kd.C_drewN ?_ _) | (with_reducible refine Kd.C_drew ?_))); (case side4 => exact (Kd.R_reads' HO491.out).2.1); rintro e w' ⟨rfl, ⟨nd, rfl⟩⟩; refine ⟨_, rfl, ?_⟩))
      go_ret
      exact ⟨Zq, Zc1 GE482.out⟩
    ·replace c23 := Bool.eq_false_iff.mpr c23
     subst c23
     have H1 : (some false) = some r := by rw [if_neg (show ¬ (false = true) by decide)] at H; exact H
     clear H
     have H := H1
     clear H1
     obtain rfl := Option.some.inj H
     obtain ⟨Ao31, co31, eo31⟩ := Kd.R_slice HO487.out
     subst eo31
     obtain ⟨Ao32, co32, eo32⟩ := Kd.R_slice HO491.out
     subst eo32
     go_wp2_with (first | ((with_reducible refine Qaw (f := 20) rfl ?_); refine goesL_ (some 54) rfl rfl Try.func20 (by kernel_rfl) rfl #[.slice Ao31 t484.length co31, .slice Ao32 t488.length co32] rfl (Zl) ?_; (with_reducible refine (QaC.calls kj2 _ _ t484 _ _ t488 false _ ?side1 ?side2 ?side3 ?side4 A22.out).mono ?_); (case side1 => repeat (first | exact (Kd.R_reads' HO487.out).2.2 | (with_reducible refine Kd.C_alloc ?_ _) | (with_reducible refine Kd.C_drewN ?_ _) | (with_reducible refine Kd.C_drew ?_))); (case side2 => exact (Kd.R_reads' HO487.out).2.1); (case side3 => repeat (first | exact (Kd.R_reads' HO491.out).2.2 | (with_reducible refine Kd.C_alloc ?_ _) | (with_reducible refine Kd.C_drewN ?_ _) | (with_reducible refine Kd.C_drew ?_))); (case side4 => exact (Kd.R_reads' HO491.out).2.1); rintro e w' ⟨rfl, ⟨nd, rfl⟩⟩; refine ⟨_, rfl, ?_⟩))
     go_ret
     exact ⟨Zq, Zc1 GE482.out⟩
end Go.Proofs.Ytfcaaefdmabkhaa.Pr
