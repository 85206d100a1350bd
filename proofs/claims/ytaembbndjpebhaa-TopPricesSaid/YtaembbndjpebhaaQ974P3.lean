/- Functions' values and contracts, as the print wrote them. -/
import Derived.Test.YtaembbndjpebhaaQ974P0
import Derived.Test.YtaembbndjpebhaaQ974P2
import Derived.Test.YtaembbndjpebhaaQ974P1
namespace Go.Proofs.Ytaembbndjpebhaa.Pr
open Bool renaming true → T
open Bool renaming false → F
open Go.RowKit Go.Proofs.YtaembbndjpebhaaW.PrintWords Go.Proofs.YtaembbndjpebhaaW.PrintLast Go.Proofs.YtaembbndjpebhaaW.PrintMore
attribute [local go_sem] QaN QaP QaT QaU QaK QaL QaO QaQ   -- for this text's walks alone
set_option linter.unusedVariables false
set_option linter.unusedSimpArgs false
set_option maxRecDepth 100000
set_option maxHeartbeats 8000000
def Qau.j0 : Nat → Int → Bool → ByteArray → Int → Int → Int → Int → Int → Bool → Option (Int)
 | 0, _, _, _, _, _, _, _, _, _ => none
 | k + 1, x1, x20, x472000, x472001, x472002, x472003, x472004, x472005, x472006 => if x20 = T then (some 17) else (if x472003 = 0 then (none) else (if (Int.tmod x1 x472003) = 0 then (some 0) else (some 16)))
def Qau.f (k : Nat) (a0_0 : ByteArray) (a0_1 : Int) (a0_2 : Int) (a0_3 : Int) (a0_4 : Int) (a0_5 : Int) (a0_6 : Bool) (a1 : Int) : Option (Int) := (Qan.f k a0_0 a0_1 a0_2 a0_3 a0_4 a0_5 a0_6).bind fun t472 => (if t472 = 0 then (if a1 < a0_4 then (Qau.j0 k a1 T a0_0 a0_1 a0_2 a0_3 a0_4 a0_5 a0_6) else (Qau.j0 k a1 (decide (a1 > a0_5)) a0_0 a0_1 a0_2 a0_3 a0_4 a0_5 a0_6)) else (some t472))
theorem Qau.mono_l : ∀ k, (∀ y0 y1 y2 y3 y4 y5 y6 y7 y8, LeO (Qau.j0 k y0 y1 y2 y3 y4 y5 y6 y7 y8) (Qau.j0 (k + 1) y0 y1 y2 y3 y4 y5 y6 y7 y8))
 | 0 => fun _ _ _ _ _ _ _ _ _ r h => by simp [Qau.j0] at h
 | k + 1 => by
  have ih0 := Qau.mono_l k
  intro y0 y1 y2 y3 y4 y5 y6 y7 y8
  unfold Qau.j0
  exact ZM2 ih0 Qan.mono
theorem Qau.mono : ∀ a0 a1 a2 a3 a4 a5 a6 a7 k, LeO (Qau.f k a0 a1 a2 a3 a4 a5 a6 a7) (Qau.f (k + 1) a0 a1 a2 a3 a4 a5 a6 a7) := by
 intro a0 a1 a2 a3 a4 a5 a6 a7 k
 have ih0 := Qau.mono_l k
 unfold Qau.f
 exact ZM2 ih0 Qan.mono
theorem Qau.calls (k : Nat) (a0_0 : ByteArray) (a0_1 : Int) (a0_2 : Int) (a0_3 : Int) (a0_4 : Int) (a0_5 : Int) (a0_6 : Bool) (a1 : Int) (r : Int) (w : World) (h : Qau.f k a0_0 a0_1 a0_2 a0_3 a0_4 a0_5 a0_6 a1 = some r) :
  Calls Try.prog 42 #[.agg #[.string a0_0, .int .i64 a0_1, .int .i64 a0_2, .int .i64 a0_3, .int .i64 a0_4, .int .i64 a0_5, .bool a0_6], .int .i64 a1] w fun e w' => e = .returned (.int .i64 r) ∧ Below w.heap.size w w' := by
 have hu73 := Try.underlying73
 have HB := Aside0.mk (Below.refl w.heap.size w)
 have H : ((Qan.f k a0_0 a0_1 a0_2 a0_3 a0_4 a0_5 a0_6).bind fun t472 => (if t472 = 0 then (if a1 < a0_4 then (Qau.j0 k a1 T a0_0 a0_1 a0_2 a0_3 a0_4 a0_5 a0_6) else (Qau.j0 k a1 (decide (a1 > a0_5)) a0_0 a0_1 a0_2 a0_3 a0_4 a0_5 a0_6)) else (some t472))) = some r := h
 clear h
 replace H := Option.bind_eq_some_iff.mp H
 obtain ⟨t472, A30, H⟩ := H
 replace H : (if t472 = 0 then (if a1 < a0_4 then (Qau.j0 k a1 T a0_0 a0_1 a0_2 a0_3 a0_4 a0_5 a0_6) else (Qau.j0 k a1 (decide (a1 > a0_5)) a0_0 a0_1 a0_2 a0_3 a0_4 a0_5 a0_6)) else (some t472)) = some r := H
 have A3 := Aside0.mk A30
 clear A30
 go_enter Try.func42, Try.ntmps42
 go_upto_if 9 with (first | ((with_reducible refine QaJ (N := 2) rfl ?_); refine Zbx (N := 2) (cs := #[.string a0_0, .int .i64 a0_1, .int .i64 a0_2, .int .i64 a0_3, .int .i64 a0_4, .int .i64 a0_5, .bool a0_6]) (t := 73) ?_; intro gb471 hg w4 hbox hb; have BK471 := Aside0.mk (hbox); have GW471 := Aside0.mk (Zt w hg (Zb)); have GE471 := GW471; replace HB := Aside0.mk (Qao (Zb) hb); clear hb hbox hg; obtain ⟨hcz5_0, hfz5_0⟩ := Zy (v := (.string a0_0)) BK471.out 0; obtain ⟨hcz5_1, hfz5_1⟩ := Zy (v := (.int .i64 a0_1)) BK471.out 1; obtain ⟨hcz5_2, hfz5_2⟩ := Zy (v := (.int .i64 a0_2)) BK471.out 2; obtain ⟨hcz5_3, hfz5_3⟩ := Zy (v := (.int .i64 a0_3)) BK471.out 3; obtain ⟨hcz5_4, hfz5_4⟩ := Zy (v := (.int .i64 a0_4)) BK471.out 4; obtain ⟨hcz5_5, hfz5_5⟩ := Zy (v := (.int .i64 a0_5)) BK471.out 5; obtain ⟨hcz5_6, hfz5_6⟩ := Zy (v := (.bool a0_6)) BK471.out 6) | ((with_reducible refine QaC (f := 65) rfl ?_); refine goesL_ (some 7) rfl rfl Try.func65 (by kernel_rfl) rfl #[.agg #[.string a0_0, .int .i64 a0_1, .int .i64 a0_2, .int .i64 a0_3, .int .i64 a0_4, .int .i64 a0_5, .bool a0_6]] rfl (Zl) ?_; (with_reducible refine (Qan.calls k a0_0 a0_1 a0_2 a0_3 a0_4 a0_5 a0_6 t472 _ A3.out).mono ?_); rintro e w6 ⟨rfl, hb⟩; refine ⟨_, rfl, ?_⟩; replace BK471 := Aside0.mk (Zi BK471.out hb); replace HB := Aside0.mk (Qao (Zc1 GE471.out) hb); (try clear hb); (try clear hb2); (try clear hk); (try clear hi)))
 (try simp only [Act.put, Zj, Zk, Zm])
 by_cases c7 : t472 = 0
 ·rw [if_pos c7] at H
  have c7b0 : (t472 == 0) = T := beq_iff_eq.mpr c7
  have c7b1 : (t472 != 0) = F := bne_eq_false_iff_eq.mpr c7
  clear c7
  (try simp only [c7b0, c7b1])
  have HC8 := Aside0.mk H
  clear H
  go_upto_region 4 with (fail)
  go_cut [20] (fun v20 wc => ∃ (kq : Nat) (x20_7 : Bool), v20 = .bool x20_7 ∧ Aside0 (Qau.j0 kq a1 x20_7 a0_0 a0_1 a0_2 a0_3 a0_4 a0_5 a0_6 = some r) ∧ Aside0 (kq ≤ k) ∧ Aside0 (wc.heap[gb471]? = some (.cells #[.string a0_0, .int .i64 a0_1, .int .i64 a0_2, .int .i64 a0_3, .int .i64 a0_4, .int .i64 a0_5, .bool a0_6] 73 (0, 0))) ∧ Aside0 (Below w.heap.size w wc))
  case first =>
   have H := HC8.out
   clear HC8
   by_cases c9 : a1 < a0_4
   ·rw [if_pos c9] at H
    have c9b0 : decide (a1 < a0_4) = T := decide_eq_true c9
    clear c9
    have H' := Aside0.mk H
    clear H
    obtain ⟨hcz10_0, hfz10_0⟩ := Zy (v := (.string a0_0)) BK471.out 0
    obtain ⟨hcz10_1, hfz10_1⟩ := Zy (v := (.int .i64 a0_1)) BK471.out 1
    obtain ⟨hcz10_2, hfz10_2⟩ := Zy (v := (.int .i64 a0_2)) BK471.out 2
    obtain ⟨hcz10_3, hfz10_3⟩ := Zy (v := (.int .i64 a0_3)) BK471.out 3
    obtain ⟨hcz10_4, hfz10_4⟩ := Zy (v := (.int .i64 a0_4)) BK471.out 4
    obtain ⟨hcz10_5, hfz10_5⟩ := Zy (v := (.int .i64 a0_5)) BK471.out 5
    obtain ⟨hcz10_6, hfz10_6⟩ := Zy (v := (.bool a0_6)) BK471.out 6
    go_wp2
    go_meet
    case rel => exact ⟨_, (T), (Zs), H', ⟨by first | omega | exact Nat.le_refl _⟩, ⟨Zu BK471.out⟩, ⟨Zc1 GE471.out⟩⟩
   rw [if_neg c9] at H
   have c9b0 : decide (a1 < a0_4) = F := decide_eq_false c9
   clear c9
   have H' := Aside0.mk H
   clear H
   obtain ⟨hcz11_0, hfz11_0⟩ := Zy (v := (.string a0_0)) BK471.out 0
   obtain ⟨hcz11_1, hfz11_1⟩ := Zy (v := (.int .i64 a0_1)) BK471.out 1
   obtain ⟨hcz11_2, hfz11_2⟩ := Zy (v := (.int .i64 a0_2)) BK471.out 2
   obtain ⟨hcz11_3, hfz11_3⟩ := Zy (v := (.int .i64 a0_3)) BK471.out 3
   obtain ⟨hcz11_4, hfz11_4⟩ := Zy (v := (.int .i64 a0_4)) BK471.out 4
   obtain ⟨hcz11_5, hfz11_5⟩ := Zy (v := (.int .i64 a0_5)) BK471.out 5
   obtain ⟨hcz11_6, hfz11_6⟩ := Zy (v := (.bool a0_6)) BK471.out 6
   go_wp2
   go_meet
   case rel => exact ⟨_, (decide (a1 > a0_5)), (Zs), H', ⟨by first | omega | exact Nat.le_refl _⟩, ⟨Zu BK471.out⟩, ⟨Zc1 GE471.out⟩⟩
  case rest =>
   clear HC8
   try clear p2
   try clear c4
   try clear c6
   try clear c7
   try clear c7b0
   try clear c7b1
   try clear c9
   try clear c9b0
   try clear hcz10_0
   try clear hcz10_1
   try clear hcz10_2
   try clear hcz10_3
   try clear hcz10_4
   try clear hcz10_5
   try clear hcz10_6
   try clear hcz11_0
   try clear hcz11_1
   try clear hcz11_2
   try clear hcz11_3
   try clear hcz11_4
   try clear hcz11_5
   try clear hcz11_6
   try clear hcz5_0
   try clear hcz5_1
   try clear hcz5_2
   try clear hcz5_3
   try clear hcz5_4
   try clear hcz5_5
   try clear hcz5_6
   try clear hfz10_0
   try clear hfz10_1
   try clear hfz10_2
   try clear hfz10_3
   try clear hfz10_4
   try clear hfz10_5
   try clear hfz10_6
   try clear hfz11_0
   try clear hfz11_1
   try clear hfz11_2
   try clear hfz11_3
   try clear hfz11_4
   try clear hfz11_5
   try clear hfz11_6
   try clear hfz5_0
   try clear hfz5_1
   try clear hfz5_2
   try clear hfz5_3
   try clear hfz5_4
   try clear hfz5_5
   try clear hfz5_6
   obtain ⟨kq, x20_7, rfl, HA, HJ7, BK471, HB⟩ := hcut
   cases kq with
   | zero => exact absurd HA.out (by simp [Qau.j0])
   | succ kj7 =>
    have H := HA.out
    clear HA
    simp only [Qau.j0] at H
    by_cases c12 : x20_7 = T
    ·subst c12
     have H1 : (some 17) = some r := by rw [if_pos rfl] at H; exact H
     clear H
     have H := H1
     clear H1
     obtain rfl := Option.some.inj H
     go_wp2
     go_ret
     exact ⟨Zq, Zc1 GE471.out⟩
    replace c12 := Bool.eq_false_iff.mpr c12
    subst c12
    have H1 : (if a0_3 = 0 then (none) else (if (Int.tmod a1 a0_3) = 0 then (some 0) else (some 16))) = some r := by rw [if_neg (show ¬ (F = T) by decide)] at H; exact H
    clear H
    have H := H1
    clear H1
    by_cases c13 : a0_3 = 0
    ·rw [if_pos c13] at H
     exact absurd H (by simp)
    rw [if_neg c13] at H
    have c13b0 : (a0_3 == 0) = F := beq_eq_false_iff_ne.mpr c13
    have c13b1 : (a0_3 != 0) = T := bne_iff_ne.mpr c13
    (try simp only [c13b0, c13b1])
    obtain ⟨hcz14_0, hfz14_0⟩ := Zy (v := (.string a0_0)) BK471.out 0
    obtain ⟨hcz14_1, hfz14_1⟩ := Zy (v := (.int .i64 a0_1)) BK471.out 1
    obtain ⟨hcz14_2, hfz14_2⟩ := Zy (v := (.int .i64 a0_2)) BK471.out 2
    obtain ⟨hcz14_3, hfz14_3⟩ := Zy (v := (.int .i64 a0_3)) BK471.out 3
    obtain ⟨hcz14_4, hfz14_4⟩ := Zy (v := (.int .i64 a0_4)) BK471.out 4
    obtain ⟨hcz14_5, hfz14_5⟩ := Zy (v := (.int .i64 a0_5)) BK471.out 5
    obtain ⟨hcz14_6, hfz14_6⟩ := Zy (v := (.bool a0_6)) BK471.out 6
    go_upto_if 25 with (fail)
    by_cases c15 : (Int.tmod a1 a0_3) = 0
    ·rw [if_pos c15] at H
     have c15b0 : ((Int.tmod a1 a0_3) == 0) = T := beq_iff_eq.mpr c15
     have c15b1 : ((Int.tmod a1 a0_3) != 0) = F := bne_eq_false_iff_eq.mpr c15
     clear c15
     (try simp only [c15b0, c15b1])
     obtain rfl := Option.some.inj H
     go_wp2
     go_ret
     exact ⟨Zq, Zc1 GE471.out⟩
    rw [if_neg c15] at H
    have c15b0 : ((Int.tmod a1 a0_3) == 0) = F := beq_eq_false_iff_ne.mpr c15
    have c15b1 : ((Int.tmod a1 a0_3) != 0) = T := bne_iff_ne.mpr c15
    (try simp only [c15b0, c15b1])
    obtain rfl := Option.some.inj H
    go_wp2
    go_ret
    exact ⟨Zq, Zc1 GE471.out⟩
 rw [if_neg c7] at H
 have c7b0 : (t472 == 0) = F := beq_eq_false_iff_ne.mpr c7
 have c7b1 : (t472 != 0) = T := bne_iff_ne.mpr c7
 (try simp only [c7b0, c7b1])
 obtain rfl := Option.some.inj H
 go_wp2
 go_ret
 exact ⟨Zq, Zc1 GE471.out⟩
mutual
def Qaz.j0 : Nat → Bool → ByteArray → Int → Int → Int → Int → Int → Bool → List (S130) → Int → Int → Int → Int → Int → Int → Int → Option (Int)
 | 0, _, _, _, _, _, _, _, _, _, _, _, _, _, _, _, _ => none
 | k + 1, x21, x500000, x500001, x500002, x500003, x500004, x500005, x500006, x501000, x501001, x501002, x501003, x501004, x501005, x501006, x501007 => if x21 = T then (some 2) else (if x501003 < 1 then (some 18) else (if x501003 > 1048576 then (some 18) else ((QaB.f k x501000 x501001 x501002 x501003 x501004 x501005 x501006 x501007).bind fun t503 => (Qaz.l0 k t503 (t503.length : Int) 0 x500000 x500001 x500002 x500003 x500004 x500005 x500006 x501000 x501001 x501002 x501003 x501004 x501005 x501006 x501007))))
def Qaz.l0 : Nat → List Int → Int → Int → ByteArray → Int → Int → Int → Int → Int → Bool → List (S130) → Int → Int → Int → Int → Int → Int → Int → Option (Int)
 | 0, _, _, _, _, _, _, _, _, _, _, _, _, _, _, _, _, _, _ => none
 | k + 1, x57, x58, x59, x500000, x500001, x500002, x500003, x500004, x500005, x500006, x501000, x501001, x501002, x501003, x501004, x501005, x501006, x501007 => if x59 < x58 then (if 0 ≤ x59 then (if x59 < (x57.length : Int) then ((Qau.f k x500000 x500001 x500002 x500003 x500004 x500005 x500006 (rd x57 x59)).bind fun t507 => (if t507 = 0 then (Qaz.l0 k x57 x58 (wrap64 (x59 + 1)) x500000 x500001 x500002 x500003 x500004 x500005 x500006 x501000 x501001 x501002 x501003 x501004 x501005 x501006 x501007) else (some t507))) else (none)) else (none)) else (if x501004 = 0 then ((Qa0.f x501007).bind fun t508 => (if t508 = T then (some 0) else (some 17))) else (if x501005 = 0 then ((Qa0.f x501007).bind fun t509 => (if t509 = T then (some 0) else (some 17))) else (if x501004 > x501005 then (some 17) else ((Qa0.f x501007).bind fun t510 => (if t510 = T then (some 0) else (some 17))))))
end
def Qaz.f (k : Nat) (a0_0 : ByteArray) (a0_1 : Int) (a0_2 : Int) (a0_3 : Int) (a0_4 : Int) (a0_5 : Int) (a0_6 : Bool) (l1_0 : List (S130)) (a1_1 : Int) (a1_2 : Int) (a1_3 : Int) (a1_4 : Int) (a1_5 : Int) (a1_6 : Int) (a1_7 : Int) : Option (Int) := (Qan.f k a0_0 a0_1 a0_2 a0_3 a0_4 a0_5 a0_6).bind fun t501 => (if t501 = 0 then ((Qaw.f k l1_0).bind fun t502 => (if t502 = 0 then (if a1_1 < 0 then (Qaz.j0 k T a0_0 a0_1 a0_2 a0_3 a0_4 a0_5 a0_6 l1_0 a1_1 a1_2 a1_3 a1_4 a1_5 a1_6 a1_7) else (if a1_1 > 86399 then (Qaz.j0 k T a0_0 a0_1 a0_2 a0_3 a0_4 a0_5 a0_6 l1_0 a1_1 a1_2 a1_3 a1_4 a1_5 a1_6 a1_7) else (if a1_2 < 0 then (Qaz.j0 k T a0_0 a0_1 a0_2 a0_3 a0_4 a0_5 a0_6 l1_0 a1_1 a1_2 a1_3 a1_4 a1_5 a1_6 a1_7) else (if a1_2 > 86399 then (Qaz.j0 k T a0_0 a0_1 a0_2 a0_3 a0_4 a0_5 a0_6 l1_0 a1_1 a1_2 a1_3 a1_4 a1_5 a1_6 a1_7) else (Qaz.j0 k (decide (a1_1 > a1_2)) a0_0 a0_1 a0_2 a0_3 a0_4 a0_5 a0_6 l1_0 a1_1 a1_2 a1_3 a1_4 a1_5 a1_6 a1_7))))) else (some t502))) else (some t501))
theorem Qaz.mono_l : ∀ k, (∀ y0 y1 y2 y3 y4 y5 y6 y7 y8 y9 y10 y11 y12 y13 y14 y15, LeO (Qaz.j0 k y0 y1 y2 y3 y4 y5 y6 y7 y8 y9 y10 y11 y12 y13 y14 y15) (Qaz.j0 (k + 1) y0 y1 y2 y3 y4 y5 y6 y7 y8 y9 y10 y11 y12 y13 y14 y15)) ∧ (∀ y0 y1 y2 y3 y4 y5 y6 y7 y8 y9 y10 y11 y12 y13 y14 y15 y16 y17, LeO (Qaz.l0 k y0 y1 y2 y3 y4 y5 y6 y7 y8 y9 y10 y11 y12 y13 y14 y15 y16 y17) (Qaz.l0 (k + 1) y0 y1 y2 y3 y4 y5 y6 y7 y8 y9 y10 y11 y12 y13 y14 y15 y16 y17))
 | 0 => ⟨fun _ _ _ _ _ _ _ _ _ _ _ _ _ _ _ _ r h => by simp [Qaz.j0] at h, fun _ _ _ _ _ _ _ _ _ _ _ _ _ _ _ _ _ _ r h => by simp [Qaz.l0] at h⟩
 | k + 1 => by
  obtain ⟨ih0, ih1⟩ := Qaz.mono_l k
  refine ⟨?_, ?_⟩
  ·intro y0 y1 y2 y3 y4 y5 y6 y7 y8 y9 y10 y11 y12 y13 y14 y15
   unfold Qaz.j0
   exact ZM6 ih0 ih1 QaB.mono Qan.mono Qau.mono Qaw.mono
  intro y0 y1 y2 y3 y4 y5 y6 y7 y8 y9 y10 y11 y12 y13 y14 y15 y16 y17
  unfold Qaz.l0
  exact ZM6 ih0 ih1 QaB.mono Qan.mono Qau.mono Qaw.mono
theorem Qaz.mono : ∀ a0 a1 a2 a3 a4 a5 a6 a7 a8 a9 a10 a11 a12 a13 a14 k, LeO (Qaz.f k a0 a1 a2 a3 a4 a5 a6 a7 a8 a9 a10 a11 a12 a13 a14) (Qaz.f (k + 1) a0 a1 a2 a3 a4 a5 a6 a7 a8 a9 a10 a11 a12 a13 a14) := by
 intro a0 a1 a2 a3 a4 a5 a6 a7 a8 a9 a10 a11 a12 a13 a14 k
 obtain ⟨ih0, ih1⟩ := Qaz.mono_l k
 unfold Qaz.f
 exact ZM6 ih0 ih1 QaB.mono Qan.mono Qau.mono Qaw.mono
theorem Qaz.calls (k : Nat) (a0_0 : ByteArray) (a0_1 : Int) (a0_2 : Int) (a0_3 : Int) (a0_4 : Int) (a0_5 : Int) (a0_6 : Bool) (A1_0 : Option Addr) (c1_0 : Nat) (l1_0 : List (S130)) (a1_1 : Int) (a1_2 : Int) (a1_3 : Int) (a1_4 : Int) (a1_5 : Int) (a1_6 : Int) (a1_7 : Int) (r : Int) (w : World) (hr1_0 : Kd.C k130 w A1_0 l1_0.length l1_0) (hc1_0 : l1_0.length ≤ c1_0) (h : Qaz.f k a0_0 a0_1 a0_2 a0_3 a0_4 a0_5 a0_6 l1_0 a1_1 a1_2 a1_3 a1_4 a1_5 a1_6 a1_7 = some r) :
  Calls Try.prog 63 #[.agg #[.string a0_0, .int .i64 a0_1, .int .i64 a0_2, .int .i64 a0_3, .int .i64 a0_4, .int .i64 a0_5, .bool a0_6], .agg #[.slice A1_0 l1_0.length c1_0, .int .i64 a1_1, .int .i64 a1_2, .int .i64 a1_3, .int .i64 a1_4, .int .i64 a1_5, .int .i64 a1_6, .int .i64 a1_7]] w fun e w' => e = .returned (.int .i64 r) ∧ Below w.heap.size w w' := by
 have hu73 := Try.underlying73
 have hu76 := Try.underlying76
 have HR1_0 := Aside0.mk hr1_0
 have HC1_0 := Aside0.mk hc1_0
 clear hr1_0 hc1_0
 have HB := Aside0.mk (Below.refl w.heap.size w)
 have H : ((Qan.f k a0_0 a0_1 a0_2 a0_3 a0_4 a0_5 a0_6).bind fun t501 => (if t501 = 0 then ((Qaw.f k l1_0).bind fun t502 => (if t502 = 0 then (if a1_1 < 0 then (Qaz.j0 k T a0_0 a0_1 a0_2 a0_3 a0_4 a0_5 a0_6 l1_0 a1_1 a1_2 a1_3 a1_4 a1_5 a1_6 a1_7) else (if a1_1 > 86399 then (Qaz.j0 k T a0_0 a0_1 a0_2 a0_3 a0_4 a0_5 a0_6 l1_0 a1_1 a1_2 a1_3 a1_4 a1_5 a1_6 a1_7) else (if a1_2 < 0 then (Qaz.j0 k T a0_0 a0_1 a0_2 a0_3 a0_4 a0_5 a0_6 l1_0 a1_1 a1_2 a1_3 a1_4 a1_5 a1_6 a1_7) else (if a1_2 > 86399 then (Qaz.j0 k T a0_0 a0_1 a0_2 a0_3 a0_4 a0_5 a0_6 l1_0 a1_1 a1_2 a1_3 a1_4 a1_5 a1_6 a1_7) else (Qaz.j0 k (decide (a1_1 > a1_2)) a0_0 a0_1 a0_2 a0_3 a0_4 a0_5 a0_6 l1_0 a1_1 a1_2 a1_3 a1_4 a1_5 a1_6 a1_7))))) else (some t502))) else (some t501))) = some r := h
 clear h
 replace H := Option.bind_eq_some_iff.mp H
 obtain ⟨t501, A30, H⟩ := H
 replace H : (if t501 = 0 then ((Qaw.f k l1_0).bind fun t502 => (if t502 = 0 then (if a1_1 < 0 then (Qaz.j0 k T a0_0 a0_1 a0_2 a0_3 a0_4 a0_5 a0_6 l1_0 a1_1 a1_2 a1_3 a1_4 a1_5 a1_6 a1_7) else (if a1_1 > 86399 then (Qaz.j0 k T a0_0 a0_1 a0_2 a0_3 a0_4 a0_5 a0_6 l1_0 a1_1 a1_2 a1_3 a1_4 a1_5 a1_6 a1_7) else (if a1_2 < 0 then (Qaz.j0 k T a0_0 a0_1 a0_2 a0_3 a0_4 a0_5 a0_6 l1_0 a1_1 a1_2 a1_3 a1_4 a1_5 a1_6 a1_7) else (if a1_2 > 86399 then (Qaz.j0 k T a0_0 a0_1 a0_2 a0_3 a0_4 a0_5 a0_6 l1_0 a1_1 a1_2 a1_3 a1_4 a1_5 a1_6 a1_7) else (Qaz.j0 k (decide (a1_1 > a1_2)) a0_0 a0_1 a0_2 a0_3 a0_4 a0_5 a0_6 l1_0 a1_1 a1_2 a1_3 a1_4 a1_5 a1_6 a1_7))))) else (some t502))) else (some t501)) = some r := H
 have A3 := Aside0.mk A30
 clear A30
 go_enter Try.func63, Try.ntmps63
 go_upto_if 13 with (first | ((with_reducible refine QaJ (N := 2) rfl ?_); refine Zbx (N := 2) (cs := #[.string a0_0, .int .i64 a0_1, .int .i64 a0_2, .int .i64 a0_3, .int .i64 a0_4, .int .i64 a0_5, .bool a0_6]) (t := 73) ?_; intro gb499 hg w4 hbox hb; have BK499 := Aside0.mk (hbox); have GW499 := Aside0.mk (Zt w hg (Zb)); have GE499 := GW499; replace HB := Aside0.mk (Qao (Zb) hb); clear hb hbox hg) | ((with_reducible refine QaJ (N := 3) rfl ?_); refine Zbx (N := 3) (cs := #[.slice A1_0 l1_0.length c1_0, .int .i64 a1_1, .int .i64 a1_2, .int .i64 a1_3, .int .i64 a1_4, .int .i64 a1_5, .int .i64 a1_6, .int .i64 a1_7]) (t := 76) ?_; intro gb500 hg w5 hbox hb; have BK500 := Aside0.mk (hbox); have GW500 := Aside0.mk (Zt w hg (Zc1 GE499.out)); have GE500 := GW500; have NB499_500 := Aside0.mk (Zn hg BK499.out); have NB500_499 := Aside0.mk NB499_500.out.symm; replace BK499 := Aside0.mk (Zi BK499.out hb); replace HB := Aside0.mk (Qao (Zc1 GE499.out) hb); clear hb hbox hg; have hnb6 := NB499_500.out; have hnc6 := NB500_499.out; obtain ⟨hcz7_0, hfz7_0⟩ := Zy (v := (.string a0_0)) BK499.out 0; obtain ⟨hcz7_1, hfz7_1⟩ := Zy (v := (.int .i64 a0_1)) BK499.out 1; obtain ⟨hcz7_2, hfz7_2⟩ := Zy (v := (.int .i64 a0_2)) BK499.out 2; obtain ⟨hcz7_3, hfz7_3⟩ := Zy (v := (.int .i64 a0_3)) BK499.out 3; obtain ⟨hcz7_4, hfz7_4⟩ := Zy (v := (.int .i64 a0_4)) BK499.out 4; obtain ⟨hcz7_5, hfz7_5⟩ := Zy (v := (.int .i64 a0_5)) BK499.out 5; obtain ⟨hcz7_6, hfz7_6⟩ := Zy (v := (.bool a0_6)) BK499.out 6) | ((with_reducible refine QaC (f := 65) rfl ?_); refine goesL_ (some 11) rfl rfl Try.func65 (by kernel_rfl) rfl #[.agg #[.string a0_0, .int .i64 a0_1, .int .i64 a0_2, .int .i64 a0_3, .int .i64 a0_4, .int .i64 a0_5, .bool a0_6]] rfl (Zl) ?_; (with_reducible refine (Qan.calls k a0_0 a0_1 a0_2 a0_3 a0_4 a0_5 a0_6 t501 _ A3.out).mono ?_); rintro e w8 ⟨rfl, hb⟩; refine ⟨_, rfl, ?_⟩; replace BK499 := Aside0.mk (Zi BK499.out hb); replace BK500 := Aside0.mk (Zi BK500.out hb); replace HB := Aside0.mk (Qao (Zc2 GE499.out GE500.out) hb); (try clear hb); (try clear hb2); (try clear hk); (try clear hi)))
 (try simp only [Act.put, Zj, Zk, Zm])
 by_cases c9 : t501 = 0
 ·rw [if_pos c9] at H
  have c9b0 : (t501 == 0) = T := beq_iff_eq.mpr c9
  have c9b1 : (t501 != 0) = F := bne_eq_false_iff_eq.mpr c9
  clear c9
  (try simp only [c9b0, c9b1])
  replace H := Option.bind_eq_some_iff.mp H
  obtain ⟨t502, A100, H⟩ := H
  replace H : (if t502 = 0 then (if a1_1 < 0 then (Qaz.j0 k T a0_0 a0_1 a0_2 a0_3 a0_4 a0_5 a0_6 l1_0 a1_1 a1_2 a1_3 a1_4 a1_5 a1_6 a1_7) else (if a1_1 > 86399 then (Qaz.j0 k T a0_0 a0_1 a0_2 a0_3 a0_4 a0_5 a0_6 l1_0 a1_1 a1_2 a1_3 a1_4 a1_5 a1_6 a1_7) else (if a1_2 < 0 then (Qaz.j0 k T a0_0 a0_1 a0_2 a0_3 a0_4 a0_5 a0_6 l1_0 a1_1 a1_2 a1_3 a1_4 a1_5 a1_6 a1_7) else (if a1_2 > 86399 then (Qaz.j0 k T a0_0 a0_1 a0_2 a0_3 a0_4 a0_5 a0_6 l1_0 a1_1 a1_2 a1_3 a1_4 a1_5 a1_6 a1_7) else (Qaz.j0 k (decide (a1_1 > a1_2)) a0_0 a0_1 a0_2 a0_3 a0_4 a0_5 a0_6 l1_0 a1_1 a1_2 a1_3 a1_4 a1_5 a1_6 a1_7))))) else (some t502)) = some r := H
  have A10 := Aside0.mk A100
  clear A100
  have hnb11 := NB500_499.out
  have hnc11 := NB499_500.out
  obtain ⟨hcz12_0, hfz12_0⟩ := Zy (v := (.slice A1_0 l1_0.length c1_0)) BK500.out 0
  obtain ⟨hcz12_1, hfz12_1⟩ := Zy (v := (.int .i64 a1_1)) BK500.out 1
  obtain ⟨hcz12_2, hfz12_2⟩ := Zy (v := (.int .i64 a1_2)) BK500.out 2
  obtain ⟨hcz12_3, hfz12_3⟩ := Zy (v := (.int .i64 a1_3)) BK500.out 3
  obtain ⟨hcz12_4, hfz12_4⟩ := Zy (v := (.int .i64 a1_4)) BK500.out 4
  obtain ⟨hcz12_5, hfz12_5⟩ := Zy (v := (.int .i64 a1_5)) BK500.out 5
  obtain ⟨hcz12_6, hfz12_6⟩ := Zy (v := (.int .i64 a1_6)) BK500.out 6
  obtain ⟨hcz12_7, hfz12_7⟩ := Zy (v := (.int .i64 a1_7)) BK500.out 7
  go_upto_if 19 with (first | ((with_reducible refine QaC (f := 82) rfl ?_); refine goesL_ (some 17) rfl rfl Try.func82 (by kernel_rfl) rfl #[.slice A1_0 l1_0.length c1_0] rfl (Zl) ?_; (with_reducible refine (Qaw.calls k _ _ l1_0 t502 _ ?side1 ?side2 A10.out).mono ?_); (case side1 => exact Zv (Kd.C_below HR1_0.out HB.out)); (case side2 => exact HC1_0.out); rintro e w13 ⟨rfl, hb⟩; refine ⟨_, rfl, ?_⟩; replace BK499 := Aside0.mk (Zi BK499.out hb); replace BK500 := Aside0.mk (Zi BK500.out hb); replace HB := Aside0.mk (Qao (Zc2 GE499.out GE500.out) hb); (try clear hb); (try clear hb2); (try clear hk); (try clear hi)))
  (try simp only [Act.put, Zj, Zk, Zm])
  by_cases c14 : t502 = 0
  ·rw [if_pos c14] at H
   have c14b0 : (t502 == 0) = T := beq_iff_eq.mpr c14
   have c14b1 : (t502 != 0) = F := bne_eq_false_iff_eq.mpr c14
   clear c14
   (try simp only [c14b0, c14b1])
   have HC15 := Aside0.mk H
   clear H
   go_upto_region 7 with (fail)
   go_cut [21] (fun v21 wc => ∃ (kq : Nat) (x21_14 : Bool), v21 = .bool x21_14 ∧ Aside0 (Qaz.j0 kq x21_14 a0_0 a0_1 a0_2 a0_3 a0_4 a0_5 a0_6 l1_0 a1_1 a1_2 a1_3 a1_4 a1_5 a1_6 a1_7 = some r) ∧ Aside0 (kq ≤ k) ∧ Aside0 (wc.heap[gb499]? = some (.cells #[.string a0_0, .int .i64 a0_1, .int .i64 a0_2, .int .i64 a0_3, .int .i64 a0_4, .int .i64 a0_5, .bool a0_6] 73 (0, 0))) ∧ Aside0 (wc.heap[gb500]? = some (.cells #[(.slice A1_0 l1_0.length c1_0), .int .i64 a1_1, .int .i64 a1_2, .int .i64 a1_3, .int .i64 a1_4, .int .i64 a1_5, .int .i64 a1_6, .int .i64 a1_7] 76 (0, 0))) ∧ Aside0 (Below w.heap.size w wc))
   case first =>
    have H := HC15.out
    clear HC15
    by_cases c16 : a1_1 < 0
    ·rw [if_pos c16] at H
     have c16b0 : decide (a1_1 < 0) = T := decide_eq_true c16
     clear c16
     have H' := Aside0.mk H
     clear H
     have hnb17 := NB500_499.out
     have hnc17 := NB499_500.out
     obtain ⟨hcz18_0, hfz18_0⟩ := Zy (v := (.slice A1_0 l1_0.length c1_0)) BK500.out 0
     obtain ⟨hcz18_1, hfz18_1⟩ := Zy (v := (.int .i64 a1_1)) BK500.out 1
     obtain ⟨hcz18_2, hfz18_2⟩ := Zy (v := (.int .i64 a1_2)) BK500.out 2
     obtain ⟨hcz18_3, hfz18_3⟩ := Zy (v := (.int .i64 a1_3)) BK500.out 3
     obtain ⟨hcz18_4, hfz18_4⟩ := Zy (v := (.int .i64 a1_4)) BK500.out 4
     obtain ⟨hcz18_5, hfz18_5⟩ := Zy (v := (.int .i64 a1_5)) BK500.out 5
     obtain ⟨hcz18_6, hfz18_6⟩ := Zy (v := (.int .i64 a1_6)) BK500.out 6
     obtain ⟨hcz18_7, hfz18_7⟩ := Zy (v := (.int .i64 a1_7)) BK500.out 7
     go_wp2
     go_meet
     case rel => exact ⟨_, (T), (Zs), H', ⟨by first | omega | exact Nat.le_refl _⟩, ⟨Zu BK499.out⟩, ⟨Zu BK500.out⟩, ⟨Zc2 GE499.out GE500.out⟩⟩
    rw [if_neg c16] at H
    have c16b0 : decide (a1_1 < 0) = F := decide_eq_false c16
    clear c16
    by_cases c19 : a1_1 > 86399
    ·rw [if_pos c19] at H
     have c19b0 : decide (86399 < a1_1) = T := decide_eq_true c19
     clear c19
     have H' := Aside0.mk H
     clear H
     have hnb20 := NB500_499.out
     have hnc20 := NB499_500.out
     obtain ⟨hcz21_0, hfz21_0⟩ := Zy (v := (.slice A1_0 l1_0.length c1_0)) BK500.out 0
     obtain ⟨hcz21_1, hfz21_1⟩ := Zy (v := (.int .i64 a1_1)) BK500.out 1
     obtain ⟨hcz21_2, hfz21_2⟩ := Zy (v := (.int .i64 a1_2)) BK500.out 2
     obtain ⟨hcz21_3, hfz21_3⟩ := Zy (v := (.int .i64 a1_3)) BK500.out 3
     obtain ⟨hcz21_4, hfz21_4⟩ := Zy (v := (.int .i64 a1_4)) BK500.out 4
     obtain ⟨hcz21_5, hfz21_5⟩ := Zy (v := (.int .i64 a1_5)) BK500.out 5
     obtain ⟨hcz21_6, hfz21_6⟩ := Zy (v := (.int .i64 a1_6)) BK500.out 6
     obtain ⟨hcz21_7, hfz21_7⟩ := Zy (v := (.int .i64 a1_7)) BK500.out 7
     go_wp2
     go_meet
     case rel => exact ⟨_, (T), (Zs), H', ⟨by first | omega | exact Nat.le_refl _⟩, ⟨Zu BK499.out⟩, ⟨Zu BK500.out⟩, ⟨Zc2 GE499.out GE500.out⟩⟩
    rw [if_neg c19] at H
    have c19b0 : decide (86399 < a1_1) = F := decide_eq_false c19
    clear c19
    by_cases c22 : a1_2 < 0
    ·rw [if_pos c22] at H
     have c22b0 : decide (a1_2 < 0) = T := decide_eq_true c22
     clear c22
     have H' := Aside0.mk H
     clear H
     have hnb23 := NB500_499.out
     have hnc23 := NB499_500.out
     obtain ⟨hcz24_0, hfz24_0⟩ := Zy (v := (.slice A1_0 l1_0.length c1_0)) BK500.out 0
     obtain ⟨hcz24_1, hfz24_1⟩ := Zy (v := (.int .i64 a1_1)) BK500.out 1
     obtain ⟨hcz24_2, hfz24_2⟩ := Zy (v := (.int .i64 a1_2)) BK500.out 2
     obtain ⟨hcz24_3, hfz24_3⟩ := Zy (v := (.int .i64 a1_3)) BK500.out 3
     obtain ⟨hcz24_4, hfz24_4⟩ := Zy (v := (.int .i64 a1_4)) BK500.out 4
     obtain ⟨hcz24_5, hfz24_5⟩ := Zy (v := (.int .i64 a1_5)) BK500.out 5
     obtain ⟨hcz24_6, hfz24_6⟩ := Zy (v := (.int .i64 a1_6)) BK500.out 6
     obtain ⟨hcz24_7, hfz24_7⟩ := Zy (v := (.int .i64 a1_7)) BK500.out 7
     go_wp2
     go_meet
     case rel => exact ⟨_, (T), (Zs), H', ⟨by first | omega | exact Nat.le_refl _⟩, ⟨Zu BK499.out⟩, ⟨Zu BK500.out⟩, ⟨Zc2 GE499.out GE500.out⟩⟩
    rw [if_neg c22] at H
    have c22b0 : decide (a1_2 < 0) = F := decide_eq_false c22
    clear c22
    by_cases c25 : a1_2 > 86399
    ·rw [if_pos c25] at H
     have c25b0 : decide (86399 < a1_2) = T := decide_eq_true c25
     clear c25
     have H' := Aside0.mk H
     clear H
     have hnb26 := NB500_499.out
     have hnc26 := NB499_500.out
     obtain ⟨hcz27_0, hfz27_0⟩ := Zy (v := (.slice A1_0 l1_0.length c1_0)) BK500.out 0
     obtain ⟨hcz27_1, hfz27_1⟩ := Zy (v := (.int .i64 a1_1)) BK500.out 1
     obtain ⟨hcz27_2, hfz27_2⟩ := Zy (v := (.int .i64 a1_2)) BK500.out 2
     obtain ⟨hcz27_3, hfz27_3⟩ := Zy (v := (.int .i64 a1_3)) BK500.out 3
     obtain ⟨hcz27_4, hfz27_4⟩ := Zy (v := (.int .i64 a1_4)) BK500.out 4
     obtain ⟨hcz27_5, hfz27_5⟩ := Zy (v := (.int .i64 a1_5)) BK500.out 5
     obtain ⟨hcz27_6, hfz27_6⟩ := Zy (v := (.int .i64 a1_6)) BK500.out 6
     obtain ⟨hcz27_7, hfz27_7⟩ := Zy (v := (.int .i64 a1_7)) BK500.out 7
     go_wp2
     go_meet
     case rel => exact ⟨_, (T), (Zs), H', ⟨by first | omega | exact Nat.le_refl _⟩, ⟨Zu BK499.out⟩, ⟨Zu BK500.out⟩, ⟨Zc2 GE499.out GE500.out⟩⟩
    rw [if_neg c25] at H
    have c25b0 : decide (86399 < a1_2) = F := decide_eq_false c25
    clear c25
    have H' := Aside0.mk H
    clear H
    have hnb28 := NB500_499.out
    have hnc28 := NB499_500.out
    obtain ⟨hcz29_0, hfz29_0⟩ := Zy (v := (.slice A1_0 l1_0.length c1_0)) BK500.out 0
    obtain ⟨hcz29_1, hfz29_1⟩ := Zy (v := (.int .i64 a1_1)) BK500.out 1
    obtain ⟨hcz29_2, hfz29_2⟩ := Zy (v := (.int .i64 a1_2)) BK500.out 2
    obtain ⟨hcz29_3, hfz29_3⟩ := Zy (v := (.int .i64 a1_3)) BK500.out 3
    obtain ⟨hcz29_4, hfz29_4⟩ := Zy (v := (.int .i64 a1_4)) BK500.out 4
    obtain ⟨hcz29_5, hfz29_5⟩ := Zy (v := (.int .i64 a1_5)) BK500.out 5
    obtain ⟨hcz29_6, hfz29_6⟩ := Zy (v := (.int .i64 a1_6)) BK500.out 6
    obtain ⟨hcz29_7, hfz29_7⟩ := Zy (v := (.int .i64 a1_7)) BK500.out 7
    go_wp2
    go_meet
    case rel => exact ⟨_, (decide (a1_1 > a1_2)), (Zs), H', ⟨by first | omega | exact Nat.le_refl _⟩, ⟨Zu BK499.out⟩, ⟨Zu BK500.out⟩, ⟨Zc2 GE499.out GE500.out⟩⟩
   case rest =>
    clear HC15
    try clear c1
    try clear c2
    try clear p2
    try clear c6
    try clear c8
    try clear c9
    try clear c9b0
    try clear c9b1
    try clear c11
    try clear c14
    try clear c14b0
    try clear c14b1
    try clear c16
    try clear c16b0
    try clear c17
    try clear c19
    try clear c19b0
    try clear c20
    try clear c22
    try clear c22b0
    try clear c23
    try clear c25
    try clear c25b0
    try clear c26
    try clear c28
    try clear hcz12_0
    try clear hcz12_1
    try clear hcz12_2
    try clear hcz12_3
    try clear hcz12_4
    try clear hcz12_5
    try clear hcz12_6
    try clear hcz12_7
    try clear hcz18_0
    try clear hcz18_1
    try clear hcz18_2
    try clear hcz18_3
    try clear hcz18_4
    try clear hcz18_5
    try clear hcz18_6
    try clear hcz18_7
    try clear hcz21_0
    try clear hcz21_1
    try clear hcz21_2
    try clear hcz21_3
    try clear hcz21_4
    try clear hcz21_5
    try clear hcz21_6
    try clear hcz21_7
    try clear hcz24_0
    try clear hcz24_1
    try clear hcz24_2
    try clear hcz24_3
    try clear hcz24_4
    try clear hcz24_5
    try clear hcz24_6
    try clear hcz24_7
    try clear hcz27_0
    try clear hcz27_1
    try clear hcz27_2
    try clear hcz27_3
    try clear hcz27_4
    try clear hcz27_5
    try clear hcz27_6
    try clear hcz27_7
    try clear hcz29_0
    try clear hcz29_1
    try clear hcz29_2
    try clear hcz29_3
    try clear hcz29_4
    try clear hcz29_5
    try clear hcz29_6
    try clear hcz29_7
    try clear hcz7_0
    try clear hcz7_1
    try clear hcz7_2
    try clear hcz7_3
    try clear hcz7_4
    try clear hcz7_5
    try clear hcz7_6
    try clear hfz12_0
    try clear hfz12_1
    try clear hfz12_2
    try clear hfz12_3
    try clear hfz12_4
    try clear hfz12_5
    try clear hfz12_6
    try clear hfz12_7
    try clear hfz18_0
    try clear hfz18_1
    try clear hfz18_2
    try clear hfz18_3
    try clear hfz18_4
    try clear hfz18_5
    try clear hfz18_6
    try clear hfz18_7
    try clear hfz21_0
    try clear hfz21_1
    try clear hfz21_2
    try clear hfz21_3
    try clear hfz21_4
    try clear hfz21_5
    try clear hfz21_6
    try clear hfz21_7
    try clear hfz24_0
    try clear hfz24_1
    try clear hfz24_2
    try clear hfz24_3
    try clear hfz24_4
    try clear hfz24_5
    try clear hfz24_6
    try clear hfz24_7
    try clear hfz27_0
    try clear hfz27_1
    try clear hfz27_2
    try clear hfz27_3
    try clear hfz27_4
    try clear hfz27_5
    try clear hfz27_6
    try clear hfz27_7
    try clear hfz29_0
    try clear hfz29_1
    try clear hfz29_2
    try clear hfz29_3
    try clear hfz29_4
    try clear hfz29_5
    try clear hfz29_6
    try clear hfz29_7
    try clear hfz7_0
    try clear hfz7_1
    try clear hfz7_2
    try clear hfz7_3
    try clear hfz7_4
    try clear hfz7_5
    try clear hfz7_6
    obtain ⟨kq, x21_14, rfl, HA, HJ14, BK499, BK500, HB⟩ := hcut
    cases kq with
    | zero => exact absurd HA.out (by simp [Qaz.j0])
    | succ kj14 =>
     have H := HA.out
     clear HA
     simp only [Qaz.j0] at H
     by_cases c30 : x21_14 = T
     ·subst c30
      have H1 : (some 2) = some r := by rw [if_pos rfl] at H; exact H
      clear H
      have H := H1
      clear H1
      obtain rfl := Option.some.inj H
      go_wp2
      go_ret
      exact ⟨Zq, Zc2 GE499.out GE500.out⟩
     replace c30 := Bool.eq_false_iff.mpr c30
     subst c30
     have H1 : (if a1_3 < 1 then (some 18) else (if a1_3 > 1048576 then (some 18) else ((QaB.f kj14 l1_0 a1_1 a1_2 a1_3 a1_4 a1_5 a1_6 a1_7).bind fun t503 => (Qaz.l0 kj14 t503 (t503.length : Int) 0 a0_0 a0_1 a0_2 a0_3 a0_4 a0_5 a0_6 l1_0 a1_1 a1_2 a1_3 a1_4 a1_5 a1_6 a1_7)))) = some r := by rw [if_neg (show ¬ (F = T) by decide)] at H; exact H
     clear H
     have H := H1
     clear H1
     by_cases c31 : a1_3 < 1
     ·rw [if_pos c31] at H
      have c31b0 : decide (a1_3 < 1) = T := decide_eq_true c31
      clear c31
      obtain rfl := Option.some.inj H
      have hnb32 := NB500_499.out
      have hnc32 := NB499_500.out
      obtain ⟨hcz33_0, hfz33_0⟩ := Zy (v := (.slice A1_0 l1_0.length c1_0)) BK500.out 0
      obtain ⟨hcz33_1, hfz33_1⟩ := Zy (v := (.int .i64 a1_1)) BK500.out 1
      obtain ⟨hcz33_2, hfz33_2⟩ := Zy (v := (.int .i64 a1_2)) BK500.out 2
      obtain ⟨hcz33_3, hfz33_3⟩ := Zy (v := (.int .i64 a1_3)) BK500.out 3
      obtain ⟨hcz33_4, hfz33_4⟩ := Zy (v := (.int .i64 a1_4)) BK500.out 4
      obtain ⟨hcz33_5, hfz33_5⟩ := Zy (v := (.int .i64 a1_5)) BK500.out 5
      obtain ⟨hcz33_6, hfz33_6⟩ := Zy (v := (.int .i64 a1_6)) BK500.out 6
      obtain ⟨hcz33_7, hfz33_7⟩ := Zy (v := (.int .i64 a1_7)) BK500.out 7
      go_wp2
      go_ret
      exact ⟨Zq, Zc2 GE499.out GE500.out⟩
     rw [if_neg c31] at H
     have c31b0 : decide (a1_3 < 1) = F := decide_eq_false c31
     clear c31
     have hnb34 := NB500_499.out
     have hnc34 := NB499_500.out
     obtain ⟨hcz35_0, hfz35_0⟩ := Zy (v := (.slice A1_0 l1_0.length c1_0)) BK500.out 0
     obtain ⟨hcz35_1, hfz35_1⟩ := Zy (v := (.int .i64 a1_1)) BK500.out 1
     obtain ⟨hcz35_2, hfz35_2⟩ := Zy (v := (.int .i64 a1_2)) BK500.out 2
     obtain ⟨hcz35_3, hfz35_3⟩ := Zy (v := (.int .i64 a1_3)) BK500.out 3
     obtain ⟨hcz35_4, hfz35_4⟩ := Zy (v := (.int .i64 a1_4)) BK500.out 4
     obtain ⟨hcz35_5, hfz35_5⟩ := Zy (v := (.int .i64 a1_5)) BK500.out 5
     obtain ⟨hcz35_6, hfz35_6⟩ := Zy (v := (.int .i64 a1_6)) BK500.out 6
     obtain ⟨hcz35_7, hfz35_7⟩ := Zy (v := (.int .i64 a1_7)) BK500.out 7
     go_upto_if 47 with (fail)
     by_cases c36 : a1_3 > 1048576
     ·rw [if_pos c36] at H
      have c36b0 : decide (1048576 < a1_3) = T := decide_eq_true c36
      clear c36
      (try simp only [c36b0])
      obtain rfl := Option.some.inj H
      go_wp2
      go_ret
      exact ⟨Zq, Zc2 GE499.out GE500.out⟩
     rw [if_neg c36] at H
     have c36b0 : decide (1048576 < a1_3) = F := decide_eq_false c36
     clear c36
     (try simp only [c36b0])
     replace H := Option.bind_eq_some_iff.mp H
     obtain ⟨t503, A370, H⟩ := H
     replace H : (Qaz.l0 kj14 t503 (t503.length : Int) 0 a0_0 a0_1 a0_2 a0_3 a0_4 a0_5 a0_6 l1_0 a1_1 a1_2 a1_3 a1_4 a1_5 a1_6 a1_7) = some r := H
     have A37 := Aside0.mk A370
     clear A370
     have H' := Aside0.mk H
     clear H
     have hnb38 := NB500_499.out
     have hnc38 := NB499_500.out
     obtain ⟨hcz39_0, hfz39_0⟩ := Zy (v := (.slice A1_0 l1_0.length c1_0)) BK500.out 0
     obtain ⟨hcz39_1, hfz39_1⟩ := Zy (v := (.int .i64 a1_1)) BK500.out 1
     obtain ⟨hcz39_2, hfz39_2⟩ := Zy (v := (.int .i64 a1_2)) BK500.out 2
     obtain ⟨hcz39_3, hfz39_3⟩ := Zy (v := (.int .i64 a1_3)) BK500.out 3
     obtain ⟨hcz39_4, hfz39_4⟩ := Zy (v := (.int .i64 a1_4)) BK500.out 4
     obtain ⟨hcz39_5, hfz39_5⟩ := Zy (v := (.int .i64 a1_5)) BK500.out 5
     obtain ⟨hcz39_6, hfz39_6⟩ := Zy (v := (.int .i64 a1_6)) BK500.out 6
     obtain ⟨hcz39_7, hfz39_7⟩ := Zy (v := (.int .i64 a1_7)) BK500.out 7
     go_wp2_with (first | ((with_reducible refine QaC (f := 83) rfl ?_); refine goesL_ (some 57) rfl rfl Try.func83 (by kernel_rfl) rfl #[.agg #[.slice A1_0 l1_0.length c1_0, .int .i64 a1_1, .int .i64 a1_2, .int .i64 a1_3, .int .i64 a1_4, .int .i64 a1_5, .int .i64 a1_6, .int .i64 a1_7]] rfl (Zl) ?_; (with_reducible refine (QaB.calls kj14 _ _ l1_0 a1_1 a1_2 a1_3 a1_4 a1_5 a1_6 a1_7 t503 _ ?side1 ?side2 A37.out).mono ?_); (case side1 => exact Zv (Kd.C_below HR1_0.out HB.out)); (case side2 => exact HC1_0.out); rintro e w40 ⟨v504, rfl, ho0, hb⟩; refine ⟨_, rfl, ?_⟩; have HO505 := Aside0.mk (Kd.R_lower ho0 (Qaq (Zc2 GE499.out GE500.out))); replace BK499 := Aside0.mk (Zi BK499.out hb); replace BK500 := Aside0.mk (Zi BK500.out hb); replace HB := Aside0.mk (Qao (Zc2 GE499.out GE500.out) hb); (try clear hb); (try clear hb2); (try clear hk); (try clear hi); (try clear ho0); obtain ⟨Ao41, co41, eo41⟩ := Kd.R_slice HO505.out; subst eo41))
     go_loopg [59] kj14 (fun kq v59 w' => ∃ (x59_2 : Int), v59 = .int .i64 x59_2 ∧ Aside0 (Qaz.l0 kq t503 (t503.length : Int) x59_2 a0_0 a0_1 a0_2 a0_3 a0_4 a0_5 a0_6 l1_0 a1_1 a1_2 a1_3 a1_4 a1_5 a1_6 a1_7 = some r) ∧ Aside0 (kq ≤ kj14) ∧ Aside0 (Kd.R (Kd.int .i64) 3 w' w.heap.size (fun _ => True) (.slice Ao41 t503.length co41) t503) ∧ Aside0 (w'.heap[gb499]? = some (.cells #[.string a0_0, .int .i64 a0_1, .int .i64 a0_2, .int .i64 a0_3, .int .i64 a0_4, .int .i64 a0_5, .bool a0_6] 73 (0, 0))) ∧ Aside0 (w'.heap[gb500]? = some (.cells #[(.slice A1_0 l1_0.length c1_0), .int .i64 a1_1, .int .i64 a1_2, .int .i64 a1_3, .int .i64 a1_4, .int .i64 a1_5, .int .i64 a1_6, .int .i64 a1_7] 76 (0, 0))) ∧ Aside0 (Below w.heap.size w w'))
     case atStart => exact ⟨(0), (Zs), H', ⟨Nat.le_refl _⟩, ⟨Zr HO505.out⟩, ⟨Zu BK499.out⟩, ⟨Zu BK500.out⟩, ⟨Zc2 GE499.out GE500.out⟩⟩
     case round =>
      clear H'
      try clear c1
      try clear c2
      try clear p2
      try clear c3
      try clear c6
      try clear c8
      try clear c9
      try clear c9b0
      try clear c9b1
      try clear c11
      try clear c14
      try clear c14b0
      try clear c14b1
      try clear c16
      try clear c16b0
      try clear c17
      try clear c19
      try clear c19b0
      try clear c20
      try clear c22
      try clear c22b0
      try clear c23
      try clear c25
      try clear c25b0
      try clear c26
      try clear c28
      try clear c30
      try clear c31
      try clear c31b0
      try clear c32
      try clear c34
      try clear c36
      try clear c36b0
      try clear c38
      try clear hcz12_0
      try clear hcz12_1
      try clear hcz12_2
      try clear hcz12_3
      try clear hcz12_4
      try clear hcz12_5
      try clear hcz12_6
      try clear hcz12_7
      try clear hcz18_0
      try clear hcz18_1
      try clear hcz18_2
      try clear hcz18_3
      try clear hcz18_4
      try clear hcz18_5
      try clear hcz18_6
      try clear hcz18_7
      try clear hcz21_0
      try clear hcz21_1
      try clear hcz21_2
      try clear hcz21_3
      try clear hcz21_4
      try clear hcz21_5
      try clear hcz21_6
      try clear hcz21_7
      try clear hcz24_0
      try clear hcz24_1
      try clear hcz24_2
      try clear hcz24_3
      try clear hcz24_4
      try clear hcz24_5
      try clear hcz24_6
      try clear hcz24_7
      try clear hcz27_0
      try clear hcz27_1
      try clear hcz27_2
      try clear hcz27_3
      try clear hcz27_4
      try clear hcz27_5
      try clear hcz27_6
      try clear hcz27_7
      try clear hcz29_0
      try clear hcz29_1
      try clear hcz29_2
      try clear hcz29_3
      try clear hcz29_4
      try clear hcz29_5
      try clear hcz29_6
      try clear hcz29_7
      try clear hcz33_0
      try clear hcz33_1
      try clear hcz33_2
      try clear hcz33_3
      try clear hcz33_4
      try clear hcz33_5
      try clear hcz33_6
      try clear hcz33_7
      try clear hcz35_0
      try clear hcz35_1
      try clear hcz35_2
      try clear hcz35_3
      try clear hcz35_4
      try clear hcz35_5
      try clear hcz35_6
      try clear hcz35_7
      try clear hcz39_0
      try clear hcz39_1
      try clear hcz39_2
      try clear hcz39_3
      try clear hcz39_4
      try clear hcz39_5
      try clear hcz39_6
      try clear hcz39_7
      try clear hcz7_0
      try clear hcz7_1
      try clear hcz7_2
      try clear hcz7_3
      try clear hcz7_4
      try clear hcz7_5
      try clear hcz7_6
      try clear hfz12_0
      try clear hfz12_1
      try clear hfz12_2
      try clear hfz12_3
      try clear hfz12_4
      try clear hfz12_5
      try clear hfz12_6
      try clear hfz12_7
      try clear hfz18_0
      try clear hfz18_1
      try clear hfz18_2
      try clear hfz18_3
      try clear hfz18_4
      try clear hfz18_5
      try clear hfz18_6
      try clear hfz18_7
      try clear hfz21_0
      try clear hfz21_1
      try clear hfz21_2
      try clear hfz21_3
      try clear hfz21_4
      try clear hfz21_5
      try clear hfz21_6
      try clear hfz21_7
      try clear hfz24_0
      try clear hfz24_1
      try clear hfz24_2
      try clear hfz24_3
      try clear hfz24_4
      try clear hfz24_5
      try clear hfz24_6
      try clear hfz24_7
      try clear hfz27_0
      try clear hfz27_1
      try clear hfz27_2
      try clear hfz27_3
      try clear hfz27_4
      try clear hfz27_5
      try clear hfz27_6
      try clear hfz27_7
      try clear hfz29_0
      try clear hfz29_1
      try clear hfz29_2
      try clear hfz29_3
      try clear hfz29_4
      try clear hfz29_5
      try clear hfz29_6
      try clear hfz29_7
      try clear hfz33_0
      try clear hfz33_1
      try clear hfz33_2
      try clear hfz33_3
      try clear hfz33_4
      try clear hfz33_5
      try clear hfz33_6
      try clear hfz33_7
      try clear hfz35_0
      try clear hfz35_1
      try clear hfz35_2
      try clear hfz35_3
      try clear hfz35_4
      try clear hfz35_5
      try clear hfz35_6
      try clear hfz35_7
      try clear hfz39_0
      try clear hfz39_1
      try clear hfz39_2
      try clear hfz39_3
      try clear hfz39_4
      try clear hfz39_5
      try clear hfz39_6
      try clear hfz39_7
      try clear hfz7_0
      try clear hfz7_1
      try clear hfz7_2
      try clear hfz7_3
      try clear hfz7_4
      try clear hfz7_5
      try clear hfz7_6
      try clear p2
      obtain ⟨x59_2, rfl, HA, HK2, HO_57, BK499, BK500, HB⟩ := hrel
      cases gk with
      | zero => exact absurd HA.out (by simp [Qaz.l0])
      | succ k2 =>
       have H := HA.out
       clear HA
       simp only [Qaz.l0] at H
       by_cases c42 : x59_2 < (t503.length : Int)
       ·rw [if_pos c42] at H
        have c42b0 : decide (x59_2 < (t503.length : Int)) = T := decide_eq_true c42
        clear c42
        (try simp only [c42b0])
        by_cases c43 : 0 ≤ x59_2
        ·rw [if_pos c43] at H
         have c43b0 : decide (0 ≤ x59_2) = T := decide_eq_true c43
         clear c43
         by_cases c44 : x59_2 < (t503.length : Int)
         ·rw [if_pos c44] at H
          have c44b0 : decide (x59_2 < (t503.length : Int)) = T := decide_eq_true c44
          clear c44
          replace H := Option.bind_eq_some_iff.mp H
          obtain ⟨t507, A450, H⟩ := H
          replace H : (if t507 = 0 then (Qaz.l0 k2 t503 (t503.length : Int) (wrap64 (x59_2 + 1)) a0_0 a0_1 a0_2 a0_3 a0_4 a0_5 a0_6 l1_0 a1_1 a1_2 a1_3 a1_4 a1_5 a1_6 a1_7) else (some t507)) = some r := H
          have A45 := Aside0.mk A450
          clear A450
          have p506 : 0 ≤ (x59_2 : Int) := Ze
          have q506 : x59_2 < (t503.length : Int) := Ze
          obtain ⟨ad506, e506, hx506_0⟩ := Kd.at_int (Kd.R_reads' HO_57.out).2.2 x59_2 p506 q506
          cases e506
          replace p506 := eq_true p506
          replace q506 := eq_true q506
          have hnb46 := NB499_500.out
          have hnc46 := NB500_499.out
          obtain ⟨hcz47_0, hfz47_0⟩ := Zy (v := (.string a0_0)) BK499.out 0
          obtain ⟨hcz47_1, hfz47_1⟩ := Zy (v := (.int .i64 a0_1)) BK499.out 1
          obtain ⟨hcz47_2, hfz47_2⟩ := Zy (v := (.int .i64 a0_2)) BK499.out 2
          obtain ⟨hcz47_3, hfz47_3⟩ := Zy (v := (.int .i64 a0_3)) BK499.out 3
          obtain ⟨hcz47_4, hfz47_4⟩ := Zy (v := (.int .i64 a0_4)) BK499.out 4
          obtain ⟨hcz47_5, hfz47_5⟩ := Zy (v := (.int .i64 a0_5)) BK499.out 5
          obtain ⟨hcz47_6, hfz47_6⟩ := Zy (v := (.bool a0_6)) BK499.out 6
          go_upto_if 67 with (first | ((with_reducible refine QaC (f := 42) rfl ?_); refine goesL_ (some 65) rfl rfl Try.func42 (by kernel_rfl) rfl #[.agg #[.string a0_0, .int .i64 a0_1, .int .i64 a0_2, .int .i64 a0_3, .int .i64 a0_4, .int .i64 a0_5, .bool a0_6], .int .i64 (rd t503 x59_2)] rfl (Zl) ?_; (with_reducible refine (Qau.calls k2 a0_0 a0_1 a0_2 a0_3 a0_4 a0_5 a0_6 (rd t503 x59_2) t507 _ A45.out).mono ?_); rintro e w48 ⟨rfl, hb⟩; refine ⟨_, rfl, ?_⟩; replace HO_57 := Aside0.mk (Kd.R_below (Zr HO_57.out) hb); replace BK499 := Aside0.mk (Zi BK499.out hb); replace BK500 := Aside0.mk (Zi BK500.out hb); replace HB := Aside0.mk (Qao (Zc2 GE499.out GE500.out) hb); (try clear hb); (try clear hb2); (try clear hk); (try clear hi)))
          (try simp only [Act.put, Zj, Zk, Zm])
          by_cases c49 : t507 = 0
          ·rw [if_pos c49] at H
           have c49b0 : (t507 == 0) = T := beq_iff_eq.mpr c49
           have c49b1 : (t507 != 0) = F := bne_eq_false_iff_eq.mpr c49
           clear c49
           (try simp only [c49b0, c49b1])
           have H' := Aside0.mk H
           clear H
           go_wp2
           go_roundg k2
           case measure => have := HJ14.out; have := HK2.out; omega
           case rel => exact ⟨(wrap64 (x59_2 + 1)), (Zs), H', ⟨by have := HJ14.out; have := HK2.out; omega⟩, ⟨Zr HO_57.out⟩, ⟨Zu BK499.out⟩, ⟨Zu BK500.out⟩, ⟨Zc2 GE499.out GE500.out⟩⟩
          rw [if_neg c49] at H
          have c49b0 : (t507 == 0) = F := beq_eq_false_iff_ne.mpr c49
          have c49b1 : (t507 != 0) = T := bne_iff_ne.mpr c49
          (try simp only [c49b0, c49b1])
          obtain rfl := Option.some.inj H
          go_wp2
          go_ret
          exact ⟨Zq, Zc2 GE499.out GE500.out⟩
         rw [if_neg c44] at H
         exact absurd H (by simp)
        rw [if_neg c43] at H
        exact absurd H (by simp)
       rw [if_neg c42] at H
       have c42b0 : decide (x59_2 < (t503.length : Int)) = F := decide_eq_false c42
       clear c42
       (try simp only [c42b0])
       by_cases c50 : a1_4 = 0
       ·rw [if_pos c50] at H
        have c50b0 : (a1_4 == 0) = T := beq_iff_eq.mpr c50
        have c50b1 : (a1_4 != 0) = F := bne_eq_false_iff_eq.mpr c50
        clear c50
        replace H := Option.bind_eq_some_iff.mp H
        obtain ⟨t508, A510, H⟩ := H
        replace H : (if t508 = T then (some 0) else (some 17)) = some r := H
        have A51 := Aside0.mk A510
        clear A510
        have hnb52 := NB500_499.out
        have hnc52 := NB499_500.out
        obtain ⟨hcz53_0, hfz53_0⟩ := Zy (v := (.slice A1_0 l1_0.length c1_0)) BK500.out 0
        obtain ⟨hcz53_1, hfz53_1⟩ := Zy (v := (.int .i64 a1_1)) BK500.out 1
        obtain ⟨hcz53_2, hfz53_2⟩ := Zy (v := (.int .i64 a1_2)) BK500.out 2
        obtain ⟨hcz53_3, hfz53_3⟩ := Zy (v := (.int .i64 a1_3)) BK500.out 3
        obtain ⟨hcz53_4, hfz53_4⟩ := Zy (v := (.int .i64 a1_4)) BK500.out 4
        obtain ⟨hcz53_5, hfz53_5⟩ := Zy (v := (.int .i64 a1_5)) BK500.out 5
        obtain ⟨hcz53_6, hfz53_6⟩ := Zy (v := (.int .i64 a1_6)) BK500.out 6
        obtain ⟨hcz53_7, hfz53_7⟩ := Zy (v := (.int .i64 a1_7)) BK500.out 7
        go_upto_if 90 with (first | (go_at_call 84; (with_reducible refine (Qa0.calls a1_7 t508 _ A51.out).mono ?_); rintro e w' ⟨rfl, ⟨nd, rfl⟩⟩))
        (try simp only [Act.put, Zj, Zk, Zm])
        by_cases c54 : t508 = T
        ·subst c54
         have H1 : (some 0) = some r := by rw [if_pos rfl] at H; exact H
         clear H
         have H := H1
         clear H1
         obtain rfl := Option.some.inj H
         go_wp2
         go_ret
         exact ⟨Zq, Zc2 GE499.out GE500.out⟩
        replace c54 := Bool.eq_false_iff.mpr c54
        subst c54
        have H1 : (some 17) = some r := by rw [if_neg (show ¬ (F = T) by decide)] at H; exact H
        clear H
        have H := H1
        clear H1
        obtain rfl := Option.some.inj H
        go_wp2
        go_ret
        exact ⟨Zq, Zc2 GE499.out GE500.out⟩
       rw [if_neg c50] at H
       have c50b0 : (a1_4 == 0) = F := beq_eq_false_iff_ne.mpr c50
       have c50b1 : (a1_4 != 0) = T := bne_iff_ne.mpr c50
       by_cases c55 : a1_5 = 0
       ·rw [if_pos c55] at H
        have c55b0 : (a1_5 == 0) = T := beq_iff_eq.mpr c55
        have c55b1 : (a1_5 != 0) = F := bne_eq_false_iff_eq.mpr c55
        clear c55
        replace H := Option.bind_eq_some_iff.mp H
        obtain ⟨t509, A560, H⟩ := H
        replace H : (if t509 = T then (some 0) else (some 17)) = some r := H
        have A56 := Aside0.mk A560
        clear A560
        have hnb57 := NB500_499.out
        have hnc57 := NB499_500.out
        obtain ⟨hcz58_0, hfz58_0⟩ := Zy (v := (.slice A1_0 l1_0.length c1_0)) BK500.out 0
        obtain ⟨hcz58_1, hfz58_1⟩ := Zy (v := (.int .i64 a1_1)) BK500.out 1
        obtain ⟨hcz58_2, hfz58_2⟩ := Zy (v := (.int .i64 a1_2)) BK500.out 2
        obtain ⟨hcz58_3, hfz58_3⟩ := Zy (v := (.int .i64 a1_3)) BK500.out 3
        obtain ⟨hcz58_4, hfz58_4⟩ := Zy (v := (.int .i64 a1_4)) BK500.out 4
        obtain ⟨hcz58_5, hfz58_5⟩ := Zy (v := (.int .i64 a1_5)) BK500.out 5
        obtain ⟨hcz58_6, hfz58_6⟩ := Zy (v := (.int .i64 a1_6)) BK500.out 6
        obtain ⟨hcz58_7, hfz58_7⟩ := Zy (v := (.int .i64 a1_7)) BK500.out 7
        go_upto_if 90 with (first | (go_at_call 84; (with_reducible refine (Qa0.calls a1_7 t509 _ A56.out).mono ?_); rintro e w' ⟨rfl, ⟨nd, rfl⟩⟩))
        (try simp only [Act.put, Zj, Zk, Zm])
        by_cases c59 : t509 = T
        ·subst c59
         have H1 : (some 0) = some r := by rw [if_pos rfl] at H; exact H
         clear H
         have H := H1
         clear H1
         obtain rfl := Option.some.inj H
         go_wp2
         go_ret
         exact ⟨Zq, Zc2 GE499.out GE500.out⟩
        replace c59 := Bool.eq_false_iff.mpr c59
        subst c59
        have H1 : (some 17) = some r := by rw [if_neg (show ¬ (F = T) by decide)] at H; exact H
        clear H
        have H := H1
        clear H1
        obtain rfl := Option.some.inj H
        go_wp2
        go_ret
        exact ⟨Zq, Zc2 GE499.out GE500.out⟩
       rw [if_neg c55] at H
       have c55b0 : (a1_5 == 0) = F := beq_eq_false_iff_ne.mpr c55
       have c55b1 : (a1_5 != 0) = T := bne_iff_ne.mpr c55
       by_cases c60 : a1_4 > a1_5
       ·rw [if_pos c60] at H
        have c60b0 : decide (a1_5 < a1_4) = T := decide_eq_true c60
        clear c60
        obtain rfl := Option.some.inj H
        have hnb61 := NB500_499.out
        have hnc61 := NB499_500.out
        obtain ⟨hcz62_0, hfz62_0⟩ := Zy (v := (.slice A1_0 l1_0.length c1_0)) BK500.out 0
        obtain ⟨hcz62_1, hfz62_1⟩ := Zy (v := (.int .i64 a1_1)) BK500.out 1
        obtain ⟨hcz62_2, hfz62_2⟩ := Zy (v := (.int .i64 a1_2)) BK500.out 2
        obtain ⟨hcz62_3, hfz62_3⟩ := Zy (v := (.int .i64 a1_3)) BK500.out 3
        obtain ⟨hcz62_4, hfz62_4⟩ := Zy (v := (.int .i64 a1_4)) BK500.out 4
        obtain ⟨hcz62_5, hfz62_5⟩ := Zy (v := (.int .i64 a1_5)) BK500.out 5
        obtain ⟨hcz62_6, hfz62_6⟩ := Zy (v := (.int .i64 a1_6)) BK500.out 6
        obtain ⟨hcz62_7, hfz62_7⟩ := Zy (v := (.int .i64 a1_7)) BK500.out 7
        go_wp2
        go_ret
        exact ⟨Zq, Zc2 GE499.out GE500.out⟩
       rw [if_neg c60] at H
       have c60b0 : decide (a1_5 < a1_4) = F := decide_eq_false c60
       clear c60
       replace H := Option.bind_eq_some_iff.mp H
       obtain ⟨t510, A630, H⟩ := H
       replace H : (if t510 = T then (some 0) else (some 17)) = some r := H
       have A63 := Aside0.mk A630
       clear A630
       have hnb64 := NB500_499.out
       have hnc64 := NB499_500.out
       obtain ⟨hcz65_0, hfz65_0⟩ := Zy (v := (.slice A1_0 l1_0.length c1_0)) BK500.out 0
       obtain ⟨hcz65_1, hfz65_1⟩ := Zy (v := (.int .i64 a1_1)) BK500.out 1
       obtain ⟨hcz65_2, hfz65_2⟩ := Zy (v := (.int .i64 a1_2)) BK500.out 2
       obtain ⟨hcz65_3, hfz65_3⟩ := Zy (v := (.int .i64 a1_3)) BK500.out 3
       obtain ⟨hcz65_4, hfz65_4⟩ := Zy (v := (.int .i64 a1_4)) BK500.out 4
       obtain ⟨hcz65_5, hfz65_5⟩ := Zy (v := (.int .i64 a1_5)) BK500.out 5
       obtain ⟨hcz65_6, hfz65_6⟩ := Zy (v := (.int .i64 a1_6)) BK500.out 6
       obtain ⟨hcz65_7, hfz65_7⟩ := Zy (v := (.int .i64 a1_7)) BK500.out 7
       go_upto_if 90 with (first | (go_at_call 84; (with_reducible refine (Qa0.calls a1_7 t510 _ A63.out).mono ?_); rintro e w' ⟨rfl, ⟨nd, rfl⟩⟩))
       (try simp only [Act.put, Zj, Zk, Zm])
       by_cases c66 : t510 = T
       ·subst c66
        have H1 : (some 0) = some r := by rw [if_pos rfl] at H; exact H
        clear H
        have H := H1
        clear H1
        obtain rfl := Option.some.inj H
        go_wp2
        go_ret
        exact ⟨Zq, Zc2 GE499.out GE500.out⟩
       replace c66 := Bool.eq_false_iff.mpr c66
       subst c66
       have H1 : (some 17) = some r := by rw [if_neg (show ¬ (F = T) by decide)] at H; exact H
       clear H
       have H := H1
       clear H1
       obtain rfl := Option.some.inj H
       go_wp2
       go_ret
       exact ⟨Zq, Zc2 GE499.out GE500.out⟩
  rw [if_neg c14] at H
  have c14b0 : (t502 == 0) = F := beq_eq_false_iff_ne.mpr c14
  have c14b1 : (t502 != 0) = T := bne_iff_ne.mpr c14
  (try simp only [c14b0, c14b1])
  obtain rfl := Option.some.inj H
  go_wp2
  go_ret
  exact ⟨Zq, Zc2 GE499.out GE500.out⟩
 rw [if_neg c9] at H
 have c9b0 : (t501 == 0) = F := beq_eq_false_iff_ne.mpr c9
 have c9b1 : (t501 != 0) = T := bne_iff_ne.mpr c9
 (try simp only [c9b0, c9b1])
 obtain rfl := Option.some.inj H
 go_wp2
 go_ret
 exact ⟨Zq, Zc2 GE499.out GE500.out⟩
def QaI.l0 : Nat → List (S130) → Int → Int → Int → Option (Int × Int)
 | 0, _, _, _, _ => none
 | k + 1, x307, x308, x309, x524000 => if x309 < x308 then (if 0 ≤ x309 then (if x309 < (x307.length : Int) then (QaI.l0 k x307 x308 (wrap64 (x309 + 1)) (wrap64 (x524000 + ((Qaj x307 x309).f1)))) else (none)) else (none)) else (some (x524000, 0))
def QaI.f (k : Nat) (l0 : List (S130)) : Option (Int × Int) := (Qaw.f k l0).bind fun t524 => (if t524 = 0 then (QaI.l0 k l0 (l0.length : Int) 0 0) else (some (0, t524)))
theorem QaI.mono_l : ∀ k, (∀ y0 y1 y2 y3, LeO (QaI.l0 k y0 y1 y2 y3) (QaI.l0 (k + 1) y0 y1 y2 y3))
 | 0 => fun _ _ _ _ r h => by simp [QaI.l0] at h
 | k + 1 => by
  have ih0 := QaI.mono_l k
  intro y0 y1 y2 y3
  unfold QaI.l0
  exact ZM2 ih0 Qaw.mono
theorem QaI.mono : ∀ a0 k, LeO (QaI.f k a0) (QaI.f (k + 1) a0) := by
 intro a0 k
 have ih0 := QaI.mono_l k
 unfold QaI.f
 exact ZM2 ih0 Qaw.mono
theorem QaI.calls (k : Nat) (A0 : Option Addr) (c0 : Nat) (l0 : List (S130)) (r1 : Int) (r2 : Int) (w : World) (hr0 : Kd.C k130 w A0 l0.length l0) (hc0 : l0.length ≤ c0) (h : QaI.f k l0 = some (r1, r2)) :
  Calls Try.prog 87 #[.slice A0 l0.length c0] w fun e w' => e = .returned (.tuple #[.int .i64 r1, .int .i64 r2]) ∧ Below w.heap.size w w' := by
 have hu138 := Try.underlying138
 have HR0 := Aside0.mk hr0
 have HC0 := Aside0.mk hc0
 clear hr0 hc0
 have HB := Aside0.mk (Below.refl w.heap.size w)
 have H : ((Qaw.f k l0).bind fun t524 => (if t524 = 0 then (QaI.l0 k l0 (l0.length : Int) 0 0) else (some (0, t524)))) = some (r1, r2) := h
 clear h
 replace H := Option.bind_eq_some_iff.mp H
 obtain ⟨t524, A20, H⟩ := H
 replace H : (if t524 = 0 then (QaI.l0 k l0 (l0.length : Int) 0 0) else (some (0, t524))) = some (r1, r2) := H
 have A2 := Aside0.mk A20
 clear A20
 go_enter Try.func87, Try.ntmps87
 go_upto_if 7 with (first | ((with_reducible refine QaJ (N := 2) rfl ?_); (refine gate_n (n := 14) rfl ?_); refine Zbx (N := 2) (cs := #[.int .i64 0]) (t := 3) ?_; intro gb523 hg w3 hbox hb; have BK523 := Aside0.mk (hbox); have GW523 := Aside0.mk (Zt w hg (Zb)); have GE523 := GW523; replace HB := Aside0.mk (Qao (Zb) hb); clear hb hbox hg) | ((with_reducible refine QaC (f := 82) rfl ?_); refine goesL_ (some 5) rfl rfl Try.func82 (by kernel_rfl) rfl #[.slice A0 l0.length c0] rfl (Zl) ?_; (with_reducible refine (Qaw.calls k _ _ l0 t524 _ ?side1 ?side2 A2.out).mono ?_); (case side1 => exact Zv (Kd.C_below HR0.out HB.out)); (case side2 => exact HC0.out); rintro e w4 ⟨rfl, hb⟩; refine ⟨_, rfl, ?_⟩; replace BK523 := Aside0.mk (Zi BK523.out hb); replace HB := Aside0.mk (Qao (Zc1 GE523.out) hb); (try clear hb); (try clear hb2); (try clear hk); (try clear hi)))
 (try simp only [Act.put, Zj, Zk, Zm])
 by_cases c5 : t524 = 0
 ·rw [if_pos c5] at H
  have c5b0 : (t524 == 0) = T := beq_iff_eq.mpr c5
  have c5b1 : (t524 != 0) = F := bne_eq_false_iff_eq.mpr c5
  clear c5
  (try simp only [c5b0, c5b1])
  have H' := Aside0.mk H
  clear H
  go_wp2_with (first | (go_at_call 102; go_in) | ((with_reducible refine QaJ (N := 2) rfl ?_); (refine gate_n (n := 19) rfl ?_); refine Zbx (N := 2) (cs := #[.func (.func 104) #[] #[.pointer (some ⟨gb523, 0, none⟩)]]) (t := 138) ?_; intro gb525 hg w6 hbox hb; have BK525 := Aside0.mk (hbox); have GW525 := Aside0.mk (Zt w hg (Zc1 GE523.out)); have GE525 := GW525; have NB523_525 := Aside0.mk (Zn hg BK523.out); have NB525_523 := Aside0.mk NB523_525.out.symm; replace BK523 := Aside0.mk (Zi BK523.out hb); replace HB := Aside0.mk (Qao (Zc1 GE523.out) hb); clear hb hbox hg))
  go_loopg [9] k (fun kq v309 w' => ∃ (x309_1 : Int) (x524000_1 : Int), v309 = .int .i64 x309_1 ∧ Aside0 (QaI.l0 kq l0 (l0.length : Int) x309_1 x524000_1 = some (r1, r2)) ∧ Aside0 (kq ≤ k) ∧ Aside0 (w'.heap[gb523]? = some (.cells #[.int .i64 x524000_1] 3 (0, 0))) ∧ Aside0 (w'.heap[gb525]? = some (.cells #[(.func (.func 104) #[] #[.pointer (some ⟨gb523, 0, none⟩)])] 138 (0, 0))) ∧ Aside0 (Below w.heap.size w w'))
  case atStart => exact ⟨(0), (0), (Zs), H', ⟨Nat.le_refl _⟩, ⟨Zu BK523.out⟩, ⟨Zu BK525.out⟩, ⟨Zc2 GE523.out GE525.out⟩⟩
  case round =>
   clear H'
   try clear p2
   try clear c5
   try clear c5b0
   try clear c5b1
   obtain ⟨x309_1, x524000_1, rfl, HA, HK1, BK523, BK525, HB⟩ := hrel
   cases gk with
   | zero => exact absurd HA.out (by simp [QaI.l0])
   | succ k1 =>
    have H := HA.out
    clear HA
    simp only [QaI.l0] at H
    by_cases c7 : x309_1 < (l0.length : Int)
    ·rw [if_pos c7] at H
     have c7b0 : decide (x309_1 < (l0.length : Int)) = T := decide_eq_true c7
     clear c7
     (try simp only [c7b0])
     by_cases c8 : 0 ≤ x309_1
     ·rw [if_pos c8] at H
      have c8b0 : decide (0 ≤ x309_1) = T := decide_eq_true c8
      clear c8
      by_cases c9 : x309_1 < (l0.length : Int)
      ·rw [if_pos c9] at H
       have c9b0 : decide (x309_1 < (l0.length : Int)) = T := decide_eq_true c9
       clear c9
       have p526 : 0 ≤ (x309_1 : Int) := Ze
       have q526 : x309_1 < (l0.length : Int) := Ze
       obtain ⟨ad526, e526, hx526_0, hx526_1, hx526_2⟩ := QbS HR0.out x309_1 p526 q526
       cases e526
       replace hx526_0 := Zx HB.out hx526_0
       replace hx526_1 := Zx HB.out hx526_1
       replace hx526_2 := Zx HB.out hx526_2
       replace p526 := eq_true p526
       replace q526 := eq_true q526
       go_upto_region 6 with (first | ((with_reducible refine QaJ (N := 6) rfl ?_); (refine gate_n (n := 19) rfl ?_); refine Zbx (N := 6) (cs := #[.int .i64 0, .int .i64 0, .int .i64 0]) (t := 130) ?_; intro gb527 hg w10 hbox hb; have BK527 := Aside0.mk (hbox); have GW527 := Aside0.mk (Zt w hg (Zc2 GE523.out GE525.out)); have GE527 := GW527; have NB523_527 := Aside0.mk (Zn hg BK523.out); have NB527_523 := Aside0.mk NB523_527.out.symm; have NB525_527 := Aside0.mk (Zn hg BK525.out); have NB527_525 := Aside0.mk NB525_527.out.symm; replace BK523 := Aside0.mk (Zi BK523.out hb); replace BK525 := Aside0.mk (Zi BK525.out hb); replace HB := Aside0.mk (Qao (Zc2 GE523.out GE525.out) hb); clear hb hbox hg; have hnb11 := NB527_523.out; have hnc11 := NB523_527.out; have hnb12 := NB527_525.out; have hnc12 := NB525_527.out; obtain ⟨hcz13_0, hfz13_0⟩ := Zy (v := (.int .i64 0)) BK527.out 0; obtain ⟨hcz13_1, hfz13_1⟩ := Zy (v := (.int .i64 0)) BK527.out 1; obtain ⟨hcz13_2, hfz13_2⟩ := Zy (v := (.int .i64 0)) BK527.out 2; have hnb14 := NB525_523.out; have hnc14 := NB523_525.out; obtain ⟨hcz15_0, hfz15_0⟩ := Zy (v := (.func (.func 104) #[] #[.pointer (some ⟨gb523, 0, none⟩)])) BK525.out 0) | (go_at_call 104; go_in) | ((with_reducible refine QaJ (N := 2) rfl ?_); (refine gate_n (n := 8) rfl ?_); refine Zbx (N := 2) (cs := #[.int .i64 ((Qaj l0 x309_1).f0), .int .i64 ((Qaj l0 x309_1).f1), .int .i64 ((Qaj l0 x309_1).f2)]) (t := 130) ?_; intro gb528 hg w16 hbox hb; have BK528 := Aside0.mk (hbox); have GW528 := Aside0.mk (Zt w hg (Zc3 GE523.out GE525.out GE527.out)); have GE528 := GW528; have NB523_528 := Aside0.mk ((by rw [hg]; exact Nat.ne_of_lt (blk_lt (g := gb523) (o := .cells #[.int .i64 x524000_1] 3 (0, 0)) (Zg3 BK523.out NB523_527.out NB523_527.out NB523_527.out)) : gb523 ≠ gb528)); have NB528_523 := Aside0.mk ((by rw [hg]; exact Nat.ne_of_gt (blk_lt (g := gb523) (o := .cells #[.int .i64 x524000_1] 3 (0, 0)) (Zg3 BK523.out NB523_527.out NB523_527.out NB523_527.out)) : gb528 ≠ gb523)); have NB525_528 := Aside0.mk ((by rw [hg]; exact Nat.ne_of_lt (blk_lt (g := gb525) (o := .cells #[.func (.func 104) #[] #[.pointer (some ⟨gb523, 0, none⟩)]] 138 (0, 0)) (Zg3 BK525.out NB525_527.out NB525_527.out NB525_527.out)) : gb525 ≠ gb528)); have NB528_525 := Aside0.mk ((by rw [hg]; exact Nat.ne_of_gt (blk_lt (g := gb525) (o := .cells #[.func (.func 104) #[] #[.pointer (some ⟨gb523, 0, none⟩)]] 138 (0, 0)) (Zg3 BK525.out NB525_527.out NB525_527.out NB525_527.out)) : gb528 ≠ gb525)); have NB527_528 := Aside0.mk ((by rw [hg]; exact Nat.ne_of_lt (blk_lt (g := gb527) (o := .cells #[.int .i64 ((Qaj l0 x309_1).f0), .int .i64 ((Qaj l0 x309_1).f1), .int .i64 ((Qaj l0 x309_1).f2)] 130 (0, 0)) (Zp2 BK527.out)) : gb527 ≠ gb528)); have NB528_527 := Aside0.mk ((by rw [hg]; exact Nat.ne_of_gt (blk_lt (g := gb527) (o := .cells #[.int .i64 ((Qaj l0 x309_1).f0), .int .i64 ((Qaj l0 x309_1).f1), .int .i64 ((Qaj l0 x309_1).f2)] 130 (0, 0)) (Zp2 BK527.out)) : gb528 ≠ gb527)); replace BK523 := Aside0.mk (Qam (g := gb523) (o := .cells #[.int .i64 x524000_1] 3 (0, 0)) (Zg3 BK523.out NB523_527.out NB523_527.out NB523_527.out) hb); replace BK525 := Aside0.mk (Qam (g := gb525) (o := .cells #[.func (.func 104) #[] #[.pointer (some ⟨gb523, 0, none⟩)]] 138 (0, 0)) (Zg3 BK525.out NB525_527.out NB525_527.out NB525_527.out) hb); replace BK527 := Aside0.mk (Zpi #[.int .i64 ((Qaj l0 x309_1).f0), .int .i64 ((Qaj l0 x309_1).f1), .int .i64 ((Qaj l0 x309_1).f2)] BK527.out hb); replace HB := Aside0.mk (Qao (Zc3 GE523.out GE525.out GE527.out) hb); clear hb hbox hg; have hnb17 := NB523_528.out; have hnc17 := NB528_523.out; obtain ⟨hcz18_0, hfz18_0⟩ := Zy (v := (.int .i64 x524000_1)) BK523.out 0; have hnb19 := NB528_525.out; have hnc19 := NB525_528.out; have hnb20 := NB528_527.out; have hnc20 := NB527_528.out; obtain ⟨hcz21_0, hfz21_0⟩ := Zy (v := (.int .i64 ((Qaj l0 x309_1).f0))) BK528.out 0; obtain ⟨hcz21_1, hfz21_1⟩ := Zy (v := (.int .i64 ((Qaj l0 x309_1).f1))) BK528.out 1; obtain ⟨hcz21_2, hfz21_2⟩ := Zy (v := (.int .i64 ((Qaj l0 x309_1).f2))) BK528.out 2))
       (try simp only [Act.put, Zj, Zk, Zm])
       have H' := Aside0.mk H
       clear H
       go_wp2
       go_roundg k1
       case measure => have := HK1.out; omega
       case rel => exact ⟨(wrap64 (x309_1 + 1)), (wrap64 (x524000_1 + ((Qaj l0 x309_1).f1))), (Zs), H', ⟨by have := HK1.out; omega⟩, ⟨Zp2 BK523.out⟩, ⟨Zg1 BK525.out NB525_523.out⟩, ⟨Zc4 GE523.out GE525.out GE527.out GE528.out⟩⟩
      rw [if_neg c9] at H
      exact absurd H (by simp)
     rw [if_neg c8] at H
     exact absurd H (by simp)
    rw [if_neg c7] at H
    have c7b0 : decide (x309_1 < (l0.length : Int)) = F := decide_eq_false c7
    clear c7
    (try simp only [c7b0])
    go_upto_region 5 with (fail)
    simp only [Option.some.injEq, Prod.mk.injEq] at H
    obtain ⟨rfl, rfl⟩ := H
    have hnb22 := NB523_525.out
    have hnc22 := NB525_523.out
    obtain ⟨hcz23_0, hfz23_0⟩ := Zy (v := (.int .i64 x524000_1)) BK523.out 0
    go_wp2
    refine bodyPost_ret (Qcz rfl _ _ gb523 3 (.int .i64 x524000_1) (0, 0) _ rfl (Zp2 BK523.out) Try.underlying3 rfl (by kernel_rfl)) rfl ?_
    exact ⟨Zq, Zc2 GE523.out GE525.out⟩
 rw [if_neg c5] at H
 have c5b0 : (t524 == 0) = F := beq_eq_false_iff_ne.mpr c5
 have c5b1 : (t524 != 0) = T := bne_iff_ne.mpr c5
 (try simp only [c5b0, c5b1])
 simp only [Option.some.injEq, Prod.mk.injEq] at H
 obtain ⟨rfl, rfl⟩ := H
 obtain ⟨hcz24_0, hfz24_0⟩ := Zy (v := (.int .i64 0)) BK523.out 0
 go_wp2
 refine bodyPost_ret (Qcz rfl _ _ gb523 3 (.int .i64 0) (0, 0) _ rfl (Zp2 BK523.out) Try.underlying3 rfl (by kernel_rfl)) rfl ?_
 exact ⟨Zq, Zc1 GE523.out⟩
mutual
def QaD.j0 : Nat → List (S130) → Int → Int → Int → Bool → Option (Int × Int)
 | 0, _, _, _, _, _ => none
 | k + 1, x0, x1, x2, x8, x20 => if x20 = T then (some (0, 16)) else (if x2 < 1 then (QaD.j1 k x0 x1 x2 x8 T) else (QaD.j1 k x0 x1 x2 x8 (decide (x2 > 5))))
def QaD.j1 : Nat → List (S130) → Int → Int → Int → Bool → Option (Int × Int)
 | 0, _, _, _, _, _ => none
 | k + 1, x0, x1, x2, x8, x27 => if x27 = T then (some (0, 2)) else (if x8 = 0 then (some (0, 11)) else (QaD.l0 k x1 x2 x8 x0 (x0.length : Int) 0 0))
def QaD.l0 : Nat → Int → Int → Int → List (S130) → Int → Int → Int → Option (Int × Int)
 | 0, _, _, _, _, _, _, _ => none
 | k + 1, x1, x2, x8, x307, x308, x309, x533000 => if x309 < x308 then (if 0 ≤ x309 then (if x309 < (x307.length : Int) then (QaD.l0 k x1 x2 x8 x307 x308 (wrap64 (x309 + 1)) (wrap64 (x533000 + (wrap64 (((Qaj x307 x309).f2) * ((Qaj x307 x309).f1)))))) else (none)) else (none)) else ((QaA.f x533000 1 (wrap64 (x8 * x1)) x2).bind fun bt537 => (if bt537.2 = 0 then (some (wrap64 (bt537.1 * x1), 0)) else (some (0, bt537.2))))
end
def QaD.f (k : Nat) (l0 : List (S130)) (a1 : Int) (a2 : Int) : Option (Int × Int) := (QaI.f k l0).bind fun bt530 => (if bt530.2 = 0 then (if a1 < 1 then (QaD.j0 k l0 a1 a2 bt530.1 T) else (QaD.j0 k l0 a1 a2 bt530.1 (decide (a1 > 16777216)))) else (some (0, bt530.2)))
theorem QaD.mono_l : ∀ k, (∀ y0 y1 y2 y3 y4, LeO (QaD.j0 k y0 y1 y2 y3 y4) (QaD.j0 (k + 1) y0 y1 y2 y3 y4)) ∧ (∀ y0 y1 y2 y3 y4, LeO (QaD.j1 k y0 y1 y2 y3 y4) (QaD.j1 (k + 1) y0 y1 y2 y3 y4)) ∧ (∀ y0 y1 y2 y3 y4 y5 y6, LeO (QaD.l0 k y0 y1 y2 y3 y4 y5 y6) (QaD.l0 (k + 1) y0 y1 y2 y3 y4 y5 y6))
 | 0 => ⟨fun _ _ _ _ _ r h => by simp [QaD.j0] at h, fun _ _ _ _ _ r h => by simp [QaD.j1] at h, fun _ _ _ _ _ _ _ r h => by simp [QaD.l0] at h⟩
 | k + 1 => by
  obtain ⟨ih0, ih1, ih2⟩ := QaD.mono_l k
  refine ⟨?_, ?_, ?_⟩
  ·intro y0 y1 y2 y3 y4
   unfold QaD.j0
   exact ZM4 ih0 ih1 ih2 QaI.mono
  ·intro y0 y1 y2 y3 y4
   unfold QaD.j1
   exact ZM4 ih0 ih1 ih2 QaI.mono
  intro y0 y1 y2 y3 y4 y5 y6
  unfold QaD.l0
  exact ZM4 ih0 ih1 ih2 QaI.mono
theorem QaD.mono : ∀ a0 a1 a2 k, LeO (QaD.f k a0 a1 a2) (QaD.f (k + 1) a0 a1 a2) := by
 intro a0 a1 a2 k
 obtain ⟨ih0, ih1, ih2⟩ := QaD.mono_l k
 unfold QaD.f
 exact ZM4 ih0 ih1 ih2 QaI.mono
theorem QaD.calls (k : Nat) (A0 : Option Addr) (c0 : Nat) (l0 : List (S130)) (a1 : Int) (a2 : Int) (r1 : Int) (r2 : Int) (w : World) (hr0 : Kd.C k130 w A0 l0.length l0) (hc0 : l0.length ≤ c0) (h : QaD.f k l0 a1 a2 = some (r1, r2)) :
  Calls Try.prog 88 #[.slice A0 l0.length c0, .int .i64 a1, .int .i64 a2] w fun e w' => e = .returned (.tuple #[.int .i64 r1, .int .i64 r2]) ∧ Below w.heap.size w w' := by
 have hu138 := Try.underlying138
 have HR0 := Aside0.mk hr0
 have HC0 := Aside0.mk hc0
 clear hr0 hc0
 have HB := Aside0.mk (Below.refl w.heap.size w)
 have H : ((QaI.f k l0).bind fun bt530 => (if bt530.2 = 0 then (if a1 < 1 then (QaD.j0 k l0 a1 a2 bt530.1 T) else (QaD.j0 k l0 a1 a2 bt530.1 (decide (a1 > 16777216)))) else (some (0, bt530.2)))) = some (r1, r2) := h
 clear h
 replace H := Option.bind_eq_some_iff.mp H
 obtain ⟨⟨t530, t531⟩, A40, H⟩ := H
 replace H : (if t531 = 0 then (if a1 < 1 then (QaD.j0 k l0 a1 a2 t530 T) else (QaD.j0 k l0 a1 a2 t530 (decide (a1 > 16777216)))) else (some (0, t531))) = some (r1, r2) := H
 have A4 := Aside0.mk A40
 clear A40
 go_enter Try.func88, Try.ntmps88
 go_upto_if 16 with (first | ((with_reducible refine QaC (f := 87) rfl ?_); refine goesL_ (some 13) rfl rfl Try.func87 (by kernel_rfl) rfl #[.slice A0 l0.length c0] rfl (Zl) ?_; (with_reducible refine (QaI.calls k _ _ l0 t530 t531 _ ?side1 ?side2 A4.out).mono ?_); (case side1 => exact Zv HR0.out); (case side2 => exact HC0.out); rintro e w5 ⟨rfl, hb⟩; refine ⟨_, rfl, ?_⟩; replace HB := Aside0.mk (Qao (Zb) hb); (try clear hb); (try clear hb2); (try clear hk); (try clear hi)))
 (try simp only [Act.put, Zj, Zk, Zm])
 by_cases c6 : t531 = 0
 ·rw [if_pos c6] at H
  have c6b0 : (t531 == 0) = T := beq_iff_eq.mpr c6
  have c6b1 : (t531 != 0) = F := bne_eq_false_iff_eq.mpr c6
  clear c6
  (try simp only [c6b0, c6b1])
  have HC7 := Aside0.mk H
  clear H
  go_upto_region 4 with (fail)
  go_cut [20] (fun v20 wc => ∃ (kq : Nat) (x20_6 : Bool), v20 = .bool x20_6 ∧ Aside0 (QaD.j0 kq l0 a1 a2 t530 x20_6 = some (r1, r2)) ∧ Aside0 (kq ≤ k) ∧ Aside0 (Below w.heap.size w wc))
  case first =>
   have H := HC7.out
   clear HC7
   by_cases c8 : a1 < 1
   ·rw [if_pos c8] at H
    have c8b0 : decide (a1 < 1) = T := decide_eq_true c8
    clear c8
    have H' := Aside0.mk H
    clear H
    go_wp2
    go_meet
    case rel => exact ⟨_, (T), (Zs), H', ⟨by first | omega | exact Nat.le_refl _⟩, ⟨Zb⟩⟩
   rw [if_neg c8] at H
   have c8b0 : decide (a1 < 1) = F := decide_eq_false c8
   clear c8
   have H' := Aside0.mk H
   clear H
   go_wp2
   go_meet
   case rel => exact ⟨_, (decide (a1 > 16777216)), (Zs), H', ⟨by first | omega | exact Nat.le_refl _⟩, ⟨Zb⟩⟩
  case rest =>
   clear HC7
   try clear p2
   try clear c6
   try clear c6b0
   try clear c6b1
   try clear c8
   try clear c8b0
   obtain ⟨kq, x20_6, rfl, HA, HJ6, HB⟩ := hcut
   cases kq with
   | zero => exact absurd HA.out (by simp [QaD.j0])
   | succ kj6 =>
    have H := HA.out
    clear HA
    simp only [QaD.j0] at H
    by_cases c9 : x20_6 = T
    ·subst c9
     have H1 : (some (0, 16)) = some (r1, r2) := by rw [if_pos rfl] at H; exact H
     clear H
     have H := H1
     clear H1
     simp only [Option.some.injEq, Prod.mk.injEq] at H
     obtain ⟨rfl, rfl⟩ := H
     go_wp2
     go_ret2
     exact ⟨Zq, Zb⟩
    replace c9 := Bool.eq_false_iff.mpr c9
    subst c9
    have H1 : (if a2 < 1 then (QaD.j1 kj6 l0 a1 a2 t530 T) else (QaD.j1 kj6 l0 a1 a2 t530 (decide (a2 > 5)))) = some (r1, r2) := by rw [if_neg (show ¬ (F = T) by decide)] at H; exact H
    clear H
    have H := H1
    clear H1
    have HC10 := Aside0.mk H
    clear H
    go_upto_region 6 with (fail)
    go_cut [27] (fun v27 wc => ∃ (kq : Nat) (x27_9 : Bool), v27 = .bool x27_9 ∧ Aside0 (QaD.j1 kq l0 a1 a2 t530 x27_9 = some (r1, r2)) ∧ Aside0 (kq ≤ kj6) ∧ Aside0 (Below w.heap.size w wc))
    case first =>
     have H := HC10.out
     clear HC10
     by_cases c11 : a2 < 1
     ·rw [if_pos c11] at H
      have c11b0 : decide (a2 < 1) = T := decide_eq_true c11
      clear c11
      have H' := Aside0.mk H
      clear H
      go_wp2
      go_meet
      case rel => exact ⟨_, (T), (Zs), H', ⟨by have := HJ6.out; first | omega | exact Nat.le_refl _⟩, ⟨Zb⟩⟩
     rw [if_neg c11] at H
     have c11b0 : decide (a2 < 1) = F := decide_eq_false c11
     clear c11
     have H' := Aside0.mk H
     clear H
     go_wp2
     go_meet
     case rel => exact ⟨_, (decide (a2 > 5)), (Zs), H', ⟨by have := HJ6.out; first | omega | exact Nat.le_refl _⟩, ⟨Zb⟩⟩
    case rest =>
     clear HC10
     try clear c1
     try clear p2
     try clear c6
     try clear c6b0
     try clear c6b1
     try clear c8
     try clear c8b0
     try clear c9
     try clear c11
     try clear c11b0
     try clear p2
     obtain ⟨kq, x27_9, rfl, HA, HJ9, HB⟩ := hcut
     cases kq with
     | zero => exact absurd HA.out (by simp [QaD.j1])
     | succ kj9 =>
      have H := HA.out
      clear HA
      simp only [QaD.j1] at H
      by_cases c12 : x27_9 = T
      ·subst c12
       have H1 : (some (0, 2)) = some (r1, r2) := by rw [if_pos rfl] at H; exact H
       clear H
       have H := H1
       clear H1
       simp only [Option.some.injEq, Prod.mk.injEq] at H
       obtain ⟨rfl, rfl⟩ := H
       go_wp2
       go_ret2
       exact ⟨Zq, Zb⟩
      replace c12 := Bool.eq_false_iff.mpr c12
      subst c12
      have H1 : (if t530 = 0 then (some (0, 11)) else (QaD.l0 kj9 a1 a2 t530 l0 (l0.length : Int) 0 0)) = some (r1, r2) := by rw [if_neg (show ¬ (F = T) by decide)] at H; exact H
      clear H
      have H := H1
      clear H1
      by_cases c13 : t530 = 0
      ·rw [if_pos c13] at H
       have c13b0 : (t530 == 0) = T := beq_iff_eq.mpr c13
       have c13b1 : (t530 != 0) = F := bne_eq_false_iff_eq.mpr c13
       clear c13
       (try simp only [c13b0, c13b1])
       simp only [Option.some.injEq, Prod.mk.injEq] at H
       obtain ⟨rfl, rfl⟩ := H
       go_wp2
       go_ret2
       exact ⟨Zq, Zb⟩
      rw [if_neg c13] at H
      have c13b0 : (t530 == 0) = F := beq_eq_false_iff_ne.mpr c13
      have c13b1 : (t530 != 0) = T := bne_iff_ne.mpr c13
      (try simp only [c13b0, c13b1])
      have H' := Aside0.mk H
      clear H
      go_wp2_with (first | ((with_reducible refine QaJ (N := 9) rfl ?_); (refine gate_n (n := 56) rfl ?_); refine Zbx (N := 9) (cs := #[.int .i64 0]) (t := 3) ?_; intro gb532 hg w14 hbox hb; have BK532 := Aside0.mk (hbox); have GW532 := Aside0.mk (Zt w hg (Zb)); have GE532 := GW532; replace HB := Aside0.mk (Qao (Zb) hb); clear hb hbox hg; obtain ⟨hcz15_0, hfz15_0⟩ := Zy (v := (.int .i64 0)) BK532.out 0) | (go_at_call 102; go_in) | ((with_reducible refine QaJ (N := 2) rfl ?_); (refine gate_n (n := 19) rfl ?_); refine Zbx (N := 2) (cs := #[.func (.func 105) #[] #[.pointer (some ⟨gb532, 0, none⟩)]]) (t := 138) ?_; intro gb533 hg w16 hbox hb; have BK533 := Aside0.mk (hbox); have GW533 := Aside0.mk (Zt w hg (Zc1 GE532.out)); have GE533 := GW533; have NB532_533 := Aside0.mk ((by rw [hg]; exact Nat.ne_of_lt (blk_lt (g := gb532) (o := .cells #[.int .i64 0] 3 (0, 0)) (Zp2 BK532.out)) : gb532 ≠ gb533)); have NB533_532 := Aside0.mk ((by rw [hg]; exact Nat.ne_of_gt (blk_lt (g := gb532) (o := .cells #[.int .i64 0] 3 (0, 0)) (Zp2 BK532.out)) : gb533 ≠ gb532)); replace BK532 := Aside0.mk (Zpi #[.int .i64 0] BK532.out hb); replace HB := Aside0.mk (Qao (Zc1 GE532.out) hb); clear hb hbox hg))
      go_loopg [9] kj9 (fun kq v309 w' => ∃ (x309_3 : Int) (x533000_3 : Int), v309 = .int .i64 x309_3 ∧ Aside0 (QaD.l0 kq a1 a2 t530 l0 (l0.length : Int) x309_3 x533000_3 = some (r1, r2)) ∧ Aside0 (kq ≤ kj9) ∧ Aside0 (w'.heap[gb532]? = some (.cells #[.int .i64 x533000_3] 3 (0, 0))) ∧ Aside0 (w'.heap[gb533]? = some (.cells #[(.func (.func 105) #[] #[.pointer (some ⟨gb532, 0, none⟩)])] 138 (0, 0))) ∧ Aside0 (Below w.heap.size w w'))
      case atStart => exact ⟨(0), (0), (Zs), H', ⟨Nat.le_refl _⟩, ⟨Zu BK532.out⟩, ⟨Zu BK533.out⟩, ⟨Zc2 GE532.out GE533.out⟩⟩
      case round =>
       clear H'
       try clear c1
       try clear p2
       try clear c6
       try clear c6b0
       try clear c6b1
       try clear c8
       try clear c8b0
       try clear c9
       try clear c11
       try clear c11b0
       try clear c12
       try clear c13
       try clear c13b0
       try clear c13b1
       try clear hcz15_0
       try clear hfz15_0
       try clear p2
       obtain ⟨x309_3, x533000_3, rfl, HA, HK3, BK532, BK533, HB⟩ := hrel
       cases gk with
       | zero => exact absurd HA.out (by simp [QaD.l0])
       | succ k3 =>
        have H := HA.out
        clear HA
        simp only [QaD.l0] at H
        by_cases c17 : x309_3 < (l0.length : Int)
        ·rw [if_pos c17] at H
         have c17b0 : decide (x309_3 < (l0.length : Int)) = T := decide_eq_true c17
         clear c17
         (try simp only [c17b0])
         by_cases c18 : 0 ≤ x309_3
         ·rw [if_pos c18] at H
          have c18b0 : decide (0 ≤ x309_3) = T := decide_eq_true c18
          clear c18
          by_cases c19 : x309_3 < (l0.length : Int)
          ·rw [if_pos c19] at H
           have c19b0 : decide (x309_3 < (l0.length : Int)) = T := decide_eq_true c19
           clear c19
           have p534 : 0 ≤ (x309_3 : Int) := Ze
           have q534 : x309_3 < (l0.length : Int) := Ze
           obtain ⟨ad534, e534, hx534_0, hx534_1, hx534_2⟩ := QbS HR0.out x309_3 p534 q534
           cases e534
           replace hx534_0 := Zx HB.out hx534_0
           replace hx534_1 := Zx HB.out hx534_1
           replace hx534_2 := Zx HB.out hx534_2
           replace p534 := eq_true p534
           replace q534 := eq_true q534
           go_upto_region 6 with (first | ((with_reducible refine QaJ (N := 6) rfl ?_); (refine gate_n (n := 19) rfl ?_); refine Zbx (N := 6) (cs := #[.int .i64 0, .int .i64 0, .int .i64 0]) (t := 130) ?_; intro gb535 hg w20 hbox hb; have BK535 := Aside0.mk (hbox); have GW535 := Aside0.mk (Zt w hg (Zc2 GE532.out GE533.out)); have GE535 := GW535; have NB532_535 := Aside0.mk (Zn hg BK532.out); have NB535_532 := Aside0.mk NB532_535.out.symm; have NB533_535 := Aside0.mk (Zn hg BK533.out); have NB535_533 := Aside0.mk NB533_535.out.symm; replace BK532 := Aside0.mk (Zi BK532.out hb); replace BK533 := Aside0.mk (Zi BK533.out hb); replace HB := Aside0.mk (Qao (Zc2 GE532.out GE533.out) hb); clear hb hbox hg; have hnb21 := NB535_532.out; have hnc21 := NB532_535.out; have hnb22 := NB535_533.out; have hnc22 := NB533_535.out; obtain ⟨hcz23_0, hfz23_0⟩ := Zy (v := (.int .i64 0)) BK535.out 0; obtain ⟨hcz23_1, hfz23_1⟩ := Zy (v := (.int .i64 0)) BK535.out 1; obtain ⟨hcz23_2, hfz23_2⟩ := Zy (v := (.int .i64 0)) BK535.out 2; have hnb24 := NB533_532.out; have hnc24 := NB532_533.out; obtain ⟨hcz25_0, hfz25_0⟩ := Zy (v := (.func (.func 105) #[] #[.pointer (some ⟨gb532, 0, none⟩)])) BK533.out 0) | (go_at_call 105; go_in) | ((with_reducible refine QaJ (N := 2) rfl ?_); (refine gate_n (n := 11) rfl ?_); refine Zbx (N := 2) (cs := #[.int .i64 ((Qaj l0 x309_3).f0), .int .i64 ((Qaj l0 x309_3).f1), .int .i64 ((Qaj l0 x309_3).f2)]) (t := 130) ?_; intro gb536 hg w26 hbox hb; have BK536 := Aside0.mk (hbox); have GW536 := Aside0.mk (Zt w hg (Zc3 GE532.out GE533.out GE535.out)); have GE536 := GW536; have NB532_536 := Aside0.mk ((by rw [hg]; exact Nat.ne_of_lt (blk_lt (g := gb532) (o := .cells #[.int .i64 x533000_3] 3 (0, 0)) (Zg3 BK532.out NB532_535.out NB532_535.out NB532_535.out)) : gb532 ≠ gb536)); have NB536_532 := Aside0.mk ((by rw [hg]; exact Nat.ne_of_gt (blk_lt (g := gb532) (o := .cells #[.int .i64 x533000_3] 3 (0, 0)) (Zg3 BK532.out NB532_535.out NB532_535.out NB532_535.out)) : gb536 ≠ gb532)); have NB533_536 := Aside0.mk ((by rw [hg]; exact Nat.ne_of_lt (blk_lt (g := gb533) (o := .cells #[.func (.func 105) #[] #[.pointer (some ⟨gb532, 0, none⟩)]] 138 (0, 0)) (Zg3 BK533.out NB533_535.out NB533_535.out NB533_535.out)) : gb533 ≠ gb536)); have NB536_533 := Aside0.mk ((by rw [hg]; exact Nat.ne_of_gt (blk_lt (g := gb533) (o := .cells #[.func (.func 105) #[] #[.pointer (some ⟨gb532, 0, none⟩)]] 138 (0, 0)) (Zg3 BK533.out NB533_535.out NB533_535.out NB533_535.out)) : gb536 ≠ gb533)); have NB535_536 := Aside0.mk ((by rw [hg]; exact Nat.ne_of_lt (blk_lt (g := gb535) (o := .cells #[.int .i64 ((Qaj l0 x309_3).f0), .int .i64 ((Qaj l0 x309_3).f1), .int .i64 ((Qaj l0 x309_3).f2)] 130 (0, 0)) (Zp2 BK535.out)) : gb535 ≠ gb536)); have NB536_535 := Aside0.mk ((by rw [hg]; exact Nat.ne_of_gt (blk_lt (g := gb535) (o := .cells #[.int .i64 ((Qaj l0 x309_3).f0), .int .i64 ((Qaj l0 x309_3).f1), .int .i64 ((Qaj l0 x309_3).f2)] 130 (0, 0)) (Zp2 BK535.out)) : gb536 ≠ gb535)); replace BK532 := Aside0.mk (Qam (g := gb532) (o := .cells #[.int .i64 x533000_3] 3 (0, 0)) (Zg3 BK532.out NB532_535.out NB532_535.out NB532_535.out) hb); replace BK533 := Aside0.mk (Qam (g := gb533) (o := .cells #[.func (.func 105) #[] #[.pointer (some ⟨gb532, 0, none⟩)]] 138 (0, 0)) (Zg3 BK533.out NB533_535.out NB533_535.out NB533_535.out) hb); replace BK535 := Aside0.mk (Zpi #[.int .i64 ((Qaj l0 x309_3).f0), .int .i64 ((Qaj l0 x309_3).f1), .int .i64 ((Qaj l0 x309_3).f2)] BK535.out hb); replace HB := Aside0.mk (Qao (Zc3 GE532.out GE533.out GE535.out) hb); clear hb hbox hg; have hnb27 := NB532_536.out; have hnc27 := NB536_532.out; obtain ⟨hcz28_0, hfz28_0⟩ := Zy (v := (.int .i64 x533000_3)) BK532.out 0; have hnb29 := NB536_533.out; have hnc29 := NB533_536.out; have hnb30 := NB536_535.out; have hnc30 := NB535_536.out; obtain ⟨hcz31_0, hfz31_0⟩ := Zy (v := (.int .i64 ((Qaj l0 x309_3).f0))) BK536.out 0; obtain ⟨hcz31_1, hfz31_1⟩ := Zy (v := (.int .i64 ((Qaj l0 x309_3).f1))) BK536.out 1; obtain ⟨hcz31_2, hfz31_2⟩ := Zy (v := (.int .i64 ((Qaj l0 x309_3).f2))) BK536.out 2))
           (try simp only [Act.put, Zj, Zk, Zm])
           have H' := Aside0.mk H
           clear H
           go_wp2
           go_roundg k3
           case measure => have := HJ6.out; have := HJ9.out; have := HK3.out; omega
           case rel => exact ⟨(wrap64 (x309_3 + 1)), (wrap64 (x533000_3 + (wrap64 (((Qaj l0 x309_3).f2) * ((Qaj l0 x309_3).f1))))), (Zs), H', ⟨by have := HJ6.out; have := HJ9.out; have := HK3.out; omega⟩, ⟨Zp2 BK532.out⟩, ⟨Zg1 BK533.out NB533_532.out⟩, ⟨Zc4 GE532.out GE533.out GE535.out GE536.out⟩⟩
          rw [if_neg c19] at H
          exact absurd H (by simp)
         rw [if_neg c18] at H
         exact absurd H (by simp)
        rw [if_neg c17] at H
        have c17b0 : decide (x309_3 < (l0.length : Int)) = F := decide_eq_false c17
        clear c17
        (try simp only [c17b0])
        go_upto_region 12 with (fail)
        replace H := Option.bind_eq_some_iff.mp H
        obtain ⟨⟨t537, t538⟩, A320, H⟩ := H
        replace H : (if t538 = 0 then (some (wrap64 (t537 * a1), 0)) else (some (0, t538))) = some (r1, r2) := H
        have A32 := Aside0.mk A320
        clear A320
        have hnb33 := NB532_533.out
        have hnc33 := NB533_532.out
        obtain ⟨hcz34_0, hfz34_0⟩ := Zy (v := (.int .i64 x533000_3)) BK532.out 0
        go_upto_if 51 with (first | ((with_reducible refine QaC (f := 53) rfl ?_); refine goesL_ (some 47) rfl rfl Try.func53 (by kernel_rfl) rfl #[.int .i64 x533000_3, .int .i64 1, .int .i64 (wrap64 (t530 * a1)), .int .i64 a2] rfl (Zl) ?_; (with_reducible refine (QaA.calls x533000_3 1 (wrap64 (t530 * a1)) a2 t537 t538 _ A32.out).mono ?_); rintro e w35 ⟨rfl, hb⟩; refine ⟨_, rfl, ?_⟩; replace BK532 := Aside0.mk (Zi BK532.out hb); replace BK533 := Aside0.mk (Zi BK533.out hb); replace HB := Aside0.mk (Qao (Zc2 GE532.out GE533.out) hb); (try clear hb); (try clear hb2); (try clear hk); (try clear hi)))
        (try simp only [Act.put, Zj, Zk, Zm])
        by_cases c36 : t538 = 0
        ·rw [if_pos c36] at H
         have c36b0 : (t538 == 0) = T := beq_iff_eq.mpr c36
         have c36b1 : (t538 != 0) = F := bne_eq_false_iff_eq.mpr c36
         clear c36
         (try simp only [c36b0, c36b1])
         simp only [Option.some.injEq, Prod.mk.injEq] at H
         obtain ⟨rfl, rfl⟩ := H
         go_wp2
         go_ret2
         exact ⟨Zq, Zc2 GE532.out GE533.out⟩
        rw [if_neg c36] at H
        have c36b0 : (t538 == 0) = F := beq_eq_false_iff_ne.mpr c36
        have c36b1 : (t538 != 0) = T := bne_iff_ne.mpr c36
        (try simp only [c36b0, c36b1])
        simp only [Option.some.injEq, Prod.mk.injEq] at H
        obtain ⟨rfl, rfl⟩ := H
        go_wp2
        go_ret2
        exact ⟨Zq, Zc2 GE532.out GE533.out⟩
 rw [if_neg c6] at H
 have c6b0 : (t531 == 0) = F := beq_eq_false_iff_ne.mpr c6
 have c6b1 : (t531 != 0) = T := bne_iff_ne.mpr c6
 (try simp only [c6b0, c6b1])
 simp only [Option.some.injEq, Prod.mk.injEq] at H
 obtain ⟨rfl, rfl⟩ := H
 go_wp2
 go_ret2
 exact ⟨Zq, Zb⟩
def Qbe.f (k : Nat) (a0_0 : ByteArray) (a0_1 : Int) (a0_2 : Int) (a0_3 : Int) (a0_4 : Int) (a0_5 : Int) (a0_6 : Bool) (a1 : Int) (a2 : Int) : Option (Int × Int) := (Qan.f k a0_0 a0_1 a0_2 a0_3 a0_4 a0_5 a0_6).bind fun t546 => (if t546 = 0 then ((QaG.f a1 16777216).bind fun t547 => (if t547 = T then ((QaA.f a1 1 a0_3 a2).bind fun bt548 => (if bt548.2 = 0 then ((QaE.f k (wrap64 (bt548.1 * a0_3)) a0_4 a0_5).bind fun t550 => (some (t550, 0))) else (some (0, bt548.2)))) else (some (0, 17)))) else (some (0, t546)))
theorem Qbe.mono : ∀ a0 a1 a2 a3 a4 a5 a6 a7 a8 k, LeO (Qbe.f k a0 a1 a2 a3 a4 a5 a6 a7 a8) (Qbe.f (k + 1) a0 a1 a2 a3 a4 a5 a6 a7 a8) := by
 intro a0 a1 a2 a3 a4 a5 a6 a7 a8 k
 unfold Qbe.f
 exact ZM2 QaE.mono Qan.mono
theorem Qbe.calls (k : Nat) (a0_0 : ByteArray) (a0_1 : Int) (a0_2 : Int) (a0_3 : Int) (a0_4 : Int) (a0_5 : Int) (a0_6 : Bool) (a1 : Int) (a2 : Int) (r1 : Int) (r2 : Int) (w : World) (h : Qbe.f k a0_0 a0_1 a0_2 a0_3 a0_4 a0_5 a0_6 a1 a2 = some (r1, r2)) :
  Calls Try.prog 94 #[.agg #[.string a0_0, .int .i64 a0_1, .int .i64 a0_2, .int .i64 a0_3, .int .i64 a0_4, .int .i64 a0_5, .bool a0_6], .int .i64 a1, .int .i64 a2] w fun e w' => e = .returned (.tuple #[.int .i64 r1, .int .i64 r2]) ∧ Below w.heap.size w w' := by
 have hu73 := Try.underlying73
 have HB := Aside0.mk (Below.refl w.heap.size w)
 have H : ((Qan.f k a0_0 a0_1 a0_2 a0_3 a0_4 a0_5 a0_6).bind fun t546 => (if t546 = 0 then ((QaG.f a1 16777216).bind fun t547 => (if t547 = T then ((QaA.f a1 1 a0_3 a2).bind fun bt548 => (if bt548.2 = 0 then ((QaE.f k (wrap64 (bt548.1 * a0_3)) a0_4 a0_5).bind fun t550 => (some (t550, 0))) else (some (0, bt548.2)))) else (some (0, 17)))) else (some (0, t546)))) = some (r1, r2) := h
 clear h
 replace H := Option.bind_eq_some_iff.mp H
 obtain ⟨t546, A40, H⟩ := H
 replace H : (if t546 = 0 then ((QaG.f a1 16777216).bind fun t547 => (if t547 = T then ((QaA.f a1 1 a0_3 a2).bind fun bt548 => (if bt548.2 = 0 then ((QaE.f k (wrap64 (bt548.1 * a0_3)) a0_4 a0_5).bind fun t550 => (some (t550, 0))) else (some (0, bt548.2)))) else (some (0, 17)))) else (some (0, t546))) = some (r1, r2) := H
 have A4 := Aside0.mk A40
 clear A40
 go_enter Try.func94, Try.ntmps94
 go_upto_if 14 with (first | ((with_reducible refine QaJ (N := 3) rfl ?_); refine Zbx (N := 3) (cs := #[.string a0_0, .int .i64 a0_1, .int .i64 a0_2, .int .i64 a0_3, .int .i64 a0_4, .int .i64 a0_5, .bool a0_6]) (t := 73) ?_; intro gb545 hg w5 hbox hb; have BK545 := Aside0.mk (hbox); have GW545 := Aside0.mk (Zt w hg (Zb)); have GE545 := GW545; replace HB := Aside0.mk (Qao (Zb) hb); clear hb hbox hg; obtain ⟨hcz6_0, hfz6_0⟩ := Zy (v := (.string a0_0)) BK545.out 0; obtain ⟨hcz6_1, hfz6_1⟩ := Zy (v := (.int .i64 a0_1)) BK545.out 1; obtain ⟨hcz6_2, hfz6_2⟩ := Zy (v := (.int .i64 a0_2)) BK545.out 2; obtain ⟨hcz6_3, hfz6_3⟩ := Zy (v := (.int .i64 a0_3)) BK545.out 3; obtain ⟨hcz6_4, hfz6_4⟩ := Zy (v := (.int .i64 a0_4)) BK545.out 4; obtain ⟨hcz6_5, hfz6_5⟩ := Zy (v := (.int .i64 a0_5)) BK545.out 5; obtain ⟨hcz6_6, hfz6_6⟩ := Zy (v := (.bool a0_6)) BK545.out 6) | ((with_reducible refine QaC (f := 65) rfl ?_); refine goesL_ (some 12) rfl rfl Try.func65 (by kernel_rfl) rfl #[.agg #[.string a0_0, .int .i64 a0_1, .int .i64 a0_2, .int .i64 a0_3, .int .i64 a0_4, .int .i64 a0_5, .bool a0_6]] rfl (Zl) ?_; (with_reducible refine (Qan.calls k a0_0 a0_1 a0_2 a0_3 a0_4 a0_5 a0_6 t546 _ A4.out).mono ?_); rintro e w7 ⟨rfl, hb⟩; refine ⟨_, rfl, ?_⟩; replace BK545 := Aside0.mk (Zi BK545.out hb); replace HB := Aside0.mk (Qao (Zc1 GE545.out) hb); (try clear hb); (try clear hb2); (try clear hk); (try clear hi)))
 (try simp only [Act.put, Zj, Zk, Zm])
 by_cases c8 : t546 = 0
 ·rw [if_pos c8] at H
  have c8b0 : (t546 == 0) = T := beq_iff_eq.mpr c8
  have c8b1 : (t546 != 0) = F := bne_eq_false_iff_eq.mpr c8
  clear c8
  (try simp only [c8b0, c8b1])
  replace H := Option.bind_eq_some_iff.mp H
  obtain ⟨t547, A90, H⟩ := H
  replace H : (if t547 = T then ((QaA.f a1 1 a0_3 a2).bind fun bt548 => (if bt548.2 = 0 then ((QaE.f k (wrap64 (bt548.1 * a0_3)) a0_4 a0_5).bind fun t550 => (some (t550, 0))) else (some (0, bt548.2)))) else (some (0, 17))) = some (r1, r2) := H
  have A9 := Aside0.mk A90
  clear A90
  go_upto_if 18 with (first | ((with_reducible refine QaC (f := 67) rfl ?_); refine goesL_ (some 17) rfl rfl Try.func67 (by kernel_rfl) rfl #[.int .i64 a1, .int .i64 16777216] rfl (Zl) ?_; (with_reducible refine (QaG.calls a1 16777216 t547 _ A9.out).mono ?_); rintro e w' ⟨rfl, ⟨nd, rfl⟩⟩; refine ⟨_, rfl, ?_⟩))
  (try simp only [Act.put, Zj, Zk, Zm])
  by_cases c10 : t547 = T
  ·subst c10
   have H1 : ((QaA.f a1 1 a0_3 a2).bind fun bt548 => (if bt548.2 = 0 then ((QaE.f k (wrap64 (bt548.1 * a0_3)) a0_4 a0_5).bind fun t550 => (some (t550, 0))) else (some (0, bt548.2)))) = some (r1, r2) := by rw [if_pos rfl] at H; exact H
   clear H
   have H := H1
   clear H1
   replace H := Option.bind_eq_some_iff.mp H
   obtain ⟨⟨t548, t549⟩, A110, H⟩ := H
   replace H : (if t549 = 0 then ((QaE.f k (wrap64 (t548 * a0_3)) a0_4 a0_5).bind fun t550 => (some (t550, 0))) else (some (0, t549))) = some (r1, r2) := H
   have A11 := Aside0.mk A110
   clear A110
   obtain ⟨hcz12_0, hfz12_0⟩ := Zy (v := (.string a0_0)) BK545.out 0
   obtain ⟨hcz12_1, hfz12_1⟩ := Zy (v := (.int .i64 a0_1)) BK545.out 1
   obtain ⟨hcz12_2, hfz12_2⟩ := Zy (v := (.int .i64 a0_2)) BK545.out 2
   obtain ⟨hcz12_3, hfz12_3⟩ := Zy (v := (.int .i64 a0_3)) BK545.out 3
   obtain ⟨hcz12_4, hfz12_4⟩ := Zy (v := (.int .i64 a0_4)) BK545.out 4
   obtain ⟨hcz12_5, hfz12_5⟩ := Zy (v := (.int .i64 a0_5)) BK545.out 5
   obtain ⟨hcz12_6, hfz12_6⟩ := Zy (v := (.bool a0_6)) BK545.out 6
   go_upto_if 28 with (first | ((with_reducible refine QaC (f := 53) rfl ?_); refine goesL_ (some 24) rfl rfl Try.func53 (by kernel_rfl) rfl #[.int .i64 a1, .int .i64 1, .int .i64 a0_3, .int .i64 a2] rfl (Zl) ?_; (with_reducible refine (QaA.calls a1 1 a0_3 a2 t548 t549 _ A11.out).mono ?_); rintro e w13 ⟨rfl, hb⟩; refine ⟨_, rfl, ?_⟩; replace BK545 := Aside0.mk (Zi BK545.out hb); replace HB := Aside0.mk (Qao (Zc1 GE545.out) hb); (try clear hb); (try clear hb2); (try clear hk); (try clear hi)))
   (try simp only [Act.put, Zj, Zk, Zm])
   by_cases c14 : t549 = 0
   ·rw [if_pos c14] at H
    have c14b0 : (t549 == 0) = T := beq_iff_eq.mpr c14
    have c14b1 : (t549 != 0) = F := bne_eq_false_iff_eq.mpr c14
    clear c14
    (try simp only [c14b0, c14b1])
    replace H := Option.bind_eq_some_iff.mp H
    obtain ⟨t550, A150, H⟩ := H
    replace H : (some (t550, 0)) = some (r1, r2) := H
    have A15 := Aside0.mk A150
    clear A150
    simp only [Option.some.injEq, Prod.mk.injEq] at H
    obtain ⟨rfl, rfl⟩ := H
    obtain ⟨hcz16_0, hfz16_0⟩ := Zy (v := (.string a0_0)) BK545.out 0
    obtain ⟨hcz16_1, hfz16_1⟩ := Zy (v := (.int .i64 a0_1)) BK545.out 1
    obtain ⟨hcz16_2, hfz16_2⟩ := Zy (v := (.int .i64 a0_2)) BK545.out 2
    obtain ⟨hcz16_3, hfz16_3⟩ := Zy (v := (.int .i64 a0_3)) BK545.out 3
    obtain ⟨hcz16_4, hfz16_4⟩ := Zy (v := (.int .i64 a0_4)) BK545.out 4
    obtain ⟨hcz16_5, hfz16_5⟩ := Zy (v := (.int .i64 a0_5)) BK545.out 5
    obtain ⟨hcz16_6, hfz16_6⟩ := Zy (v := (.bool a0_6)) BK545.out 6
    go_wp2_with (first | ((with_reducible refine QaC (f := 61) rfl ?_); refine goesL_ (some 38) rfl rfl Try.func61 (by kernel_rfl) rfl #[.int .i64 (wrap64 (t548 * a0_3)), .int .i64 a0_4, .int .i64 a0_5] rfl (Zl) ?_; (with_reducible refine (QaE.calls k (wrap64 (t548 * a0_3)) a0_4 a0_5 t550 _ A15.out).mono ?_); rintro e w' ⟨rfl, ⟨nd, rfl⟩⟩; refine ⟨_, rfl, ?_⟩))
    go_ret2
    exact ⟨Zq, Zc1 GE545.out⟩
   rw [if_neg c14] at H
   have c14b0 : (t549 == 0) = F := beq_eq_false_iff_ne.mpr c14
   have c14b1 : (t549 != 0) = T := bne_iff_ne.mpr c14
   (try simp only [c14b0, c14b1])
   simp only [Option.some.injEq, Prod.mk.injEq] at H
   obtain ⟨rfl, rfl⟩ := H
   go_wp2
   go_ret2
   exact ⟨Zq, Zc1 GE545.out⟩
  replace c10 := Bool.eq_false_iff.mpr c10
  subst c10
  have H1 : (some (0, 17)) = some (r1, r2) := by rw [if_neg (show ¬ (F = T) by decide)] at H; exact H
  clear H
  have H := H1
  clear H1
  simp only [Option.some.injEq, Prod.mk.injEq] at H
  obtain ⟨rfl, rfl⟩ := H
  go_wp2
  go_ret2
  exact ⟨Zq, Zc1 GE545.out⟩
 rw [if_neg c8] at H
 have c8b0 : (t546 == 0) = F := beq_eq_false_iff_ne.mpr c8
 have c8b1 : (t546 != 0) = T := bne_iff_ne.mpr c8
 (try simp only [c8b0, c8b1])
 simp only [Option.some.injEq, Prod.mk.injEq] at H
 obtain ⟨rfl, rfl⟩ := H
 go_wp2
 go_ret2
 exact ⟨Zq, Zc1 GE545.out⟩
def QaR.f (k : Nat) (a0_0 : ByteArray) (a0_1 : Int) (a0_2 : Int) (a0_3 : Int) (a0_4 : Int) (a0_5 : Int) (a0_6 : Bool) (a1 : Int) (a2 : Int) : Option (Int × Int) := (Qan.f k a0_0 a0_1 a0_2 a0_3 a0_4 a0_5 a0_6).bind fun t552 => (if t552 = 0 then ((QaG.f a1 33554432).bind fun t553 => (if t553 = T then ((QaG.f a2 1048576).bind fun t554 => (if t554 = T then (some (wrap64 ((wrap64 (a1 * a0_2)) * a2), 0)) else (some (0, 18)))) else (some (0, 17)))) else (some (0, t552)))
theorem QaR.mono : ∀ a0 a1 a2 a3 a4 a5 a6 a7 a8 k, LeO (QaR.f k a0 a1 a2 a3 a4 a5 a6 a7 a8) (QaR.f (k + 1) a0 a1 a2 a3 a4 a5 a6 a7 a8) := by
 intro a0 a1 a2 a3 a4 a5 a6 a7 a8 k
 unfold QaR.f
 exact ZM1 Qan.mono
theorem QaR.calls (k : Nat) (a0_0 : ByteArray) (a0_1 : Int) (a0_2 : Int) (a0_3 : Int) (a0_4 : Int) (a0_5 : Int) (a0_6 : Bool) (a1 : Int) (a2 : Int) (r1 : Int) (r2 : Int) (w : World) (h : QaR.f k a0_0 a0_1 a0_2 a0_3 a0_4 a0_5 a0_6 a1 a2 = some (r1, r2)) :
  Calls Try.prog 44 #[.agg #[.string a0_0, .int .i64 a0_1, .int .i64 a0_2, .int .i64 a0_3, .int .i64 a0_4, .int .i64 a0_5, .bool a0_6], .int .i64 a1, .int .i64 a2] w fun e w' => e = .returned (.tuple #[.int .i64 r1, .int .i64 r2]) ∧ Below w.heap.size w w' := by
 have hu73 := Try.underlying73
 have HB := Aside0.mk (Below.refl w.heap.size w)
 have H : ((Qan.f k a0_0 a0_1 a0_2 a0_3 a0_4 a0_5 a0_6).bind fun t552 => (if t552 = 0 then ((QaG.f a1 33554432).bind fun t553 => (if t553 = T then ((QaG.f a2 1048576).bind fun t554 => (if t554 = T then (some (wrap64 ((wrap64 (a1 * a0_2)) * a2), 0)) else (some (0, 18)))) else (some (0, 17)))) else (some (0, t552)))) = some (r1, r2) := h
 clear h
 replace H := Option.bind_eq_some_iff.mp H
 obtain ⟨t552, A40, H⟩ := H
 replace H : (if t552 = 0 then ((QaG.f a1 33554432).bind fun t553 => (if t553 = T then ((QaG.f a2 1048576).bind fun t554 => (if t554 = T then (some (wrap64 ((wrap64 (a1 * a0_2)) * a2), 0)) else (some (0, 18)))) else (some (0, 17)))) else (some (0, t552))) = some (r1, r2) := H
 have A4 := Aside0.mk A40
 clear A40
 go_enter Try.func44, Try.ntmps44
 go_upto_if 12 with (first | ((with_reducible refine QaJ (N := 3) rfl ?_); refine Zbx (N := 3) (cs := #[.string a0_0, .int .i64 a0_1, .int .i64 a0_2, .int .i64 a0_3, .int .i64 a0_4, .int .i64 a0_5, .bool a0_6]) (t := 73) ?_; intro gb551 hg w5 hbox hb; have BK551 := Aside0.mk (hbox); have GW551 := Aside0.mk (Zt w hg (Zb)); have GE551 := GW551; replace HB := Aside0.mk (Qao (Zb) hb); clear hb hbox hg; obtain ⟨hcz6_0, hfz6_0⟩ := Zy (v := (.string a0_0)) BK551.out 0; obtain ⟨hcz6_1, hfz6_1⟩ := Zy (v := (.int .i64 a0_1)) BK551.out 1; obtain ⟨hcz6_2, hfz6_2⟩ := Zy (v := (.int .i64 a0_2)) BK551.out 2; obtain ⟨hcz6_3, hfz6_3⟩ := Zy (v := (.int .i64 a0_3)) BK551.out 3; obtain ⟨hcz6_4, hfz6_4⟩ := Zy (v := (.int .i64 a0_4)) BK551.out 4; obtain ⟨hcz6_5, hfz6_5⟩ := Zy (v := (.int .i64 a0_5)) BK551.out 5; obtain ⟨hcz6_6, hfz6_6⟩ := Zy (v := (.bool a0_6)) BK551.out 6) | ((with_reducible refine QaC (f := 65) rfl ?_); refine goesL_ (some 10) rfl rfl Try.func65 (by kernel_rfl) rfl #[.agg #[.string a0_0, .int .i64 a0_1, .int .i64 a0_2, .int .i64 a0_3, .int .i64 a0_4, .int .i64 a0_5, .bool a0_6]] rfl (Zl) ?_; (with_reducible refine (Qan.calls k a0_0 a0_1 a0_2 a0_3 a0_4 a0_5 a0_6 t552 _ A4.out).mono ?_); rintro e w7 ⟨rfl, hb⟩; refine ⟨_, rfl, ?_⟩; replace BK551 := Aside0.mk (Zi BK551.out hb); replace HB := Aside0.mk (Qao (Zc1 GE551.out) hb); (try clear hb); (try clear hb2); (try clear hk); (try clear hi)))
 (try simp only [Act.put, Zj, Zk, Zm])
 by_cases c8 : t552 = 0
 ·rw [if_pos c8] at H
  have c8b0 : (t552 == 0) = T := beq_iff_eq.mpr c8
  have c8b1 : (t552 != 0) = F := bne_eq_false_iff_eq.mpr c8
  clear c8
  (try simp only [c8b0, c8b1])
  replace H := Option.bind_eq_some_iff.mp H
  obtain ⟨t553, A90, H⟩ := H
  replace H : (if t553 = T then ((QaG.f a2 1048576).bind fun t554 => (if t554 = T then (some (wrap64 ((wrap64 (a1 * a0_2)) * a2), 0)) else (some (0, 18)))) else (some (0, 17))) = some (r1, r2) := H
  have A9 := Aside0.mk A90
  clear A90
  go_upto_if 16 with (first | ((with_reducible refine QaC (f := 67) rfl ?_); refine goesL_ (some 15) rfl rfl Try.func67 (by kernel_rfl) rfl #[.int .i64 a1, .int .i64 33554432] rfl (Zl) ?_; (with_reducible refine (QaG.calls a1 33554432 t553 _ A9.out).mono ?_); rintro e w' ⟨rfl, ⟨nd, rfl⟩⟩; refine ⟨_, rfl, ?_⟩))
  (try simp only [Act.put, Zj, Zk, Zm])
  by_cases c10 : t553 = T
  ·subst c10
   have H1 : ((QaG.f a2 1048576).bind fun t554 => (if t554 = T then (some (wrap64 ((wrap64 (a1 * a0_2)) * a2), 0)) else (some (0, 18)))) = some (r1, r2) := by rw [if_pos rfl] at H; exact H
   clear H
   have H := H1
   clear H1
   replace H := Option.bind_eq_some_iff.mp H
   obtain ⟨t554, A110, H⟩ := H
   replace H : (if t554 = T then (some (wrap64 ((wrap64 (a1 * a0_2)) * a2), 0)) else (some (0, 18))) = some (r1, r2) := H
   have A11 := Aside0.mk A110
   clear A110
   go_upto_if 19 with (first | ((with_reducible refine QaC (f := 67) rfl ?_); refine goesL_ (some 18) rfl rfl Try.func67 (by kernel_rfl) rfl #[.int .i64 a2, .int .i64 1048576] rfl (Zl) ?_; (with_reducible refine (QaG.calls a2 1048576 t554 _ A11.out).mono ?_); rintro e w' ⟨rfl, ⟨nd, rfl⟩⟩; refine ⟨_, rfl, ?_⟩))
   (try simp only [Act.put, Zj, Zk, Zm])
   by_cases c12 : t554 = T
   ·subst c12
    have H1 : (some (wrap64 ((wrap64 (a1 * a0_2)) * a2), 0)) = some (r1, r2) := by rw [if_pos rfl] at H; exact H
    clear H
    have H := H1
    clear H1
    simp only [Option.some.injEq, Prod.mk.injEq] at H
    obtain ⟨rfl, rfl⟩ := H
    obtain ⟨hcz13_0, hfz13_0⟩ := Zy (v := (.string a0_0)) BK551.out 0
    obtain ⟨hcz13_1, hfz13_1⟩ := Zy (v := (.int .i64 a0_1)) BK551.out 1
    obtain ⟨hcz13_2, hfz13_2⟩ := Zy (v := (.int .i64 a0_2)) BK551.out 2
    obtain ⟨hcz13_3, hfz13_3⟩ := Zy (v := (.int .i64 a0_3)) BK551.out 3
    obtain ⟨hcz13_4, hfz13_4⟩ := Zy (v := (.int .i64 a0_4)) BK551.out 4
    obtain ⟨hcz13_5, hfz13_5⟩ := Zy (v := (.int .i64 a0_5)) BK551.out 5
    obtain ⟨hcz13_6, hfz13_6⟩ := Zy (v := (.bool a0_6)) BK551.out 6
    go_wp2
    go_ret2
    exact ⟨Zq, Zc1 GE551.out⟩
   replace c12 := Bool.eq_false_iff.mpr c12
   subst c12
   have H1 : (some (0, 18)) = some (r1, r2) := by rw [if_neg (show ¬ (F = T) by decide)] at H; exact H
   clear H
   have H := H1
   clear H1
   simp only [Option.some.injEq, Prod.mk.injEq] at H
   obtain ⟨rfl, rfl⟩ := H
   go_wp2
   go_ret2
   exact ⟨Zq, Zc1 GE551.out⟩
  replace c10 := Bool.eq_false_iff.mpr c10
  subst c10
  have H1 : (some (0, 17)) = some (r1, r2) := by rw [if_neg (show ¬ (F = T) by decide)] at H; exact H
  clear H
  have H := H1
  clear H1
  simp only [Option.some.injEq, Prod.mk.injEq] at H
  obtain ⟨rfl, rfl⟩ := H
  go_wp2
  go_ret2
  exact ⟨Zq, Zc1 GE551.out⟩
 rw [if_neg c8] at H
 have c8b0 : (t552 == 0) = F := beq_eq_false_iff_ne.mpr c8
 have c8b1 : (t552 != 0) = T := bne_iff_ne.mpr c8
 (try simp only [c8b0, c8b1])
 simp only [Option.some.injEq, Prod.mk.injEq] at H
 obtain ⟨rfl, rfl⟩ := H
 go_wp2
 go_ret2
 exact ⟨Zq, Zc1 GE551.out⟩
def Qbf.f (k : Nat) (a0_0 : ByteArray) (a0_1 : Int) (a0_2 : Int) (a0_3 : Int) (a0_4 : Int) (a0_5 : Int) (a0_6 : Bool) (a1 : Int) (a2 : Int) (a3 : Int) : Option (Int × Int) := (Qan.f k a0_0 a0_1 a0_2 a0_3 a0_4 a0_5 a0_6).bind fun t556 => (if t556 = 0 then ((Qbd.f a2).bind fun t557 => (if t557 = T then ((Qbd.f a3).bind fun t558 => (if t558 = T then ((QaR.f k a0_0 a0_1 a0_2 a0_3 a0_4 a0_5 a0_6 (wrap64 (a3 - a2)) a1).bind fun bt559 => (some (bt559.1, bt559.2))) else (some (0, 17)))) else (some (0, 17)))) else (some (0, t556)))
theorem Qbf.mono : ∀ a0 a1 a2 a3 a4 a5 a6 a7 a8 a9 k, LeO (Qbf.f k a0 a1 a2 a3 a4 a5 a6 a7 a8 a9) (Qbf.f (k + 1) a0 a1 a2 a3 a4 a5 a6 a7 a8 a9) := by
 intro a0 a1 a2 a3 a4 a5 a6 a7 a8 a9 k
 unfold Qbf.f
 exact ZM2 Qan.mono QaR.mono
theorem Qbf.calls (k : Nat) (a0_0 : ByteArray) (a0_1 : Int) (a0_2 : Int) (a0_3 : Int) (a0_4 : Int) (a0_5 : Int) (a0_6 : Bool) (a1 : Int) (a2 : Int) (a3 : Int) (r1 : Int) (r2 : Int) (w : World) (h : Qbf.f k a0_0 a0_1 a0_2 a0_3 a0_4 a0_5 a0_6 a1 a2 a3 = some (r1, r2)) :
  Calls Try.prog 66 #[.agg #[.string a0_0, .int .i64 a0_1, .int .i64 a0_2, .int .i64 a0_3, .int .i64 a0_4, .int .i64 a0_5, .bool a0_6], .int .i64 a1, .int .i64 a2, .int .i64 a3] w fun e w' => e = .returned (.tuple #[.int .i64 r1, .int .i64 r2]) ∧ Below w.heap.size w w' := by
 have hu73 := Try.underlying73
 have HB := Aside0.mk (Below.refl w.heap.size w)
 have H : ((Qan.f k a0_0 a0_1 a0_2 a0_3 a0_4 a0_5 a0_6).bind fun t556 => (if t556 = 0 then ((Qbd.f a2).bind fun t557 => (if t557 = T then ((Qbd.f a3).bind fun t558 => (if t558 = T then ((QaR.f k a0_0 a0_1 a0_2 a0_3 a0_4 a0_5 a0_6 (wrap64 (a3 - a2)) a1).bind fun bt559 => (some (bt559.1, bt559.2))) else (some (0, 17)))) else (some (0, 17)))) else (some (0, t556)))) = some (r1, r2) := h
 clear h
 replace H := Option.bind_eq_some_iff.mp H
 obtain ⟨t556, A50, H⟩ := H
 replace H : (if t556 = 0 then ((Qbd.f a2).bind fun t557 => (if t557 = T then ((Qbd.f a3).bind fun t558 => (if t558 = T then ((QaR.f k a0_0 a0_1 a0_2 a0_3 a0_4 a0_5 a0_6 (wrap64 (a3 - a2)) a1).bind fun bt559 => (some (bt559.1, bt559.2))) else (some (0, 17)))) else (some (0, 17)))) else (some (0, t556))) = some (r1, r2) := H
 have A5 := Aside0.mk A50
 clear A50
 go_enter Try.func66, Try.ntmps66
 go_upto_if 14 with (first | ((with_reducible refine QaJ (N := 4) rfl ?_); refine Zbx (N := 4) (cs := #[.string a0_0, .int .i64 a0_1, .int .i64 a0_2, .int .i64 a0_3, .int .i64 a0_4, .int .i64 a0_5, .bool a0_6]) (t := 73) ?_; intro gb555 hg w6 hbox hb; have BK555 := Aside0.mk (hbox); have GW555 := Aside0.mk (Zt w hg (Zb)); have GE555 := GW555; replace HB := Aside0.mk (Qao (Zb) hb); clear hb hbox hg; obtain ⟨hcz7_0, hfz7_0⟩ := Zy (v := (.string a0_0)) BK555.out 0; obtain ⟨hcz7_1, hfz7_1⟩ := Zy (v := (.int .i64 a0_1)) BK555.out 1; obtain ⟨hcz7_2, hfz7_2⟩ := Zy (v := (.int .i64 a0_2)) BK555.out 2; obtain ⟨hcz7_3, hfz7_3⟩ := Zy (v := (.int .i64 a0_3)) BK555.out 3; obtain ⟨hcz7_4, hfz7_4⟩ := Zy (v := (.int .i64 a0_4)) BK555.out 4; obtain ⟨hcz7_5, hfz7_5⟩ := Zy (v := (.int .i64 a0_5)) BK555.out 5; obtain ⟨hcz7_6, hfz7_6⟩ := Zy (v := (.bool a0_6)) BK555.out 6) | ((with_reducible refine QaC (f := 65) rfl ?_); refine goesL_ (some 12) rfl rfl Try.func65 (by kernel_rfl) rfl #[.agg #[.string a0_0, .int .i64 a0_1, .int .i64 a0_2, .int .i64 a0_3, .int .i64 a0_4, .int .i64 a0_5, .bool a0_6]] rfl (Zl) ?_; (with_reducible refine (Qan.calls k a0_0 a0_1 a0_2 a0_3 a0_4 a0_5 a0_6 t556 _ A5.out).mono ?_); rintro e w8 ⟨rfl, hb⟩; refine ⟨_, rfl, ?_⟩; replace BK555 := Aside0.mk (Zi BK555.out hb); replace HB := Aside0.mk (Qao (Zc1 GE555.out) hb); (try clear hb); (try clear hb2); (try clear hk); (try clear hi)))
 (try simp only [Act.put, Zj, Zk, Zm])
 by_cases c9 : t556 = 0
 ·rw [if_pos c9] at H
  have c9b0 : (t556 == 0) = T := beq_iff_eq.mpr c9
  have c9b1 : (t556 != 0) = F := bne_eq_false_iff_eq.mpr c9
  clear c9
  (try simp only [c9b0, c9b1])
  replace H := Option.bind_eq_some_iff.mp H
  obtain ⟨t557, A100, H⟩ := H
  replace H : (if t557 = T then ((Qbd.f a3).bind fun t558 => (if t558 = T then ((QaR.f k a0_0 a0_1 a0_2 a0_3 a0_4 a0_5 a0_6 (wrap64 (a3 - a2)) a1).bind fun bt559 => (some (bt559.1, bt559.2))) else (some (0, 17)))) else (some (0, 17))) = some (r1, r2) := H
  have A10 := Aside0.mk A100
  clear A100
  by_cases c11 : t557 = T
  ·subst c11
   have H1 : ((Qbd.f a3).bind fun t558 => (if t558 = T then ((QaR.f k a0_0 a0_1 a0_2 a0_3 a0_4 a0_5 a0_6 (wrap64 (a3 - a2)) a1).bind fun bt559 => (some (bt559.1, bt559.2))) else (some (0, 17)))) = some (r1, r2) := by rw [if_pos rfl] at H; exact H
   clear H
   have H := H1
   clear H1
   replace H := Option.bind_eq_some_iff.mp H
   obtain ⟨t558, A120, H⟩ := H
   replace H : (if t558 = T then ((QaR.f k a0_0 a0_1 a0_2 a0_3 a0_4 a0_5 a0_6 (wrap64 (a3 - a2)) a1).bind fun bt559 => (some (bt559.1, bt559.2))) else (some (0, 17))) = some (r1, r2) := H
   have A12 := Aside0.mk A120
   clear A120
   go_upto_if 23 with (first | ((with_reducible refine QaC (f := 95) rfl ?_); refine goesL_ (some 17) rfl rfl Try.func95 (by kernel_rfl) rfl #[.int .i64 a2] rfl (Zl) ?_; (with_reducible refine (Qbd.calls a2 T _ A10.out).mono ?_); rintro e w' ⟨rfl, ⟨nd, rfl⟩⟩; refine ⟨_, rfl, ?_⟩) | (go_at_call 95; (with_reducible refine (Qbd.calls a3 t558 _ A12.out).mono ?_); rintro e w' ⟨rfl, ⟨nd, rfl⟩⟩))
   (try simp only [Act.put, Zj, Zk, Zm])
   by_cases c13 : t558 = T
   ·subst c13
    have H1 : ((QaR.f k a0_0 a0_1 a0_2 a0_3 a0_4 a0_5 a0_6 (wrap64 (a3 - a2)) a1).bind fun bt559 => (some (bt559.1, bt559.2))) = some (r1, r2) := by rw [if_pos rfl] at H; exact H
    clear H
    have H := H1
    clear H1
    replace H := Option.bind_eq_some_iff.mp H
    obtain ⟨⟨t559, t560⟩, A140, H⟩ := H
    replace H : (some (t559, t560)) = some (r1, r2) := H
    have A14 := Aside0.mk A140
    clear A140
    simp only [Option.some.injEq, Prod.mk.injEq] at H
    obtain ⟨rfl, rfl⟩ := H
    obtain ⟨hcz15_0, hfz15_0⟩ := Zy (v := (.string a0_0)) BK555.out 0
    obtain ⟨hcz15_1, hfz15_1⟩ := Zy (v := (.int .i64 a0_1)) BK555.out 1
    obtain ⟨hcz15_2, hfz15_2⟩ := Zy (v := (.int .i64 a0_2)) BK555.out 2
    obtain ⟨hcz15_3, hfz15_3⟩ := Zy (v := (.int .i64 a0_3)) BK555.out 3
    obtain ⟨hcz15_4, hfz15_4⟩ := Zy (v := (.int .i64 a0_4)) BK555.out 4
    obtain ⟨hcz15_5, hfz15_5⟩ := Zy (v := (.int .i64 a0_5)) BK555.out 5
    obtain ⟨hcz15_6, hfz15_6⟩ := Zy (v := (.bool a0_6)) BK555.out 6
    go_wp2_with (first | ((with_reducible refine QaC (f := 44) rfl ?_); refine goesL_ (some 29) rfl rfl Try.func44 (by kernel_rfl) rfl #[.agg #[.string a0_0, .int .i64 a0_1, .int .i64 a0_2, .int .i64 a0_3, .int .i64 a0_4, .int .i64 a0_5, .bool a0_6], .int .i64 (wrap64 (a3 - a2)), .int .i64 a1] rfl (Zl) ?_; (with_reducible refine (QaR.calls k a0_0 a0_1 a0_2 a0_3 a0_4 a0_5 a0_6 (wrap64 (a3 - a2)) a1 t559 t560 _ A14.out).mono ?_); rintro e w16 ⟨rfl, hb⟩; refine ⟨_, rfl, ?_⟩; replace BK555 := Aside0.mk (Zi BK555.out hb); replace HB := Aside0.mk (Qao (Zc1 GE555.out) hb); (try clear hb); (try clear hb2); (try clear hk); (try clear hi)))
    go_ret2
    exact ⟨Zq, Zc1 GE555.out⟩
   replace c13 := Bool.eq_false_iff.mpr c13
   subst c13
   have H1 : (some (0, 17)) = some (r1, r2) := by rw [if_neg (show ¬ (F = T) by decide)] at H; exact H
   clear H
   have H := H1
   clear H1
   simp only [Option.some.injEq, Prod.mk.injEq] at H
   obtain ⟨rfl, rfl⟩ := H
   go_wp2
   go_ret2
   exact ⟨Zq, Zc1 GE555.out⟩
  replace c11 := Bool.eq_false_iff.mpr c11
  subst c11
  have H1 : (some (0, 17)) = some (r1, r2) := by rw [if_neg (show ¬ (F = T) by decide)] at H; exact H
  clear H
  have H := H1
  clear H1
  simp only [Option.some.injEq, Prod.mk.injEq] at H
  obtain ⟨rfl, rfl⟩ := H
  go_wp2_with (first | ((with_reducible refine QaC (f := 95) rfl ?_); refine goesL_ (some 17) rfl rfl Try.func95 (by kernel_rfl) rfl #[.int .i64 a2] rfl (Zl) ?_; (with_reducible refine (Qbd.calls a2 F _ A10.out).mono ?_); rintro e w' ⟨rfl, ⟨nd, rfl⟩⟩; refine ⟨_, rfl, ?_⟩))
  go_ret2
  exact ⟨Zq, Zc1 GE555.out⟩
 rw [if_neg c9] at H
 have c9b0 : (t556 == 0) = F := beq_eq_false_iff_ne.mpr c9
 have c9b1 : (t556 != 0) = T := bne_iff_ne.mpr c9
 (try simp only [c9b0, c9b1])
 simp only [Option.some.injEq, Prod.mk.injEq] at H
 obtain ⟨rfl, rfl⟩ := H
 go_wp2
 go_ret2
 exact ⟨Zq, Zc1 GE555.out⟩
def QaW.f (k : Nat) (a0_0 : ByteArray) (a0_1 : Int) (a0_2 : Int) (a0_3 : Int) (a0_4 : Int) (a0_5 : Int) (a0_6 : Bool) (a1 : Int) (a2 : Int) (a3 : Int) : Option (Int × Int) := (Qbf.f k a0_0 a0_1 a0_2 a0_3 a0_4 a0_5 a0_6 a1 a2 a3).bind fun bt562 => (some (bt562.1, bt562.2))
theorem QaW.mono : ∀ a0 a1 a2 a3 a4 a5 a6 a7 a8 a9 k, LeO (QaW.f k a0 a1 a2 a3 a4 a5 a6 a7 a8 a9) (QaW.f (k + 1) a0 a1 a2 a3 a4 a5 a6 a7 a8 a9) := by
 intro a0 a1 a2 a3 a4 a5 a6 a7 a8 a9 k
 unfold QaW.f
 exact ZM1 Qbf.mono
theorem QaW.calls (k : Nat) (a0_0 : ByteArray) (a0_1 : Int) (a0_2 : Int) (a0_3 : Int) (a0_4 : Int) (a0_5 : Int) (a0_6 : Bool) (a1 : Int) (a2 : Int) (a3 : Int) (r1 : Int) (r2 : Int) (w : World) (h : QaW.f k a0_0 a0_1 a0_2 a0_3 a0_4 a0_5 a0_6 a1 a2 a3 = some (r1, r2)) :
  Calls Try.prog 43 #[.agg #[.string a0_0, .int .i64 a0_1, .int .i64 a0_2, .int .i64 a0_3, .int .i64 a0_4, .int .i64 a0_5, .bool a0_6], .int .i64 a1, .int .i64 a2, .int .i64 a3] w fun e w' => e = .returned (.tuple #[.int .i64 r1, .int .i64 r2]) ∧ Below w.heap.size w w' := by
 have hu73 := Try.underlying73
 have HB := Aside0.mk (Below.refl w.heap.size w)
 have H : ((Qbf.f k a0_0 a0_1 a0_2 a0_3 a0_4 a0_5 a0_6 a1 a2 a3).bind fun bt562 => (some (bt562.1, bt562.2))) = some (r1, r2) := h
 clear h
 replace H := Option.bind_eq_some_iff.mp H
 obtain ⟨⟨t562, t563⟩, A50, H⟩ := H
 replace H : (some (t562, t563)) = some (r1, r2) := H
 have A5 := Aside0.mk A50
 clear A50
 simp only [Option.some.injEq, Prod.mk.injEq] at H
 obtain ⟨rfl, rfl⟩ := H
 go_enter Try.func43, Try.ntmps43
 go_wp2_with (first | ((with_reducible refine QaJ (N := 4) rfl ?_); refine Zbx (N := 4) (cs := #[.string a0_0, .int .i64 a0_1, .int .i64 a0_2, .int .i64 a0_3, .int .i64 a0_4, .int .i64 a0_5, .bool a0_6]) (t := 73) ?_; intro gb561 hg w6 hbox hb; have BK561 := Aside0.mk (hbox); have GW561 := Aside0.mk (Zt w hg (Zb)); have GE561 := GW561; replace HB := Aside0.mk (Qao (Zb) hb); clear hb hbox hg; obtain ⟨hcz7_0, hfz7_0⟩ := Zy (v := (.string a0_0)) BK561.out 0; obtain ⟨hcz7_1, hfz7_1⟩ := Zy (v := (.int .i64 a0_1)) BK561.out 1; obtain ⟨hcz7_2, hfz7_2⟩ := Zy (v := (.int .i64 a0_2)) BK561.out 2; obtain ⟨hcz7_3, hfz7_3⟩ := Zy (v := (.int .i64 a0_3)) BK561.out 3; obtain ⟨hcz7_4, hfz7_4⟩ := Zy (v := (.int .i64 a0_4)) BK561.out 4; obtain ⟨hcz7_5, hfz7_5⟩ := Zy (v := (.int .i64 a0_5)) BK561.out 5; obtain ⟨hcz7_6, hfz7_6⟩ := Zy (v := (.bool a0_6)) BK561.out 6) | ((with_reducible refine QaC (f := 66) rfl ?_); refine goesL_ (some 14) rfl rfl Try.func66 (by kernel_rfl) rfl #[.agg #[.string a0_0, .int .i64 a0_1, .int .i64 a0_2, .int .i64 a0_3, .int .i64 a0_4, .int .i64 a0_5, .bool a0_6], .int .i64 a1, .int .i64 a2, .int .i64 a3] rfl (Zl) ?_; (with_reducible refine (Qbf.calls k a0_0 a0_1 a0_2 a0_3 a0_4 a0_5 a0_6 a1 a2 a3 t562 t563 _ A5.out).mono ?_); rintro e w8 ⟨rfl, hb⟩; refine ⟨_, rfl, ?_⟩; replace BK561 := Aside0.mk (Zi BK561.out hb); replace HB := Aside0.mk (Qao (Zc1 GE561.out) hb); (try clear hb); (try clear hb2); (try clear hk); (try clear hi)))
 go_ret2
 exact ⟨Zq, Zc1 GE561.out⟩
def Qav.f (k : Nat)  : Option (Bool) := (QaW.f k (⟨#[111, 105, 108]⟩ : ByteArray) 0 100 1 0 1000 F 3 50 47).bind fun bt564 => (if bt564.1 = (-900) then (some (bt564.2 == 0)) else (some F))
theorem Qav.mono : ∀ k, LeO (Qav.f k ) (Qav.f (k + 1) ) := by
 intro  k
 unfold Qav.f
 exact ZM1 QaW.mono
theorem Qav.calls (k : Nat)  (r : Bool) (w : World) (h : Qav.f k  = some r) :
  Calls Try.prog 41 #[] w fun e w' => e = .returned (.bool r) ∧ Below w.heap.size w w' := by
 have hu73 := Try.underlying73
 have HB := Aside0.mk (Below.refl w.heap.size w)
 have H : ((QaW.f k (⟨#[111, 105, 108]⟩ : ByteArray) 0 100 1 0 1000 F 3 50 47).bind fun bt564 => (if bt564.1 = (-900) then (some (bt564.2 == 0)) else (some F))) = some r := h
 clear h
 replace H := Option.bind_eq_some_iff.mp H
 obtain ⟨⟨t564, t565⟩, A10, H⟩ := H
 replace H : (if t564 = (-900) then (some (t565 == 0)) else (some F)) = some r := H
 have A1 := Aside0.mk A10
 clear A10
 go_enter Try.func41, Try.ntmps41
 go_upto_region 2 with (first | ((with_reducible refine QaC (f := 43) rfl ?_); refine goesL_ (some 5) rfl rfl Try.func43 (by kernel_rfl) rfl #[.agg #[.string (⟨#[111, 105, 108]⟩ : ByteArray), .int .i64 0, .int .i64 100, .int .i64 1, .int .i64 0, .int .i64 1000, .bool F], .int .i64 3, .int .i64 50, .int .i64 47] rfl (Zl) ?_; (with_reducible refine (QaW.calls k (⟨#[111, 105, 108]⟩ : ByteArray) 0 100 1 0 1000 F 3 50 47 t564 t565 _ A1.out).mono ?_); rintro e w2 ⟨rfl, hb⟩; refine ⟨_, rfl, ?_⟩; replace HB := Aside0.mk (Qao (Zb) hb); (try clear hb); (try clear hb2); (try clear hk); (try clear hi)))
 (try simp only [Act.put, Zj, Zk, Zm])
 by_cases c3 : t564 = (-900)
 ·rw [if_pos c3] at H
  have c3b0 : (t564 == (-900)) = T := beq_iff_eq.mpr c3
  have c3b1 : (t564 != (-900)) = F := bne_eq_false_iff_eq.mpr c3
  clear c3
  (try simp only [c3b0, c3b1])
  obtain rfl := Option.some.inj H
  go_wp2
  go_ret
  exact ⟨Zq, Zb⟩
 rw [if_neg c3] at H
 have c3b0 : (t564 == (-900)) = F := beq_eq_false_iff_ne.mpr c3
 have c3b1 : (t564 != (-900)) = T := bne_iff_ne.mpr c3
 (try simp only [c3b0, c3b1])
 obtain rfl := Option.some.inj H
 go_wp2
 go_ret
 exact ⟨Zq, Zb⟩
end Go.Proofs.Ytaembbndjpebhaa.Pr
