/- Functions' values and contracts, as the print wrote them. -/
import Derived.Test.YtaembbndjpebhaaQ974P0
namespace Go.Proofs.Ytaembbndjpebhaa.Pr
open Bool renaming true → T
open Go.RowKit Go.Proofs.YtaembbndjpebhaaW.PrintWords Go.Proofs.YtaembbndjpebhaaW.PrintLast Go.Proofs.YtaembbndjpebhaaW.PrintMore
attribute [local go_sem] QaN QaP QaT QaU QaK QaL QaO QaQ   -- for this text's walks alone
set_option linter.unusedVariables false
set_option linter.unusedSimpArgs false
attribute [local go_sem high] eqA73
mutual
def Qan.j0 : Nat → Bool → ByteArray → Int → Int → Int → Int → Int → Bool → Option (Int)
 | 0, _, _, _, _, _, _, _, _ => none
 | k + 1, x3, x468000, x468001, x468002, x468003, x468004, x468005, x468006 => if x3 = T then (some 10) else (if x468001 < 0 then (Qan.j1 k T x468000 x468001 x468002 x468003 x468004 x468005 x468006) else (Qan.j1 k (decide (x468001 ≥ 8)) x468000 x468001 x468002 x468003 x468004 x468005 x468006))
def Qan.j1 : Nat → Bool → ByteArray → Int → Int → Int → Int → Int → Bool → Option (Int)
 | 0, _, _, _, _, _, _, _, _ => none
 | k + 1, x13, x468000, x468001, x468002, x468003, x468004, x468005, x468006 => if x13 = T then (some 25) else (if x468002 < 1 then (Qan.j2 k T x468000 x468001 x468002 x468003 x468004 x468005 x468006) else (Qan.j2 k (decide (x468002 > 4096)) x468000 x468001 x468002 x468003 x468004 x468005 x468006))
def Qan.j2 : Nat → Bool → ByteArray → Int → Int → Int → Int → Int → Bool → Option (Int)
 | 0, _, _, _, _, _, _, _, _ => none
 | k + 1, x22, x468000, x468001, x468002, x468003, x468004, x468005, x468006 => if x22 = T then (some 2) else (if x468003 < 1 then (Qan.j3 k T x468000 x468001 x468002 x468003 x468004 x468005 x468006) else (Qan.j3 k (decide (x468003 > 16777216)) x468000 x468001 x468002 x468003 x468004 x468005 x468006))
def Qan.j3 : Nat → Bool → ByteArray → Int → Int → Int → Int → Int → Bool → Option (Int)
 | 0, _, _, _, _, _, _, _, _ => none
 | k + 1, x31, x468000, x468001, x468002, x468003, x468004, x468005, x468006 => if x31 = T then (some 16) else ((QaG.f x468004 16777216).bind fun t469 => (if t469 = T then ((QaG.f x468005 16777216).bind fun t470 => (if t470 = T then (if x468004 > x468005 then (some 17) else (if x468003 = 0 then (none) else (if (Int.tmod x468004 x468003) = 0 then (if (Int.tmod x468005 x468003) = 0 then (some 0) else (some 17)) else (some 17)))) else (some 17))) else (some 17)))
end
def Qan.f (k : Nat) (a0_0 : ByteArray) (a0_1 : Int) (a0_2 : Int) (a0_3 : Int) (a0_4 : Int) (a0_5 : Int) (a0_6 : Bool) : Option (Int) := if (a0_0.toList == ([] : List UInt8) && (a0_1 == 0 && (a0_2 == 0 && (a0_3 == 0 && (a0_4 == 0 && (a0_5 == 0 && (!a0_6))))))) = T then (Qan.j0 k T a0_0 a0_1 a0_2 a0_3 a0_4 a0_5 a0_6) else ((Qay.f k a0_0).bind fun t468 => (Qan.j0 k (!t468) a0_0 a0_1 a0_2 a0_3 a0_4 a0_5 a0_6))
theorem Qan.mono_l : ∀ k, (∀ y0 y1 y2 y3 y4 y5 y6 y7, LeO (Qan.j0 k y0 y1 y2 y3 y4 y5 y6 y7) (Qan.j0 (k + 1) y0 y1 y2 y3 y4 y5 y6 y7)) ∧ (∀ y0 y1 y2 y3 y4 y5 y6 y7, LeO (Qan.j1 k y0 y1 y2 y3 y4 y5 y6 y7) (Qan.j1 (k + 1) y0 y1 y2 y3 y4 y5 y6 y7)) ∧ (∀ y0 y1 y2 y3 y4 y5 y6 y7, LeO (Qan.j2 k y0 y1 y2 y3 y4 y5 y6 y7) (Qan.j2 (k + 1) y0 y1 y2 y3 y4 y5 y6 y7)) ∧ (∀ y0 y1 y2 y3 y4 y5 y6 y7, LeO (Qan.j3 k y0 y1 y2 y3 y4 y5 y6 y7) (Qan.j3 (k + 1) y0 y1 y2 y3 y4 y5 y6 y7))
 | 0 => ⟨fun _ _ _ _ _ _ _ _ r h => by simp [Qan.j0] at h, fun _ _ _ _ _ _ _ _ r h => by simp [Qan.j1] at h, fun _ _ _ _ _ _ _ _ r h => by simp [Qan.j2] at h, fun _ _ _ _ _ _ _ _ r h => by simp [Qan.j3] at h⟩
 | k + 1 => by
  obtain ⟨ih0, ih1, ih2, ih3⟩ := Qan.mono_l k
  refine ⟨?_, ?_, ?_, ?_⟩
  ·intro y0 y1 y2 y3 y4 y5 y6 y7
   unfold Qan.j0
   exact ZM5 ih0 ih1 ih2 ih3 Qay.mono
  ·intro y0 y1 y2 y3 y4 y5 y6 y7
   unfold Qan.j1
   exact ZM5 ih0 ih1 ih2 ih3 Qay.mono
  ·intro y0 y1 y2 y3 y4 y5 y6 y7
   unfold Qan.j2
   exact ZM5 ih0 ih1 ih2 ih3 Qay.mono
  intro y0 y1 y2 y3 y4 y5 y6 y7
  unfold Qan.j3
  exact ZM5 ih0 ih1 ih2 ih3 Qay.mono
theorem Qan.mono : ∀ a0 a1 a2 a3 a4 a5 a6 k, LeO (Qan.f k a0 a1 a2 a3 a4 a5 a6) (Qan.f (k + 1) a0 a1 a2 a3 a4 a5 a6) := by
 intro a0 a1 a2 a3 a4 a5 a6 k
 obtain ⟨ih0, ih1, ih2, ih3⟩ := Qan.mono_l k
 unfold Qan.f
 exact ZM5 ih0 ih1 ih2 ih3 Qay.mono
set_option maxHeartbeats 8000000 in
set_option maxRecDepth 100000 in
theorem Qan.calls (k : Nat) (a0_0 : ByteArray) (a0_1 : Int) (a0_2 : Int) (a0_3 : Int) (a0_4 : Int) (a0_5 : Int) (a0_6 : Bool) (r : Int) (w : World) (h : Qan.f k a0_0 a0_1 a0_2 a0_3 a0_4 a0_5 a0_6 = some r) :
  Calls Try.prog 65 #[.agg #[.string a0_0, .int .i64 a0_1, .int .i64 a0_2, .int .i64 a0_3, .int .i64 a0_4, .int .i64 a0_5, .bool a0_6]] w fun e w' => e = .returned (.int .i64 r) ∧ Below w.heap.size w w' := by
 have hu73 := Try.underlying73
 have HB := Aside0.mk (Below.refl w.heap.size w)
 have H : (if (a0_0.toList == ([] : List UInt8) && (a0_1 == 0 && (a0_2 == 0 && (a0_3 == 0 && (a0_4 == 0 && (a0_5 == 0 && (!a0_6))))))) = T then (Qan.j0 k T a0_0 a0_1 a0_2 a0_3 a0_4 a0_5 a0_6) else ((Qay.f k a0_0).bind fun t468 => (Qan.j0 k (!t468) a0_0 a0_1 a0_2 a0_3 a0_4 a0_5 a0_6))) = some r := h
 clear h
 have HC2 := Aside0.mk H
 clear H
 go_enter Try.func65, Try.ntmps65
 go_upto_region 1 with (first | ((with_reducible refine QaJ (N := 1) rfl ?_); refine Zbx (N := 1) (cs := #[.string a0_0, .int .i64 a0_1, .int .i64 a0_2, .int .i64 a0_3, .int .i64 a0_4, .int .i64 a0_5, .bool a0_6]) (t := 73) ?_; intro gb467 hg w3 hbox hb; have BK467 := Aside0.mk (hbox); have GW467 := Aside0.mk (Zt w hg (Zb)); have GE467 := GW467; replace HB := Aside0.mk (Qao (Zb) hb); clear hb hbox hg))
 (try simp only [Act.put, Zj, Zk, Zm])
 go_cut [3] (fun v3 wc => ∃ (kq : Nat) (x3_1 : Bool), v3 = .bool x3_1 ∧ Aside0 (Qan.j0 kq x3_1 a0_0 a0_1 a0_2 a0_3 a0_4 a0_5 a0_6 = some r) ∧ Aside0 (kq ≤ k) ∧ Aside0 (wc.heap[gb467]? = some (.cells #[.string a0_0, .int .i64 a0_1, .int .i64 a0_2, .int .i64 a0_3, .int .i64 a0_4, .int .i64 a0_5, .bool a0_6] 73 (0, 0))) ∧ Aside0 (Below w.heap.size w wc))
 case first =>
  have H := HC2.out
  clear HC2
  by_cases c4 : (a0_0.toList == ([] : List UInt8) && (a0_1 == 0 && (a0_2 == 0 && (a0_3 == 0 && (a0_4 == 0 && (a0_5 == 0 && (!a0_6))))))) = T
  ·rw [if_pos c4] at H
   have c4b0 : (a0_0.toList == ([] : List UInt8) && (a0_1 == 0 && (a0_2 == 0 && (a0_3 == 0 && (a0_4 == 0 && (a0_5 == 0 && (!a0_6))))))) = T := c4
   (try (have c4b3 : (a0_0.toList.isEmpty && (a0_1 == 0 && (a0_2 == 0 && (a0_3 == 0 && (a0_4 == 0 && (a0_5 == 0 && (!a0_6))))))) = T := (by have h_ := c4b0; rw [← h_]; simp)))
   (try (have c4b1 : decide (a0_0.toList = ([] : List UInt8) && (a0_1 == 0 && (a0_2 == 0 && (a0_3 == 0 && (a0_4 == 0 && (a0_5 == 0 && (!a0_6))))))) = T := by simpa using c4))
   (try (have c4b2 : (a0_0.toList == ([] : List UInt8) && (a0_1 == 0 && (a0_2 == 0 && (a0_3 == 0 && (a0_4 == 0 && (a0_5 == 0 && (!a0_6))))))) = T := by simpa using c4))
   clear c4
   have H' := Aside0.mk H
   clear H
   obtain ⟨hcz5_0, hfz5_0⟩ := Zy (v := (.string a0_0)) BK467.out 0
   obtain ⟨hcz5_1, hfz5_1⟩ := Zy (v := (.int .i64 a0_1)) BK467.out 1
   obtain ⟨hcz5_2, hfz5_2⟩ := Zy (v := (.int .i64 a0_2)) BK467.out 2
   obtain ⟨hcz5_3, hfz5_3⟩ := Zy (v := (.int .i64 a0_3)) BK467.out 3
   obtain ⟨hcz5_4, hfz5_4⟩ := Zy (v := (.int .i64 a0_4)) BK467.out 4
   obtain ⟨hcz5_5, hfz5_5⟩ := Zy (v := (.int .i64 a0_5)) BK467.out 5
   obtain ⟨hcz5_6, hfz5_6⟩ := Zy (v := (.bool a0_6)) BK467.out 6
   go_wp2
   go_meet
   case rel => exact ⟨_, (T), (Zs), H', ⟨by first | omega | exact Nat.le_refl _⟩, ⟨Zu BK467.out⟩, ⟨Zc1 GE467.out⟩⟩
  rw [if_neg c4] at H
  have c4b0 : (a0_0.toList == ([] : List UInt8) && (a0_1 == 0 && (a0_2 == 0 && (a0_3 == 0 && (a0_4 == 0 && (a0_5 == 0 && (!a0_6))))))) = false := by simpa using c4
  (try (have c4b3 : (a0_0.toList.isEmpty && (a0_1 == 0 && (a0_2 == 0 && (a0_3 == 0 && (a0_4 == 0 && (a0_5 == 0 && (!a0_6))))))) = false := (by have h_ := c4b0; rw [← h_]; simp)))
  (try (have c4b1 : decide (a0_0.toList = ([] : List UInt8) && (a0_1 == 0 && (a0_2 == 0 && (a0_3 == 0 && (a0_4 == 0 && (a0_5 == 0 && (!a0_6))))))) = false := by simpa using c4))
  (try (have c4b2 : (a0_0.toList == ([] : List UInt8) && (a0_1 == 0 && (a0_2 == 0 && (a0_3 == 0 && (a0_4 == 0 && (a0_5 == 0 && (!a0_6))))))) = false := by simpa using c4))
  (try (have c4b3 : ¬ (a0_0.toList = ([] : List UInt8) && (a0_1 == 0 && (a0_2 == 0 && (a0_3 == 0 && (a0_4 == 0 && (a0_5 == 0 && (!a0_6))))))) := by simpa using c4))
  clear c4
  replace H := Option.bind_eq_some_iff.mp H
  obtain ⟨t468, A60, H⟩ := H
  replace H : (Qan.j0 k (!t468) a0_0 a0_1 a0_2 a0_3 a0_4 a0_5 a0_6) = some r := H
  have A6 := Aside0.mk A60
  clear A60
  have H' := Aside0.mk H
  clear H
  obtain ⟨hcz7_0, hfz7_0⟩ := Zy (v := (.string a0_0)) BK467.out 0
  obtain ⟨hcz7_1, hfz7_1⟩ := Zy (v := (.int .i64 a0_1)) BK467.out 1
  obtain ⟨hcz7_2, hfz7_2⟩ := Zy (v := (.int .i64 a0_2)) BK467.out 2
  obtain ⟨hcz7_3, hfz7_3⟩ := Zy (v := (.int .i64 a0_3)) BK467.out 3
  obtain ⟨hcz7_4, hfz7_4⟩ := Zy (v := (.int .i64 a0_4)) BK467.out 4
  obtain ⟨hcz7_5, hfz7_5⟩ := Zy (v := (.int .i64 a0_5)) BK467.out 5
  obtain ⟨hcz7_6, hfz7_6⟩ := Zy (v := (.bool a0_6)) BK467.out 6
  go_wp2_with (first | (go_at_call 50; (with_reducible refine (Qay.calls k a0_0 t468 _ A6.out).mono ?_); rintro e w' ⟨rfl, ⟨nd, rfl⟩⟩))
  go_meet
  case rel => exact ⟨_, (!t468), (Zs), H', ⟨by first | omega | exact Nat.le_refl _⟩, ⟨Zu BK467.out⟩, ⟨Zc1 GE467.out⟩⟩
 case rest =>
  clear HC2
  try clear p2
  try clear c4
  try clear c4b0
  try clear c4b1
  try clear c4b2
  try clear c6
  try clear hcz5_0
  try clear hcz5_1
  try clear hcz5_2
  try clear hcz5_3
  try clear hcz5_4
  try clear hcz5_5
  try clear hcz5_6
  try clear hcz7_0
  try clear hcz7_1
  try clear hcz7_2
  try clear hcz7_3
  try clear hcz7_4
  try clear hcz7_5
  try clear hcz7_6
  try clear hfz5_0
  try clear hfz5_1
  try clear hfz5_2
  try clear hfz5_3
  try clear hfz5_4
  try clear hfz5_5
  try clear hfz5_6
  try clear hfz7_0
  try clear hfz7_1
  try clear hfz7_2
  try clear hfz7_3
  try clear hfz7_4
  try clear hfz7_5
  try clear hfz7_6
  obtain ⟨kq, x3_1, rfl, HA, HJ1, BK467, HB⟩ := hcut
  cases kq with
  | zero => exact absurd HA.out (by simp [Qan.j0])
  | succ kj1 =>
   have H := HA.out
   clear HA
   simp only [Qan.j0] at H
   by_cases c8 : x3_1 = T
   ·subst c8
    have H1 : (some 10) = some r := by rw [if_pos rfl] at H; exact H
    clear H
    have H := H1
    clear H1
    obtain rfl := Option.some.inj H
    go_wp2
    go_ret
    exact ⟨Zq, Zc1 GE467.out⟩
   replace c8 := Bool.eq_false_iff.mpr c8
   subst c8
   have H1 : (if a0_1 < 0 then (Qan.j1 kj1 T a0_0 a0_1 a0_2 a0_3 a0_4 a0_5 a0_6) else (Qan.j1 kj1 (decide (a0_1 ≥ 8)) a0_0 a0_1 a0_2 a0_3 a0_4 a0_5 a0_6)) = some r := by rw [if_neg (show ¬ (false = T) by decide)] at H; exact H
   clear H
   have H := H1
   clear H1
   have HC9 := Aside0.mk H
   clear H
   go_upto_region 3 with (fail)
   go_cut [13] (fun v13 wc => ∃ (kq : Nat) (x13_8 : Bool), v13 = .bool x13_8 ∧ Aside0 (Qan.j1 kq x13_8 a0_0 a0_1 a0_2 a0_3 a0_4 a0_5 a0_6 = some r) ∧ Aside0 (kq ≤ kj1) ∧ Aside0 (wc.heap[gb467]? = some (.cells #[.string a0_0, .int .i64 a0_1, .int .i64 a0_2, .int .i64 a0_3, .int .i64 a0_4, .int .i64 a0_5, .bool a0_6] 73 (0, 0))) ∧ Aside0 (Below w.heap.size w wc))
   case first =>
    have H := HC9.out
    clear HC9
    by_cases c10 : a0_1 < 0
    ·rw [if_pos c10] at H
     have c10b0 : decide (a0_1 < 0) = T := decide_eq_true c10
     clear c10
     have H' := Aside0.mk H
     clear H
     obtain ⟨hcz11_0, hfz11_0⟩ := Zy (v := (.string a0_0)) BK467.out 0
     obtain ⟨hcz11_1, hfz11_1⟩ := Zy (v := (.int .i64 a0_1)) BK467.out 1
     obtain ⟨hcz11_2, hfz11_2⟩ := Zy (v := (.int .i64 a0_2)) BK467.out 2
     obtain ⟨hcz11_3, hfz11_3⟩ := Zy (v := (.int .i64 a0_3)) BK467.out 3
     obtain ⟨hcz11_4, hfz11_4⟩ := Zy (v := (.int .i64 a0_4)) BK467.out 4
     obtain ⟨hcz11_5, hfz11_5⟩ := Zy (v := (.int .i64 a0_5)) BK467.out 5
     obtain ⟨hcz11_6, hfz11_6⟩ := Zy (v := (.bool a0_6)) BK467.out 6
     go_wp2
     go_meet
     case rel => exact ⟨_, (T), (Zs), H', ⟨by have := HJ1.out; first | omega | exact Nat.le_refl _⟩, ⟨Zu BK467.out⟩, ⟨Zc1 GE467.out⟩⟩
    rw [if_neg c10] at H
    have c10b0 : decide (a0_1 < 0) = false := decide_eq_false c10
    clear c10
    have H' := Aside0.mk H
    clear H
    obtain ⟨hcz12_0, hfz12_0⟩ := Zy (v := (.string a0_0)) BK467.out 0
    obtain ⟨hcz12_1, hfz12_1⟩ := Zy (v := (.int .i64 a0_1)) BK467.out 1
    obtain ⟨hcz12_2, hfz12_2⟩ := Zy (v := (.int .i64 a0_2)) BK467.out 2
    obtain ⟨hcz12_3, hfz12_3⟩ := Zy (v := (.int .i64 a0_3)) BK467.out 3
    obtain ⟨hcz12_4, hfz12_4⟩ := Zy (v := (.int .i64 a0_4)) BK467.out 4
    obtain ⟨hcz12_5, hfz12_5⟩ := Zy (v := (.int .i64 a0_5)) BK467.out 5
    obtain ⟨hcz12_6, hfz12_6⟩ := Zy (v := (.bool a0_6)) BK467.out 6
    go_wp2
    go_meet
    case rel => exact ⟨_, (decide (a0_1 ≥ 8)), (Zs), H', ⟨by have := HJ1.out; first | omega | exact Nat.le_refl _⟩, ⟨Zu BK467.out⟩, ⟨Zc1 GE467.out⟩⟩
   case rest =>
    clear HC9
    try clear c1
    try clear p2
    try clear c4
    try clear c4b0
    try clear c4b1
    try clear c4b2
    try clear c6
    try clear c8
    try clear c10
    try clear c10b0
    try clear hcz11_0
    try clear hcz11_1
    try clear hcz11_2
    try clear hcz11_3
    try clear hcz11_4
    try clear hcz11_5
    try clear hcz11_6
    try clear hcz12_0
    try clear hcz12_1
    try clear hcz12_2
    try clear hcz12_3
    try clear hcz12_4
    try clear hcz12_5
    try clear hcz12_6
    try clear hcz5_0
    try clear hcz5_1
    try clear hcz5_2
    try clear hcz5_3
    try clear hcz5_4
    try clear hcz5_5
    try clear hcz5_6
    try clear hcz7_0
    try clear hcz7_1
    try clear hcz7_2
    try clear hcz7_3
    try clear hcz7_4
    try clear hcz7_5
    try clear hcz7_6
    try clear hfz11_0
    try clear hfz11_1
    try clear hfz11_2
    try clear hfz11_3
    try clear hfz11_4
    try clear hfz11_5
    try clear hfz11_6
    try clear hfz12_0
    try clear hfz12_1
    try clear hfz12_2
    try clear hfz12_3
    try clear hfz12_4
    try clear hfz12_5
    try clear hfz12_6
    try clear hfz5_0
    try clear hfz5_1
    try clear hfz5_2
    try clear hfz5_3
    try clear hfz5_4
    try clear hfz5_5
    try clear hfz5_6
    try clear hfz7_0
    try clear hfz7_1
    try clear hfz7_2
    try clear hfz7_3
    try clear hfz7_4
    try clear hfz7_5
    try clear hfz7_6
    try clear p2
    obtain ⟨kq, x13_8, rfl, HA, HJ8, BK467, HB⟩ := hcut
    cases kq with
    | zero => exact absurd HA.out (by simp [Qan.j1])
    | succ kj8 =>
     have H := HA.out
     clear HA
     simp only [Qan.j1] at H
     by_cases c13 : x13_8 = T
     ·subst c13
      have H1 : (some 25) = some r := by rw [if_pos rfl] at H; exact H
      clear H
      have H := H1
      clear H1
      obtain rfl := Option.some.inj H
      go_wp2
      go_ret
      exact ⟨Zq, Zc1 GE467.out⟩
     replace c13 := Bool.eq_false_iff.mpr c13
     subst c13
     have H1 : (if a0_2 < 1 then (Qan.j2 kj8 T a0_0 a0_1 a0_2 a0_3 a0_4 a0_5 a0_6) else (Qan.j2 kj8 (decide (a0_2 > 4096)) a0_0 a0_1 a0_2 a0_3 a0_4 a0_5 a0_6)) = some r := by rw [if_neg (show ¬ (false = T) by decide)] at H; exact H
     clear H
     have H := H1
     clear H1
     have HC14 := Aside0.mk H
     clear H
     go_upto_region 5 with (fail)
     go_cut [22] (fun v22 wc => ∃ (kq : Nat) (x22_13 : Bool), v22 = .bool x22_13 ∧ Aside0 (Qan.j2 kq x22_13 a0_0 a0_1 a0_2 a0_3 a0_4 a0_5 a0_6 = some r) ∧ Aside0 (kq ≤ kj8) ∧ Aside0 (wc.heap[gb467]? = some (.cells #[.string a0_0, .int .i64 a0_1, .int .i64 a0_2, .int .i64 a0_3, .int .i64 a0_4, .int .i64 a0_5, .bool a0_6] 73 (0, 0))) ∧ Aside0 (Below w.heap.size w wc))
     case first =>
      have H := HC14.out
      clear HC14
      by_cases c15 : a0_2 < 1
      ·rw [if_pos c15] at H
       have c15b0 : decide (a0_2 < 1) = T := decide_eq_true c15
       clear c15
       have H' := Aside0.mk H
       clear H
       obtain ⟨hcz16_0, hfz16_0⟩ := Zy (v := (.string a0_0)) BK467.out 0
       obtain ⟨hcz16_1, hfz16_1⟩ := Zy (v := (.int .i64 a0_1)) BK467.out 1
       obtain ⟨hcz16_2, hfz16_2⟩ := Zy (v := (.int .i64 a0_2)) BK467.out 2
       obtain ⟨hcz16_3, hfz16_3⟩ := Zy (v := (.int .i64 a0_3)) BK467.out 3
       obtain ⟨hcz16_4, hfz16_4⟩ := Zy (v := (.int .i64 a0_4)) BK467.out 4
       obtain ⟨hcz16_5, hfz16_5⟩ := Zy (v := (.int .i64 a0_5)) BK467.out 5
       obtain ⟨hcz16_6, hfz16_6⟩ := Zy (v := (.bool a0_6)) BK467.out 6
       go_wp2
       go_meet
       case rel => exact ⟨_, (T), (Zs), H', ⟨by have := HJ1.out; have := HJ8.out; first | omega | exact Nat.le_refl _⟩, ⟨Zu BK467.out⟩, ⟨Zc1 GE467.out⟩⟩
      rw [if_neg c15] at H
      have c15b0 : decide (a0_2 < 1) = false := decide_eq_false c15
      clear c15
      have H' := Aside0.mk H
      clear H
      obtain ⟨hcz17_0, hfz17_0⟩ := Zy (v := (.string a0_0)) BK467.out 0
      obtain ⟨hcz17_1, hfz17_1⟩ := Zy (v := (.int .i64 a0_1)) BK467.out 1
      obtain ⟨hcz17_2, hfz17_2⟩ := Zy (v := (.int .i64 a0_2)) BK467.out 2
      obtain ⟨hcz17_3, hfz17_3⟩ := Zy (v := (.int .i64 a0_3)) BK467.out 3
      obtain ⟨hcz17_4, hfz17_4⟩ := Zy (v := (.int .i64 a0_4)) BK467.out 4
      obtain ⟨hcz17_5, hfz17_5⟩ := Zy (v := (.int .i64 a0_5)) BK467.out 5
      obtain ⟨hcz17_6, hfz17_6⟩ := Zy (v := (.bool a0_6)) BK467.out 6
      go_wp2
      go_meet
      case rel => exact ⟨_, (decide (a0_2 > 4096)), (Zs), H', ⟨by have := HJ1.out; have := HJ8.out; first | omega | exact Nat.le_refl _⟩, ⟨Zu BK467.out⟩, ⟨Zc1 GE467.out⟩⟩
     case rest =>
      clear HC14
      try clear c1
      try clear p2
      try clear c4
      try clear c4b0
      try clear c4b1
      try clear c4b2
      try clear c6
      try clear c8
      try clear c10
      try clear c10b0
      try clear c13
      try clear c15
      try clear c15b0
      try clear hcz11_0
      try clear hcz11_1
      try clear hcz11_2
      try clear hcz11_3
      try clear hcz11_4
      try clear hcz11_5
      try clear hcz11_6
      try clear hcz12_0
      try clear hcz12_1
      try clear hcz12_2
      try clear hcz12_3
      try clear hcz12_4
      try clear hcz12_5
      try clear hcz12_6
      try clear hcz16_0
      try clear hcz16_1
      try clear hcz16_2
      try clear hcz16_3
      try clear hcz16_4
      try clear hcz16_5
      try clear hcz16_6
      try clear hcz17_0
      try clear hcz17_1
      try clear hcz17_2
      try clear hcz17_3
      try clear hcz17_4
      try clear hcz17_5
      try clear hcz17_6
      try clear hcz5_0
      try clear hcz5_1
      try clear hcz5_2
      try clear hcz5_3
      try clear hcz5_4
      try clear hcz5_5
      try clear hcz5_6
      try clear hcz7_0
      try clear hcz7_1
      try clear hcz7_2
      try clear hcz7_3
      try clear hcz7_4
      try clear hcz7_5
      try clear hcz7_6
      try clear hfz11_0
      try clear hfz11_1
      try clear hfz11_2
      try clear hfz11_3
      try clear hfz11_4
      try clear hfz11_5
      try clear hfz11_6
      try clear hfz12_0
      try clear hfz12_1
      try clear hfz12_2
      try clear hfz12_3
      try clear hfz12_4
      try clear hfz12_5
      try clear hfz12_6
      try clear hfz16_0
      try clear hfz16_1
      try clear hfz16_2
      try clear hfz16_3
      try clear hfz16_4
      try clear hfz16_5
      try clear hfz16_6
      try clear hfz17_0
      try clear hfz17_1
      try clear hfz17_2
      try clear hfz17_3
      try clear hfz17_4
      try clear hfz17_5
      try clear hfz17_6
      try clear hfz5_0
      try clear hfz5_1
      try clear hfz5_2
      try clear hfz5_3
      try clear hfz5_4
      try clear hfz5_5
      try clear hfz5_6
      try clear hfz7_0
      try clear hfz7_1
      try clear hfz7_2
      try clear hfz7_3
      try clear hfz7_4
      try clear hfz7_5
      try clear hfz7_6
      try clear p2
      obtain ⟨kq, x22_13, rfl, HA, HJ13, BK467, HB⟩ := hcut
      cases kq with
      | zero => exact absurd HA.out (by simp [Qan.j2])
      | succ kj13 =>
       have H := HA.out
       clear HA
       simp only [Qan.j2] at H
       by_cases c18 : x22_13 = T
       ·subst c18
        have H1 : (some 2) = some r := by rw [if_pos rfl] at H; exact H
        clear H
        have H := H1
        clear H1
        obtain rfl := Option.some.inj H
        go_wp2
        go_ret
        exact ⟨Zq, Zc1 GE467.out⟩
       replace c18 := Bool.eq_false_iff.mpr c18
       subst c18
       have H1 : (if a0_3 < 1 then (Qan.j3 kj13 T a0_0 a0_1 a0_2 a0_3 a0_4 a0_5 a0_6) else (Qan.j3 kj13 (decide (a0_3 > 16777216)) a0_0 a0_1 a0_2 a0_3 a0_4 a0_5 a0_6)) = some r := by rw [if_neg (show ¬ (false = T) by decide)] at H; exact H
       clear H
       have H := H1
       clear H1
       have HC19 := Aside0.mk H
       clear H
       go_upto_region 7 with (fail)
       go_cut [31] (fun v31 wc => ∃ (kq : Nat) (x31_18 : Bool), v31 = .bool x31_18 ∧ Aside0 (Qan.j3 kq x31_18 a0_0 a0_1 a0_2 a0_3 a0_4 a0_5 a0_6 = some r) ∧ Aside0 (kq ≤ kj13) ∧ Aside0 (wc.heap[gb467]? = some (.cells #[.string a0_0, .int .i64 a0_1, .int .i64 a0_2, .int .i64 a0_3, .int .i64 a0_4, .int .i64 a0_5, .bool a0_6] 73 (0, 0))) ∧ Aside0 (Below w.heap.size w wc))
       case first =>
        have H := HC19.out
        clear HC19
        by_cases c20 : a0_3 < 1
        ·rw [if_pos c20] at H
         have c20b0 : decide (a0_3 < 1) = T := decide_eq_true c20
         clear c20
         have H' := Aside0.mk H
         clear H
         obtain ⟨hcz21_0, hfz21_0⟩ := Zy (v := (.string a0_0)) BK467.out 0
         obtain ⟨hcz21_1, hfz21_1⟩ := Zy (v := (.int .i64 a0_1)) BK467.out 1
         obtain ⟨hcz21_2, hfz21_2⟩ := Zy (v := (.int .i64 a0_2)) BK467.out 2
         obtain ⟨hcz21_3, hfz21_3⟩ := Zy (v := (.int .i64 a0_3)) BK467.out 3
         obtain ⟨hcz21_4, hfz21_4⟩ := Zy (v := (.int .i64 a0_4)) BK467.out 4
         obtain ⟨hcz21_5, hfz21_5⟩ := Zy (v := (.int .i64 a0_5)) BK467.out 5
         obtain ⟨hcz21_6, hfz21_6⟩ := Zy (v := (.bool a0_6)) BK467.out 6
         go_wp2
         go_meet
         case rel => exact ⟨_, (T), (Zs), H', ⟨by have := HJ1.out; have := HJ8.out; have := HJ13.out; first | omega | exact Nat.le_refl _⟩, ⟨Zu BK467.out⟩, ⟨Zc1 GE467.out⟩⟩
        rw [if_neg c20] at H
        have c20b0 : decide (a0_3 < 1) = false := decide_eq_false c20
        clear c20
        have H' := Aside0.mk H
        clear H
        obtain ⟨hcz22_0, hfz22_0⟩ := Zy (v := (.string a0_0)) BK467.out 0
        obtain ⟨hcz22_1, hfz22_1⟩ := Zy (v := (.int .i64 a0_1)) BK467.out 1
        obtain ⟨hcz22_2, hfz22_2⟩ := Zy (v := (.int .i64 a0_2)) BK467.out 2
        obtain ⟨hcz22_3, hfz22_3⟩ := Zy (v := (.int .i64 a0_3)) BK467.out 3
        obtain ⟨hcz22_4, hfz22_4⟩ := Zy (v := (.int .i64 a0_4)) BK467.out 4
        obtain ⟨hcz22_5, hfz22_5⟩ := Zy (v := (.int .i64 a0_5)) BK467.out 5
        obtain ⟨hcz22_6, hfz22_6⟩ := Zy (v := (.bool a0_6)) BK467.out 6
        go_wp2
        go_meet
        case rel => exact ⟨_, (decide (a0_3 > 16777216)), (Zs), H', ⟨by have := HJ1.out; have := HJ8.out; have := HJ13.out; first | omega | exact Nat.le_refl _⟩, ⟨Zu BK467.out⟩, ⟨Zc1 GE467.out⟩⟩
       case rest =>
        clear HC19
        try clear c1
        try clear c2
        try clear p2
        try clear c4
        try clear c4b0
        try clear c4b1
        try clear c4b2
        try clear c6
        try clear c8
        try clear c10
        try clear c10b0
        try clear c13
        try clear c15
        try clear c15b0
        try clear c18
        try clear c20
        try clear c20b0
        try clear hcz11_0
        try clear hcz11_1
        try clear hcz11_2
        try clear hcz11_3
        try clear hcz11_4
        try clear hcz11_5
        try clear hcz11_6
        try clear hcz12_0
        try clear hcz12_1
        try clear hcz12_2
        try clear hcz12_3
        try clear hcz12_4
        try clear hcz12_5
        try clear hcz12_6
        try clear hcz16_0
        try clear hcz16_1
        try clear hcz16_2
        try clear hcz16_3
        try clear hcz16_4
        try clear hcz16_5
        try clear hcz16_6
        try clear hcz17_0
        try clear hcz17_1
        try clear hcz17_2
        try clear hcz17_3
        try clear hcz17_4
        try clear hcz17_5
        try clear hcz17_6
        try clear hcz21_0
        try clear hcz21_1
        try clear hcz21_2
        try clear hcz21_3
        try clear hcz21_4
        try clear hcz21_5
        try clear hcz21_6
        try clear hcz22_0
        try clear hcz22_1
        try clear hcz22_2
        try clear hcz22_3
        try clear hcz22_4
        try clear hcz22_5
        try clear hcz22_6
        try clear hcz5_0
        try clear hcz5_1
        try clear hcz5_2
        try clear hcz5_3
        try clear hcz5_4
        try clear hcz5_5
        try clear hcz5_6
        try clear hcz7_0
        try clear hcz7_1
        try clear hcz7_2
        try clear hcz7_3
        try clear hcz7_4
        try clear hcz7_5
        try clear hcz7_6
        try clear hfz11_0
        try clear hfz11_1
        try clear hfz11_2
        try clear hfz11_3
        try clear hfz11_4
        try clear hfz11_5
        try clear hfz11_6
        try clear hfz12_0
        try clear hfz12_1
        try clear hfz12_2
        try clear hfz12_3
        try clear hfz12_4
        try clear hfz12_5
        try clear hfz12_6
        try clear hfz16_0
        try clear hfz16_1
        try clear hfz16_2
        try clear hfz16_3
        try clear hfz16_4
        try clear hfz16_5
        try clear hfz16_6
        try clear hfz17_0
        try clear hfz17_1
        try clear hfz17_2
        try clear hfz17_3
        try clear hfz17_4
        try clear hfz17_5
        try clear hfz17_6
        try clear hfz21_0
        try clear hfz21_1
        try clear hfz21_2
        try clear hfz21_3
        try clear hfz21_4
        try clear hfz21_5
        try clear hfz21_6
        try clear hfz22_0
        try clear hfz22_1
        try clear hfz22_2
        try clear hfz22_3
        try clear hfz22_4
        try clear hfz22_5
        try clear hfz22_6
        try clear hfz5_0
        try clear hfz5_1
        try clear hfz5_2
        try clear hfz5_3
        try clear hfz5_4
        try clear hfz5_5
        try clear hfz5_6
        try clear hfz7_0
        try clear hfz7_1
        try clear hfz7_2
        try clear hfz7_3
        try clear hfz7_4
        try clear hfz7_5
        try clear hfz7_6
        try clear p2
        obtain ⟨kq, x31_18, rfl, HA, HJ18, BK467, HB⟩ := hcut
        cases kq with
        | zero => exact absurd HA.out (by simp [Qan.j3])
        | succ kj18 =>
         have H := HA.out
         clear HA
         simp only [Qan.j3] at H
         by_cases c23 : x31_18 = T
         ·subst c23
          have H1 : (some 16) = some r := by rw [if_pos rfl] at H; exact H
          clear H
          have H := H1
          clear H1
          obtain rfl := Option.some.inj H
          go_wp2
          go_ret
          exact ⟨Zq, Zc1 GE467.out⟩
         replace c23 := Bool.eq_false_iff.mpr c23
         subst c23
         have H1 : ((QaG.f a0_4 16777216).bind fun t469 => (if t469 = T then ((QaG.f a0_5 16777216).bind fun t470 => (if t470 = T then (if a0_4 > a0_5 then (some 17) else (if a0_3 = 0 then (none) else (if (Int.tmod a0_4 a0_3) = 0 then (if (Int.tmod a0_5 a0_3) = 0 then (some 0) else (some 17)) else (some 17)))) else (some 17))) else (some 17))) = some r := by rw [if_neg (show ¬ (false = T) by decide)] at H; exact H
         clear H
         have H := H1
         clear H1
         replace H := Option.bind_eq_some_iff.mp H
         obtain ⟨t469, A240, H⟩ := H
         replace H : (if t469 = T then ((QaG.f a0_5 16777216).bind fun t470 => (if t470 = T then (if a0_4 > a0_5 then (some 17) else (if a0_3 = 0 then (none) else (if (Int.tmod a0_4 a0_3) = 0 then (if (Int.tmod a0_5 a0_3) = 0 then (some 0) else (some 17)) else (some 17)))) else (some 17))) else (some 17)) = some r := H
         have A24 := Aside0.mk A240
         clear A240
         by_cases c25 : t469 = T
         ·subst c25
          have H1 : ((QaG.f a0_5 16777216).bind fun t470 => (if t470 = T then (if a0_4 > a0_5 then (some 17) else (if a0_3 = 0 then (none) else (if (Int.tmod a0_4 a0_3) = 0 then (if (Int.tmod a0_5 a0_3) = 0 then (some 0) else (some 17)) else (some 17)))) else (some 17))) = some r := by rw [if_pos rfl] at H; exact H
          clear H
          have H := H1
          clear H1
          replace H := Option.bind_eq_some_iff.mp H
          obtain ⟨t470, A260, H⟩ := H
          replace H : (if t470 = T then (if a0_4 > a0_5 then (some 17) else (if a0_3 = 0 then (none) else (if (Int.tmod a0_4 a0_3) = 0 then (if (Int.tmod a0_5 a0_3) = 0 then (some 0) else (some 17)) else (some 17)))) else (some 17)) = some r := H
          have A26 := Aside0.mk A260
          clear A260
          by_cases c27 : t470 = T
          ·subst c27
           have H1 : (if a0_4 > a0_5 then (some 17) else (if a0_3 = 0 then (none) else (if (Int.tmod a0_4 a0_3) = 0 then (if (Int.tmod a0_5 a0_3) = 0 then (some 0) else (some 17)) else (some 17)))) = some r := by rw [if_pos rfl] at H; exact H
           clear H
           have H := H1
           clear H1
           by_cases c28 : a0_4 > a0_5
           ·rw [if_pos c28] at H
            have c28b0 : decide (a0_5 < a0_4) = T := decide_eq_true c28
            clear c28
            obtain rfl := Option.some.inj H
            obtain ⟨hcz29_0, hfz29_0⟩ := Zy (v := (.string a0_0)) BK467.out 0
            obtain ⟨hcz29_1, hfz29_1⟩ := Zy (v := (.int .i64 a0_1)) BK467.out 1
            obtain ⟨hcz29_2, hfz29_2⟩ := Zy (v := (.int .i64 a0_2)) BK467.out 2
            obtain ⟨hcz29_3, hfz29_3⟩ := Zy (v := (.int .i64 a0_3)) BK467.out 3
            obtain ⟨hcz29_4, hfz29_4⟩ := Zy (v := (.int .i64 a0_4)) BK467.out 4
            obtain ⟨hcz29_5, hfz29_5⟩ := Zy (v := (.int .i64 a0_5)) BK467.out 5
            obtain ⟨hcz29_6, hfz29_6⟩ := Zy (v := (.bool a0_6)) BK467.out 6
            go_wp2_with (first | ((with_reducible refine QaC (f := 67) rfl ?_); refine goesL_ (some 43) rfl rfl Try.func67 (by kernel_rfl) rfl #[.int .i64 a0_4, .int .i64 16777216] rfl (Zl) ?_; (with_reducible refine (QaG.calls a0_4 16777216 T _ A24.out).mono ?_); rintro e w' ⟨rfl, ⟨nd, rfl⟩⟩; refine ⟨_, rfl, ?_⟩) | (go_at_call 67; (with_reducible refine (QaG.calls a0_5 16777216 T _ A26.out).mono ?_); rintro e w' ⟨rfl, ⟨nd, rfl⟩⟩))
            go_ret
            exact ⟨Zq, Zc1 GE467.out⟩
           rw [if_neg c28] at H
           have c28b0 : decide (a0_5 < a0_4) = false := decide_eq_false c28
           clear c28
           by_cases c30 : a0_3 = 0
           ·rw [if_pos c30] at H
            exact absurd H (by simp)
           rw [if_neg c30] at H
           have c30b0 : (a0_3 == 0) = false := beq_eq_false_iff_ne.mpr c30
           have c30b1 : (a0_3 != 0) = T := bne_iff_ne.mpr c30
           by_cases c31 : (Int.tmod a0_4 a0_3) = 0
           ·rw [if_pos c31] at H
            have c31b0 : ((Int.tmod a0_4 a0_3) == 0) = T := beq_iff_eq.mpr c31
            have c31b1 : ((Int.tmod a0_4 a0_3) != 0) = false := bne_eq_false_iff_eq.mpr c31
            clear c31
            obtain ⟨hcz32_0, hfz32_0⟩ := Zy (v := (.string a0_0)) BK467.out 0
            obtain ⟨hcz32_1, hfz32_1⟩ := Zy (v := (.int .i64 a0_1)) BK467.out 1
            obtain ⟨hcz32_2, hfz32_2⟩ := Zy (v := (.int .i64 a0_2)) BK467.out 2
            obtain ⟨hcz32_3, hfz32_3⟩ := Zy (v := (.int .i64 a0_3)) BK467.out 3
            obtain ⟨hcz32_4, hfz32_4⟩ := Zy (v := (.int .i64 a0_4)) BK467.out 4
            obtain ⟨hcz32_5, hfz32_5⟩ := Zy (v := (.int .i64 a0_5)) BK467.out 5
            obtain ⟨hcz32_6, hfz32_6⟩ := Zy (v := (.bool a0_6)) BK467.out 6
            go_upto_if 40 with (first | ((with_reducible refine QaC (f := 67) rfl ?_); refine goesL_ (some 43) rfl rfl Try.func67 (by kernel_rfl) rfl #[.int .i64 a0_4, .int .i64 16777216] rfl (Zl) ?_; (with_reducible refine (QaG.calls a0_4 16777216 T _ A24.out).mono ?_); rintro e w' ⟨rfl, ⟨nd, rfl⟩⟩; refine ⟨_, rfl, ?_⟩) | (go_at_call 67; (with_reducible refine (QaG.calls a0_5 16777216 T _ A26.out).mono ?_); rintro e w' ⟨rfl, ⟨nd, rfl⟩⟩))
            (try simp only [Act.put, Zj, Zk, Zm])
            by_cases c33 : (Int.tmod a0_5 a0_3) = 0
            ·rw [if_pos c33] at H
             have c33b0 : ((Int.tmod a0_5 a0_3) == 0) = T := beq_iff_eq.mpr c33
             have c33b1 : ((Int.tmod a0_5 a0_3) != 0) = false := bne_eq_false_iff_eq.mpr c33
             clear c33
             (try simp only [c33b0, c33b1])
             obtain rfl := Option.some.inj H
             go_wp2
             go_ret
             exact ⟨Zq, Zc1 GE467.out⟩
            rw [if_neg c33] at H
            have c33b0 : ((Int.tmod a0_5 a0_3) == 0) = false := beq_eq_false_iff_ne.mpr c33
            have c33b1 : ((Int.tmod a0_5 a0_3) != 0) = T := bne_iff_ne.mpr c33
            (try simp only [c33b0, c33b1])
            obtain rfl := Option.some.inj H
            go_wp2
            go_ret
            exact ⟨Zq, Zc1 GE467.out⟩
           rw [if_neg c31] at H
           have c31b0 : ((Int.tmod a0_4 a0_3) == 0) = false := beq_eq_false_iff_ne.mpr c31
           have c31b1 : ((Int.tmod a0_4 a0_3) != 0) = T := bne_iff_ne.mpr c31
           obtain rfl := Option.some.inj H
           obtain ⟨hcz34_0, hfz34_0⟩ := Zy (v := (.string a0_0)) BK467.out 0
           obtain ⟨hcz34_1, hfz34_1⟩ := Zy (v := (.int .i64 a0_1)) BK467.out 1
           obtain ⟨hcz34_2, hfz34_2⟩ := Zy (v := (.int .i64 a0_2)) BK467.out 2
           obtain ⟨hcz34_3, hfz34_3⟩ := Zy (v := (.int .i64 a0_3)) BK467.out 3
           obtain ⟨hcz34_4, hfz34_4⟩ := Zy (v := (.int .i64 a0_4)) BK467.out 4
           obtain ⟨hcz34_5, hfz34_5⟩ := Zy (v := (.int .i64 a0_5)) BK467.out 5
           obtain ⟨hcz34_6, hfz34_6⟩ := Zy (v := (.bool a0_6)) BK467.out 6
           go_wp2_with (first | ((with_reducible refine QaC (f := 67) rfl ?_); refine goesL_ (some 43) rfl rfl Try.func67 (by kernel_rfl) rfl #[.int .i64 a0_4, .int .i64 16777216] rfl (Zl) ?_; (with_reducible refine (QaG.calls a0_4 16777216 T _ A24.out).mono ?_); rintro e w' ⟨rfl, ⟨nd, rfl⟩⟩; refine ⟨_, rfl, ?_⟩) | (go_at_call 67; (with_reducible refine (QaG.calls a0_5 16777216 T _ A26.out).mono ?_); rintro e w' ⟨rfl, ⟨nd, rfl⟩⟩))
           go_ret
           exact ⟨Zq, Zc1 GE467.out⟩
          replace c27 := Bool.eq_false_iff.mpr c27
          subst c27
          have H1 : (some 17) = some r := by rw [if_neg (show ¬ (false = T) by decide)] at H; exact H
          clear H
          have H := H1
          clear H1
          obtain rfl := Option.some.inj H
          obtain ⟨hcz35_0, hfz35_0⟩ := Zy (v := (.string a0_0)) BK467.out 0
          obtain ⟨hcz35_1, hfz35_1⟩ := Zy (v := (.int .i64 a0_1)) BK467.out 1
          obtain ⟨hcz35_2, hfz35_2⟩ := Zy (v := (.int .i64 a0_2)) BK467.out 2
          obtain ⟨hcz35_3, hfz35_3⟩ := Zy (v := (.int .i64 a0_3)) BK467.out 3
          obtain ⟨hcz35_4, hfz35_4⟩ := Zy (v := (.int .i64 a0_4)) BK467.out 4
          obtain ⟨hcz35_5, hfz35_5⟩ := Zy (v := (.int .i64 a0_5)) BK467.out 5
          obtain ⟨hcz35_6, hfz35_6⟩ := Zy (v := (.bool a0_6)) BK467.out 6
          go_wp2_with (first | ((with_reducible refine QaC (f := 67) rfl ?_); refine goesL_ (some 43) rfl rfl Try.func67 (by kernel_rfl) rfl #[.int .i64 a0_4, .int .i64 16777216] rfl (Zl) ?_; (with_reducible refine (QaG.calls a0_4 16777216 T _ A24.out).mono ?_); rintro e w' ⟨rfl, ⟨nd, rfl⟩⟩; refine ⟨_, rfl, ?_⟩) | (go_at_call 67; (with_reducible refine (QaG.calls a0_5 16777216 false _ A26.out).mono ?_); rintro e w' ⟨rfl, ⟨nd, rfl⟩⟩))
          go_ret
          exact ⟨Zq, Zc1 GE467.out⟩
         replace c25 := Bool.eq_false_iff.mpr c25
         subst c25
         have H1 : (some 17) = some r := by rw [if_neg (show ¬ (false = T) by decide)] at H; exact H
         clear H
         have H := H1
         clear H1
         obtain rfl := Option.some.inj H
         obtain ⟨hcz36_0, hfz36_0⟩ := Zy (v := (.string a0_0)) BK467.out 0
         obtain ⟨hcz36_1, hfz36_1⟩ := Zy (v := (.int .i64 a0_1)) BK467.out 1
         obtain ⟨hcz36_2, hfz36_2⟩ := Zy (v := (.int .i64 a0_2)) BK467.out 2
         obtain ⟨hcz36_3, hfz36_3⟩ := Zy (v := (.int .i64 a0_3)) BK467.out 3
         obtain ⟨hcz36_4, hfz36_4⟩ := Zy (v := (.int .i64 a0_4)) BK467.out 4
         obtain ⟨hcz36_5, hfz36_5⟩ := Zy (v := (.int .i64 a0_5)) BK467.out 5
         obtain ⟨hcz36_6, hfz36_6⟩ := Zy (v := (.bool a0_6)) BK467.out 6
         go_wp2_with (first | ((with_reducible refine QaC (f := 67) rfl ?_); refine goesL_ (some 43) rfl rfl Try.func67 (by kernel_rfl) rfl #[.int .i64 a0_4, .int .i64 16777216] rfl (Zl) ?_; (with_reducible refine (QaG.calls a0_4 16777216 false _ A24.out).mono ?_); rintro e w' ⟨rfl, ⟨nd, rfl⟩⟩; refine ⟨_, rfl, ?_⟩))
         go_ret
         exact ⟨Zq, Zc1 GE467.out⟩
end Go.Proofs.Ytaembbndjpebhaa.Pr
