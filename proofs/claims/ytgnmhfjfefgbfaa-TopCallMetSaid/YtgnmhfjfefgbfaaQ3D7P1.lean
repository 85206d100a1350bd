/- Functions' values and contracts, as the print wrote them. -/
import Derived.Test.YtgnmhfjfefgbfaaQ3D7P0
namespace Go.Proofs.Ytgnmhfjfefgbfaa.Pr
open Go.RowKit Go.Proofs.YtgnmhfjfefgbfaaW.PrintWords Go.Proofs.YtgnmhfjfefgbfaaW.PrintLast Go.Proofs.YtgnmhfjfefgbfaaW.PrintMore
attribute [local go_sem] QaN QaP QaW QaX QaH QaI QaO QaQ   -- for this text's walks alone
set_option linter.unusedVariables false
set_option linter.unusedSimpArgs false
attribute [local go_sem high] eqA226
def QaE.l0 : Nat → List (S226) → Int → Int → Int → ByteArray → ByteArray → Int → Int → Int → Option (Int)
 | 0, _, _, _, _, _, _, _, _, _ => none
 | k + 1, x0, x7, x8, x864000, x864001, x864002, x864003, x864004, x864005 => if x8 < x7 then (if 0 ≤ x8 then (if x8 < (x0.length : Int) then (if (x864000 == ((Qan x0 x8).f0) && ((x864001.toList == (((Qan x0 x8).f1.f0).toList) && (x864002.toList == (((Qan x0 x8).f1.f1).toList))) && (x864003 == ((Qan x0 x8).f2) && (x864004 == ((Qan x0 x8).f3) && (x864005 == ((Qan x0 x8).f4)))))) = true then (some x8) else (QaE.l0 k x0 x7 (wrap64 (x8 + 1)) x864000 x864001 x864002 x864003 x864004 x864005)) else (none)) else (none)) else (some (-1))
def QaE.f (k : Nat) (l0 : List (S226)) (a1_0 : Int) (a1_1 : ByteArray) (a1_2 : ByteArray) (a1_3 : Int) (a1_4 : Int) (a1_5 : Int) : Option (Int) := QaE.l0 k l0 (l0.length : Int) 0 a1_0 a1_1 a1_2 a1_3 a1_4 a1_5
theorem QaE.mono_l : ∀ k, (∀ y0 y1 y2 y3 y4 y5 y6 y7 y8, LeO (QaE.l0 k y0 y1 y2 y3 y4 y5 y6 y7 y8) (QaE.l0 (k + 1) y0 y1 y2 y3 y4 y5 y6 y7 y8))
 | 0 => fun _ _ _ _ _ _ _ _ _ r h => by simp [QaE.l0] at h
 | k + 1 => by
  have ih0 := QaE.mono_l k
  intro y0 y1 y2 y3 y4 y5 y6 y7 y8
  unfold QaE.l0
  exact ZM1 ih0
theorem QaE.mono : ∀ a0 a1 a2 a3 a4 a5 a6 k, LeO (QaE.f k a0 a1 a2 a3 a4 a5 a6) (QaE.f (k + 1) a0 a1 a2 a3 a4 a5 a6) := by
 intro a0 a1 a2 a3 a4 a5 a6 k
 have ih0 := QaE.mono_l k
 unfold QaE.f
 exact ZM1 ih0
set_option maxHeartbeats 8000000 in
set_option maxRecDepth 100000 in
theorem QaE.calls (k : Nat) (A0 : Option Addr) (c0 : Nat) (l0 : List (S226)) (a1_0 : Int) (a1_1 : ByteArray) (a1_2 : ByteArray) (a1_3 : Int) (a1_4 : Int) (a1_5 : Int) (r : Int) (w : World) (hr0 : Kd.C k226 w A0 l0.length l0) (hc0 : l0.length ≤ c0) (h : QaE.f k l0 a1_0 a1_1 a1_2 a1_3 a1_4 a1_5 = some r) :
  Calls Try.prog 125 #[.slice A0 l0.length c0, .agg #[.int .i64 a1_0, .string a1_1, .string a1_2, .int .i64 a1_3, .int .i64 a1_4, .int .i64 a1_5]] w fun e w' => e = .returned (.int .i64 r) ∧ Below w.heap.size w w' := by
 have hu226 := Try.underlying226
 have HR0 := Aside0.mk hr0
 have HC0 := Aside0.mk hc0
 clear hr0 hc0
 have HB := Aside0.mk (Below.refl w.heap.size w)
 have H : (QaE.l0 k l0 (l0.length : Int) 0 a1_0 a1_1 a1_2 a1_3 a1_4 a1_5) = some r := h
 clear h
 have H' := Aside0.mk H
 clear H
 go_enter Try.func125, Try.ntmps125
 go_wp2_with (first | ((with_reducible refine QaT (N := 3) rfl ?_); refine Zbx (N := 3) (cs := #[.int .i64 a1_0, .string a1_1, .string a1_2, .int .i64 a1_3, .int .i64 a1_4, .int .i64 a1_5]) (t := 226) ?_; intro gb863 hg w3 hbox hb; have BK863 := Aside0.mk (hbox); have GW863 := Aside0.mk (Zt w hg (Zb)); have GE863 := GW863; replace HB := Aside0.mk (Qap (Zb) hb); clear hb hbox hg))
 repeat (go_quiet (first | ((with_reducible refine QaT (N := 3) rfl ?_); refine Zbx (N := 3) (cs := #[.int .i64 a1_0, .string a1_1, .string a1_2, .int .i64 a1_3, .int .i64 a1_4, .int .i64 a1_5]) (t := 226) ?_; intro gb863 hg w3 hbox hb; have BK863 := Aside0.mk (hbox); have GW863 := Aside0.mk (Zt w hg (Zb)); have GE863 := GW863; replace HB := Aside0.mk (Qap (Zb) hb); clear hb hbox hg)); try go_wp2_with (first | ((with_reducible refine QaT (N := 3) rfl ?_); refine Zbx (N := 3) (cs := #[.int .i64 a1_0, .string a1_1, .string a1_2, .int .i64 a1_3, .int .i64 a1_4, .int .i64 a1_5]) (t := 226) ?_; intro gb863 hg w3 hbox hb; have BK863 := Aside0.mk (hbox); have GW863 := Aside0.mk (Zt w hg (Zb)); have GE863 := GW863; replace HB := Aside0.mk (Qap (Zb) hb); clear hb hbox hg)))
 go_loopg [8] k (fun kq v8 w' => ∃ (x8_1 : Int), v8 = .int .i64 x8_1 ∧ Aside0 (QaE.l0 kq l0 (l0.length : Int) x8_1 a1_0 a1_1 a1_2 a1_3 a1_4 a1_5 = some r) ∧ Aside0 (kq ≤ k) ∧ Aside0 (w'.heap[gb863]? = some (.cells #[.int .i64 a1_0, .string a1_1, .string a1_2, .int .i64 a1_3, .int .i64 a1_4, .int .i64 a1_5] 226 (0, 0))) ∧ Aside0 (Below w.heap.size w w'))
 case atStart => exact ⟨(0), (Zs), H', ⟨Nat.le_refl _⟩, ⟨Zu BK863.out⟩, ⟨Zc1 GE863.out⟩⟩
 case round =>
  clear H'
  try clear c1
  try clear p2
  obtain ⟨x8_1, rfl, HA, HK1, BK863, HB⟩ := hrel
  cases gk with
  | zero => exact absurd HA.out (by simp [QaE.l0])
  | succ k1 =>
   have H := HA.out
   clear HA
   simp only [QaE.l0] at H
   by_cases c4 : x8_1 < (l0.length : Int)
   ·rw [if_pos c4] at H
    have c4b0 : decide (x8_1 < (l0.length : Int)) = true := decide_eq_true c4
    clear c4
    (try simp only [c4b0])
    by_cases c5 : 0 ≤ x8_1
    ·rw [if_pos c5] at H
     have c5b0 : decide (0 ≤ x8_1) = true := decide_eq_true c5
     clear c5
     by_cases c6 : x8_1 < (l0.length : Int)
     ·rw [if_pos c6] at H
      have c6b0 : decide (x8_1 < (l0.length : Int)) = true := decide_eq_true c6
      clear c6
      obtain ⟨hcz7_0, hfz7_0⟩ := Zy (v := (.int .i64 a1_0)) BK863.out 0
      obtain ⟨hcz7_1, hfz7_1⟩ := Zy (v := (.string a1_1)) BK863.out 1
      obtain ⟨hcz7_2, hfz7_2⟩ := Zy (v := (.string a1_2)) BK863.out 2
      obtain ⟨hcz7_3, hfz7_3⟩ := Zy (v := (.int .i64 a1_3)) BK863.out 3
      obtain ⟨hcz7_4, hfz7_4⟩ := Zy (v := (.int .i64 a1_4)) BK863.out 4
      obtain ⟨hcz7_5, hfz7_5⟩ := Zy (v := (.int .i64 a1_5)) BK863.out 5
      have p864 : 0 ≤ (x8_1 : Int) := Ze
      have q864 : x8_1 < (l0.length : Int) := Ze
      obtain ⟨ad864, e864, hx864_0, hx864_1, hx864_2, hx864_3, hx864_4, hx864_5⟩ := Qb1 HR0.out x8_1 p864 q864
      cases e864
      replace hx864_0 := Zx HB.out hx864_0
      replace hx864_1 := Zx HB.out hx864_1
      replace hx864_2 := Zx HB.out hx864_2
      replace hx864_3 := Zx HB.out hx864_3
      replace hx864_4 := Zx HB.out hx864_4
      replace hx864_5 := Zx HB.out hx864_5
      replace p864 := eq_true p864
      replace q864 := eq_true q864
      go_upto_if 16 with (fail)
      repeat (go_quiet (fail); go_upto_if 16 with (fail))
      by_cases c8 : (a1_0 == ((Qan l0 x8_1).f0) && ((a1_1.toList == (((Qan l0 x8_1).f1.f0).toList) && (a1_2.toList == (((Qan l0 x8_1).f1.f1).toList))) && (a1_3 == ((Qan l0 x8_1).f2) && (a1_4 == ((Qan l0 x8_1).f3) && (a1_5 == ((Qan l0 x8_1).f4)))))) = true
      ·rw [if_pos c8] at H
       have c8b0 : (a1_0 == ((Qan l0 x8_1).f0) && ((a1_1.toList == (((Qan l0 x8_1).f1.f0).toList) && (a1_2.toList == (((Qan l0 x8_1).f1.f1).toList))) && (a1_3 == ((Qan l0 x8_1).f2) && (a1_4 == ((Qan l0 x8_1).f3) && (a1_5 == ((Qan l0 x8_1).f4)))))) = true := c8
       (try (have c8b1 : decide (a1_0 = ((Qan l0 x8_1).f0) && ((a1_1.toList == (((Qan l0 x8_1).f1.f0).toList) && (a1_2.toList == (((Qan l0 x8_1).f1.f1).toList))) && (a1_3 == ((Qan l0 x8_1).f2) && (a1_4 == ((Qan l0 x8_1).f3) && (a1_5 == ((Qan l0 x8_1).f4)))))) = true := by simpa using c8))
       (try (have c8b2 : (a1_0 == ((Qan l0 x8_1).f0) && ((a1_1.toList == (((Qan l0 x8_1).f1.f0).toList) && (a1_2.toList == (((Qan l0 x8_1).f1.f1).toList))) && (a1_3 == ((Qan l0 x8_1).f2) && (a1_4 == ((Qan l0 x8_1).f3) && (a1_5 == ((Qan l0 x8_1).f4)))))) = true := by simpa using c8))
       clear c8
       (try simp only [c8b0])
       obtain rfl := Option.some.inj H
       go_wp2
       repeat (go_quiet (fail); try go_wp2)
       go_ret
       exact ⟨Zq, Zc1 GE863.out⟩
      rw [if_neg c8] at H
      have c8b0 : (a1_0 == ((Qan l0 x8_1).f0) && ((a1_1.toList == (((Qan l0 x8_1).f1.f0).toList) && (a1_2.toList == (((Qan l0 x8_1).f1.f1).toList))) && (a1_3 == ((Qan l0 x8_1).f2) && (a1_4 == ((Qan l0 x8_1).f3) && (a1_5 == ((Qan l0 x8_1).f4)))))) = false := by simpa using c8
      (try (have c8b1 : decide (a1_0 = ((Qan l0 x8_1).f0) && ((a1_1.toList == (((Qan l0 x8_1).f1.f0).toList) && (a1_2.toList == (((Qan l0 x8_1).f1.f1).toList))) && (a1_3 == ((Qan l0 x8_1).f2) && (a1_4 == ((Qan l0 x8_1).f3) && (a1_5 == ((Qan l0 x8_1).f4)))))) = false := by simpa using c8))
      (try (have c8b2 : (a1_0 == ((Qan l0 x8_1).f0) && ((a1_1.toList == (((Qan l0 x8_1).f1.f0).toList) && (a1_2.toList == (((Qan l0 x8_1).f1.f1).toList))) && (a1_3 == ((Qan l0 x8_1).f2) && (a1_4 == ((Qan l0 x8_1).f3) && (a1_5 == ((Qan l0 x8_1).f4)))))) = false := by simpa using c8))
      (try (have c8b3 : ¬ (a1_0 = ((Qan l0 x8_1).f0) && ((a1_1.toList == (((Qan l0 x8_1).f1.f0).toList) && (a1_2.toList == (((Qan l0 x8_1).f1.f1).toList))) && (a1_3 == ((Qan l0 x8_1).f2) && (a1_4 == ((Qan l0 x8_1).f3) && (a1_5 == ((Qan l0 x8_1).f4)))))) := by simpa using c8))
      clear c8
      (try simp only [c8b0])
      have H' := Aside0.mk H
      clear H
      go_wp2
      repeat (go_quiet (fail); try go_wp2)
      go_roundg k1
      case measure => have := HK1.out; omega
      case rel => exact ⟨(wrap64 (x8_1 + 1)), (Zs), H', ⟨by have := HK1.out; omega⟩, ⟨Zu BK863.out⟩, ⟨Zc1 GE863.out⟩⟩
     rw [if_neg c6] at H
     exact absurd H (by simp)
    rw [if_neg c5] at H
    exact absurd H (by simp)
   rw [if_neg c4] at H
   have c4b0 : decide (x8_1 < (l0.length : Int)) = false := decide_eq_false c4
   clear c4
   (try simp only [c4b0])
   obtain rfl := Option.some.inj H
   go_wp2
   repeat (go_quiet (fail); try go_wp2)
   go_ret
   exact ⟨Zq, Zc1 GE863.out⟩
end Go.Proofs.Ytgnmhfjfefgbfaa.Pr
