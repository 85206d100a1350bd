/- Functions' values and contracts, as the print wrote them. -/
import Derived.Test.YtfcaaefdmabkhaaQEB3P0
namespace Go.Proofs.Ytfcaaefdmabkhaa.Pr
open Bool renaming true → T
open Bool renaming false → F
open Go.RowKit Go.Proofs.YtfcaaefdmabkhaaW.PrintWords Go.Proofs.YtfcaaefdmabkhaaW.PrintLast Go.Proofs.YtfcaaefdmabkhaaW.PrintMore
attribute [local go_sem] QaN QaP QaT QaU QaH QaI QaO QaQ   -- for this text's walks alone
set_option linter.unusedVariables false
set_option linter.unusedSimpArgs false
set_option maxRecDepth 100000
mutual
def Qaz.j0 : Nat → Bool → ByteArray → Int → Int → Int → Int → Int → Option (Int)
 | 0, _, _, _, _, _, _, _ => none
 | k + 1, x8, x123000, x123001, x123002, x123003, x123004, x123005 => if x8 = T then (some 2) else (if x123002 < 0 then (Qaz.j1 k T x123000 x123001 x123002 x123003 x123004 x123005) else (Qaz.j1 k (decide (x123002 ≥ 8)) x123000 x123001 x123002 x123003 x123004 x123005))
def Qaz.j1 : Nat → Bool → ByteArray → Int → Int → Int → Int → Int → Option (Int)
 | 0, _, _, _, _, _, _, _ => none
 | k + 1, x17, x123000, x123001, x123002, x123003, x123004, x123005 => if x17 = T then (some 25) else (if x123003 < 1 then (some 2) else (if x123003 > 68719476736 then (some 2) else (if x123001 = 1 then (if x123003 = 1 then ((Qa7.f x123004).bind fun t124 => (if t124 = T then ((Qa7.f x123005).bind fun t125 => (if t125 = T then (some 0) else (some 2))) else (some 2))) else (some 2)) else ((Qa7.f x123004).bind fun t126 => (if t126 = T then ((Qa7.f x123005).bind fun t127 => (if t127 = T then (some 0) else (some 2))) else (some 2))))))
end
def Qaz.f (k : Nat) (a0_0 : ByteArray) (a0_1 : Int) (a0_2 : Int) (a0_3 : Int) (a0_4 : Int) (a0_5 : Int) : Option (Int) := (Qax.f k a0_0).bind fun t123 => (if t123 = T then (if a0_1 < 1 then (Qaz.j0 k T a0_0 a0_1 a0_2 a0_3 a0_4 a0_5) else (Qaz.j0 k (decide (a0_1 > 3)) a0_0 a0_1 a0_2 a0_3 a0_4 a0_5)) else (some 10))
theorem Qaz.mono_l : ∀ k, (∀ y0 y1 y2 y3 y4 y5 y6, LeO (Qaz.j0 k y0 y1 y2 y3 y4 y5 y6) (Qaz.j0 (k + 1) y0 y1 y2 y3 y4 y5 y6)) ∧ (∀ y0 y1 y2 y3 y4 y5 y6, LeO (Qaz.j1 k y0 y1 y2 y3 y4 y5 y6) (Qaz.j1 (k + 1) y0 y1 y2 y3 y4 y5 y6))
 | 0 => ⟨fun _ _ _ _ _ _ _ r h => by simp [Qaz.j0] at h, fun _ _ _ _ _ _ _ r h => by simp [Qaz.j1] at h⟩
 | k + 1 => by
  obtain ⟨ih0, ih1⟩ := Qaz.mono_l k
  refine ⟨?_, ?_⟩
  ·intro y0 y1 y2 y3 y4 y5 y6
   unfold Qaz.j0
   exact ZM3 ih0 ih1 Qax.mono
  intro y0 y1 y2 y3 y4 y5 y6
  unfold Qaz.j1
  exact ZM3 ih0 ih1 Qax.mono
theorem Qaz.mono : ∀ a0 a1 a2 a3 a4 a5 k, LeO (Qaz.f k a0 a1 a2 a3 a4 a5) (Qaz.f (k + 1) a0 a1 a2 a3 a4 a5) := by
 intro a0 a1 a2 a3 a4 a5 k
 obtain ⟨ih0, ih1⟩ := Qaz.mono_l k
 unfold Qaz.f
 exact ZM3 ih0 ih1 Qax.mono
set_option maxHeartbeats 8000000 in
theorem Qaz.calls (k : Nat) (a0_0 : ByteArray) (a0_1 : Int) (a0_2 : Int) (a0_3 : Int) (a0_4 : Int) (a0_5 : Int) (r : Int) (w : World) (h : Qaz.f k a0_0 a0_1 a0_2 a0_3 a0_4 a0_5 = some r) :
  Calls Try.prog 78 #[.agg #[.string a0_0, .int .i64 a0_1, .int .i64 a0_2, .int .i64 a0_3, .int .i64 a0_4, .int .i64 a0_5]] w fun e w' => e = .returned (.int .i64 r) ∧ Below w.heap.size w w' := by
 have hu84 := Try.underlying84
 have HB := Aside0.mk (Below.refl w.heap.size w)
 have H : ((Qax.f k a0_0).bind fun t123 => (if t123 = T then (if a0_1 < 1 then (Qaz.j0 k T a0_0 a0_1 a0_2 a0_3 a0_4 a0_5) else (Qaz.j0 k (decide (a0_1 > 3)) a0_0 a0_1 a0_2 a0_3 a0_4 a0_5)) else (some 10))) = some r := h
 clear h
 replace H := Option.bind_eq_some_iff.mp H
 obtain ⟨t123, A20, H⟩ := H
 replace H : (if t123 = T then (if a0_1 < 1 then (Qaz.j0 k T a0_0 a0_1 a0_2 a0_3 a0_4 a0_5) else (Qaz.j0 k (decide (a0_1 > 3)) a0_0 a0_1 a0_2 a0_3 a0_4 a0_5)) else (some 10)) = some r := H
 have A2 := Aside0.mk A20
 clear A20
 go_enter Try.func78, Try.ntmps78
 go_upto_if 3 with (first | ((with_reducible refine QaE (N := 1) rfl ?_); refine Zbx (N := 1) (cs := #[.string a0_0, .int .i64 a0_1, .int .i64 a0_2, .int .i64 a0_3, .int .i64 a0_4, .int .i64 a0_5]) (t := 84) ?_; intro gb122 hg w3 hbox hb; have BK122 := Aside0.mk (hbox); have GW122 := Aside0.mk (Zt w hg (Zb)); have GE122 := GW122; replace HB := Aside0.mk (Qaq (Zb) hb); clear hb hbox hg; obtain ⟨hcz4_0, hfz4_0⟩ := Zy (v := (.string a0_0)) BK122.out 0; obtain ⟨hcz4_1, hfz4_1⟩ := Zy (v := (.int .i64 a0_1)) BK122.out 1; obtain ⟨hcz4_2, hfz4_2⟩ := Zy (v := (.int .i64 a0_2)) BK122.out 2; obtain ⟨hcz4_3, hfz4_3⟩ := Zy (v := (.int .i64 a0_3)) BK122.out 3; obtain ⟨hcz4_4, hfz4_4⟩ := Zy (v := (.int .i64 a0_4)) BK122.out 4; obtain ⟨hcz4_5, hfz4_5⟩ := Zy (v := (.int .i64 a0_5)) BK122.out 5) | ((with_reducible refine QaA (f := 108) rfl ?_); refine goesL_ (some 6) rfl rfl Try.func108 (by kernel_rfl) rfl #[.string a0_0] rfl (Zl) ?_; (with_reducible refine (Qax.calls k a0_0 t123 _ A2.out).mono ?_); rintro e w' ⟨rfl, ⟨nd, rfl⟩⟩; refine ⟨_, rfl, ?_⟩))
 (try simp only [Act.put, Zj, Zk, Zm])
 by_cases c5 : t123 = T
 ·subst c5
  have H1 : (if a0_1 < 1 then (Qaz.j0 k T a0_0 a0_1 a0_2 a0_3 a0_4 a0_5) else (Qaz.j0 k (decide (a0_1 > 3)) a0_0 a0_1 a0_2 a0_3 a0_4 a0_5)) = some r := by rw [if_pos rfl] at H; exact H
  clear H
  have H := H1
  clear H1
  have HC6 := Aside0.mk H
  clear H
  go_upto_region 3 with (fail)
  go_cut [8] (fun v8 wc => ∃ (kq : Nat) (x8_5 : Bool), v8 = .bool x8_5 ∧ Aside0 (Qaz.j0 kq x8_5 a0_0 a0_1 a0_2 a0_3 a0_4 a0_5 = some r) ∧ Aside0 (kq ≤ k) ∧ Aside0 (wc.heap[gb122]? = some (.cells #[.string a0_0, .int .i64 a0_1, .int .i64 a0_2, .int .i64 a0_3, .int .i64 a0_4, .int .i64 a0_5] 84 (0, 0))) ∧ Aside0 (Below w.heap.size w wc))
  case first =>
   have H := HC6.out
   clear HC6
   by_cases c7 : a0_1 < 1
   ·rw [if_pos c7] at H
    have c7b0 : decide (a0_1 < 1) = T := decide_eq_true c7
    clear c7
    have H' := Aside0.mk H
    clear H
    obtain ⟨hcz8_0, hfz8_0⟩ := Zy (v := (.string a0_0)) BK122.out 0
    obtain ⟨hcz8_1, hfz8_1⟩ := Zy (v := (.int .i64 a0_1)) BK122.out 1
    obtain ⟨hcz8_2, hfz8_2⟩ := Zy (v := (.int .i64 a0_2)) BK122.out 2
    obtain ⟨hcz8_3, hfz8_3⟩ := Zy (v := (.int .i64 a0_3)) BK122.out 3
    obtain ⟨hcz8_4, hfz8_4⟩ := Zy (v := (.int .i64 a0_4)) BK122.out 4
    obtain ⟨hcz8_5, hfz8_5⟩ := Zy (v := (.int .i64 a0_5)) BK122.out 5
    go_wp2
    go_meet
    case rel => exact ⟨_, (T), (Zs), H', ⟨by first | omega | exact Nat.le_refl _⟩, ⟨Zu BK122.out⟩, ⟨Zc1 GE122.out⟩⟩
   rw [if_neg c7] at H
   have c7b0 : decide (a0_1 < 1) = F := decide_eq_false c7
   clear c7
   have H' := Aside0.mk H
   clear H
   obtain ⟨hcz9_0, hfz9_0⟩ := Zy (v := (.string a0_0)) BK122.out 0
   obtain ⟨hcz9_1, hfz9_1⟩ := Zy (v := (.int .i64 a0_1)) BK122.out 1
   obtain ⟨hcz9_2, hfz9_2⟩ := Zy (v := (.int .i64 a0_2)) BK122.out 2
   obtain ⟨hcz9_3, hfz9_3⟩ := Zy (v := (.int .i64 a0_3)) BK122.out 3
   obtain ⟨hcz9_4, hfz9_4⟩ := Zy (v := (.int .i64 a0_4)) BK122.out 4
   obtain ⟨hcz9_5, hfz9_5⟩ := Zy (v := (.int .i64 a0_5)) BK122.out 5
   go_wp2
   go_meet
   case rel => exact ⟨_, (decide (a0_1 > 3)), (Zs), H', ⟨by first | omega | exact Nat.le_refl _⟩, ⟨Zu BK122.out⟩, ⟨Zc1 GE122.out⟩⟩
  case rest =>
   clear HC6
   try clear c1
   try clear p2
   try clear c5
   try clear c7
   try clear c7b0
   try clear hcz4_0
   try clear hcz4_1
   try clear hcz4_2
   try clear hcz4_3
   try clear hcz4_4
   try clear hcz4_5
   try clear hcz8_0
   try clear hcz8_1
   try clear hcz8_2
   try clear hcz8_3
   try clear hcz8_4
   try clear hcz8_5
   try clear hcz9_0
   try clear hcz9_1
   try clear hcz9_2
   try clear hcz9_3
   try clear hcz9_4
   try clear hcz9_5
   try clear hfz4_0
   try clear hfz4_1
   try clear hfz4_2
   try clear hfz4_3
   try clear hfz4_4
   try clear hfz4_5
   try clear hfz8_0
   try clear hfz8_1
   try clear hfz8_2
   try clear hfz8_3
   try clear hfz8_4
   try clear hfz8_5
   try clear hfz9_0
   try clear hfz9_1
   try clear hfz9_2
   try clear hfz9_3
   try clear hfz9_4
   try clear hfz9_5
   obtain ⟨kq, x8_5, rfl, HA, HJ5, BK122, HB⟩ := hcut
   cases kq with
   | zero => exact absurd HA.out (by simp [Qaz.j0])
   | succ kj5 =>
    have H := HA.out
    clear HA
    simp only [Qaz.j0] at H
    by_cases c10 : x8_5 = T
    ·subst c10
     have H1 : (some 2) = some r := by rw [if_pos rfl] at H; exact H
     clear H
     have H := H1
     clear H1
     obtain rfl := Option.some.inj H
     go_wp2
     go_ret
     exact ⟨Zq, Zc1 GE122.out⟩
    replace c10 := Bool.eq_false_iff.mpr c10
    subst c10
    have H1 : (if a0_2 < 0 then (Qaz.j1 kj5 T a0_0 a0_1 a0_2 a0_3 a0_4 a0_5) else (Qaz.j1 kj5 (decide (a0_2 ≥ 8)) a0_0 a0_1 a0_2 a0_3 a0_4 a0_5)) = some r := by rw [if_neg (show ¬ (F = T) by decide)] at H; exact H
    clear H
    have H := H1
    clear H1
    have HC11 := Aside0.mk H
    clear H
    go_upto_region 5 with (fail)
    go_cut [17] (fun v17 wc => ∃ (kq : Nat) (x17_10 : Bool), v17 = .bool x17_10 ∧ Aside0 (Qaz.j1 kq x17_10 a0_0 a0_1 a0_2 a0_3 a0_4 a0_5 = some r) ∧ Aside0 (kq ≤ kj5) ∧ Aside0 (wc.heap[gb122]? = some (.cells #[.string a0_0, .int .i64 a0_1, .int .i64 a0_2, .int .i64 a0_3, .int .i64 a0_4, .int .i64 a0_5] 84 (0, 0))) ∧ Aside0 (Below w.heap.size w wc))
    case first =>
     have H := HC11.out
     clear HC11
     by_cases c12 : a0_2 < 0
     ·rw [if_pos c12] at H
      have c12b0 : decide (a0_2 < 0) = T := decide_eq_true c12
      clear c12
      have H' := Aside0.mk H
      clear H
      obtain ⟨hcz13_0, hfz13_0⟩ := Zy (v := (.string a0_0)) BK122.out 0
      obtain ⟨hcz13_1, hfz13_1⟩ := Zy (v := (.int .i64 a0_1)) BK122.out 1
      obtain ⟨hcz13_2, hfz13_2⟩ := Zy (v := (.int .i64 a0_2)) BK122.out 2
      obtain ⟨hcz13_3, hfz13_3⟩ := Zy (v := (.int .i64 a0_3)) BK122.out 3
      obtain ⟨hcz13_4, hfz13_4⟩ := Zy (v := (.int .i64 a0_4)) BK122.out 4
      obtain ⟨hcz13_5, hfz13_5⟩ := Zy (v := (.int .i64 a0_5)) BK122.out 5
      go_wp2
      go_meet
      case rel => exact ⟨_, (T), (Zs), H', ⟨by have := HJ5.out; first | omega | exact Nat.le_refl _⟩, ⟨Zu BK122.out⟩, ⟨Zc1 GE122.out⟩⟩
     rw [if_neg c12] at H
     have c12b0 : decide (a0_2 < 0) = F := decide_eq_false c12
     clear c12
     have H' := Aside0.mk H
     clear H
     obtain ⟨hcz14_0, hfz14_0⟩ := Zy (v := (.string a0_0)) BK122.out 0
     obtain ⟨hcz14_1, hfz14_1⟩ := Zy (v := (.int .i64 a0_1)) BK122.out 1
     obtain ⟨hcz14_2, hfz14_2⟩ := Zy (v := (.int .i64 a0_2)) BK122.out 2
     obtain ⟨hcz14_3, hfz14_3⟩ := Zy (v := (.int .i64 a0_3)) BK122.out 3
     obtain ⟨hcz14_4, hfz14_4⟩ := Zy (v := (.int .i64 a0_4)) BK122.out 4
     obtain ⟨hcz14_5, hfz14_5⟩ := Zy (v := (.int .i64 a0_5)) BK122.out 5
     go_wp2
     go_meet
     case rel => exact ⟨_, (decide (a0_2 ≥ 8)), (Zs), H', ⟨by have := HJ5.out; first | omega | exact Nat.le_refl _⟩, ⟨Zu BK122.out⟩, ⟨Zc1 GE122.out⟩⟩
    case rest =>
     clear HC11
     try clear c1
     try clear p2
     try clear c5
     try clear c7
     try clear c7b0
     try clear c10
     try clear c12
     try clear c12b0
     try clear hcz13_0
     try clear hcz13_1
     try clear hcz13_2
     try clear hcz13_3
     try clear hcz13_4
     try clear hcz13_5
     try clear hcz14_0
     try clear hcz14_1
     try clear hcz14_2
     try clear hcz14_3
     try clear hcz14_4
     try clear hcz14_5
     try clear hcz4_0
     try clear hcz4_1
     try clear hcz4_2
     try clear hcz4_3
     try clear hcz4_4
     try clear hcz4_5
     try clear hcz8_0
     try clear hcz8_1
     try clear hcz8_2
     try clear hcz8_3
     try clear hcz8_4
     try clear hcz8_5
     try clear hcz9_0
     try clear hcz9_1
     try clear hcz9_2
     try clear hcz9_3
     try clear hcz9_4
     try clear hcz9_5
     try clear hfz13_0
     try clear hfz13_1
     try clear hfz13_2
     try clear hfz13_3
     try clear hfz13_4
     try clear hfz13_5
     try clear hfz14_0
     try clear hfz14_1
     try clear hfz14_2
     try clear hfz14_3
     try clear hfz14_4
     try clear hfz14_5
     try clear hfz4_0
     try clear hfz4_1
     try clear hfz4_2
     try clear hfz4_3
     try clear hfz4_4
     try clear hfz4_5
     try clear hfz8_0
     try clear hfz8_1
     try clear hfz8_2
     try clear hfz8_3
     try clear hfz8_4
     try clear hfz8_5
     try clear hfz9_0
     try clear hfz9_1
     try clear hfz9_2
     try clear hfz9_3
     try clear hfz9_4
     try clear hfz9_5
     try clear p2
     obtain ⟨kq, x17_10, rfl, HA, HJ10, BK122, HB⟩ := hcut
     cases kq with
     | zero => exact absurd HA.out (by simp [Qaz.j1])
     | succ kj10 =>
      have H := HA.out
      clear HA
      simp only [Qaz.j1] at H
      by_cases c15 : x17_10 = T
      ·subst c15
       have H1 : (some 25) = some r := by rw [if_pos rfl] at H; exact H
       clear H
       have H := H1
       clear H1
       obtain rfl := Option.some.inj H
       go_wp2
       go_ret
       exact ⟨Zq, Zc1 GE122.out⟩
      replace c15 := Bool.eq_false_iff.mpr c15
      subst c15
      have H1 : (if a0_3 < 1 then (some 2) else (if a0_3 > 68719476736 then (some 2) else (if a0_1 = 1 then (if a0_3 = 1 then ((Qa7.f a0_4).bind fun t124 => (if t124 = T then ((Qa7.f a0_5).bind fun t125 => (if t125 = T then (some 0) else (some 2))) else (some 2))) else (some 2)) else ((Qa7.f a0_4).bind fun t126 => (if t126 = T then ((Qa7.f a0_5).bind fun t127 => (if t127 = T then (some 0) else (some 2))) else (some 2)))))) = some r := by rw [if_neg (show ¬ (F = T) by decide)] at H; exact H
      clear H
      have H := H1
      clear H1
      by_cases c16 : a0_3 < 1
      ·rw [if_pos c16] at H
       have c16b0 : decide (a0_3 < 1) = T := decide_eq_true c16
       clear c16
       obtain rfl := Option.some.inj H
       obtain ⟨hcz17_0, hfz17_0⟩ := Zy (v := (.string a0_0)) BK122.out 0
       obtain ⟨hcz17_1, hfz17_1⟩ := Zy (v := (.int .i64 a0_1)) BK122.out 1
       obtain ⟨hcz17_2, hfz17_2⟩ := Zy (v := (.int .i64 a0_2)) BK122.out 2
       obtain ⟨hcz17_3, hfz17_3⟩ := Zy (v := (.int .i64 a0_3)) BK122.out 3
       obtain ⟨hcz17_4, hfz17_4⟩ := Zy (v := (.int .i64 a0_4)) BK122.out 4
       obtain ⟨hcz17_5, hfz17_5⟩ := Zy (v := (.int .i64 a0_5)) BK122.out 5
       go_wp2
       go_ret
       exact ⟨Zq, Zc1 GE122.out⟩
      rw [if_neg c16] at H
      have c16b0 : decide (a0_3 < 1) = F := decide_eq_false c16
      clear c16
      by_cases c18 : a0_3 > 68719476736
      ·rw [if_pos c18] at H
       have c18b0 : decide (68719476736 < a0_3) = T := decide_eq_true c18
       clear c18
       obtain rfl := Option.some.inj H
       obtain ⟨hcz19_0, hfz19_0⟩ := Zy (v := (.string a0_0)) BK122.out 0
       obtain ⟨hcz19_1, hfz19_1⟩ := Zy (v := (.int .i64 a0_1)) BK122.out 1
       obtain ⟨hcz19_2, hfz19_2⟩ := Zy (v := (.int .i64 a0_2)) BK122.out 2
       obtain ⟨hcz19_3, hfz19_3⟩ := Zy (v := (.int .i64 a0_3)) BK122.out 3
       obtain ⟨hcz19_4, hfz19_4⟩ := Zy (v := (.int .i64 a0_4)) BK122.out 4
       obtain ⟨hcz19_5, hfz19_5⟩ := Zy (v := (.int .i64 a0_5)) BK122.out 5
       go_wp2
       go_ret
       exact ⟨Zq, Zc1 GE122.out⟩
      rw [if_neg c18] at H
      have c18b0 : decide (68719476736 < a0_3) = F := decide_eq_false c18
      clear c18
      by_cases c20 : a0_1 = 1
      ·rw [if_pos c20] at H
       have c20b0 : (a0_1 == 1) = T := beq_iff_eq.mpr c20
       have c20b1 : (a0_1 != 1) = F := bne_eq_false_iff_eq.mpr c20
       clear c20
       by_cases c21 : a0_3 = 1
       ·rw [if_pos c21] at H
        have c21b0 : (a0_3 == 1) = T := beq_iff_eq.mpr c21
        have c21b1 : (a0_3 != 1) = F := bne_eq_false_iff_eq.mpr c21
        clear c21
        replace H := Option.bind_eq_some_iff.mp H
        obtain ⟨t124, A220, H⟩ := H
        replace H : (if t124 = T then ((Qa7.f a0_5).bind fun t125 => (if t125 = T then (some 0) else (some 2))) else (some 2)) = some r := H
        have A22 := Aside0.mk A220
        clear A220
        by_cases c23 : t124 = T
        ·subst c23
         have H1 : ((Qa7.f a0_5).bind fun t125 => (if t125 = T then (some 0) else (some 2))) = some r := by rw [if_pos rfl] at H; exact H
         clear H
         have H := H1
         clear H1
         replace H := Option.bind_eq_some_iff.mp H
         obtain ⟨t125, A240, H⟩ := H
         replace H : (if t125 = T then (some 0) else (some 2)) = some r := H
         have A24 := Aside0.mk A240
         clear A240
         obtain ⟨hcz25_0, hfz25_0⟩ := Zy (v := (.string a0_0)) BK122.out 0
         obtain ⟨hcz25_1, hfz25_1⟩ := Zy (v := (.int .i64 a0_1)) BK122.out 1
         obtain ⟨hcz25_2, hfz25_2⟩ := Zy (v := (.int .i64 a0_2)) BK122.out 2
         obtain ⟨hcz25_3, hfz25_3⟩ := Zy (v := (.int .i64 a0_3)) BK122.out 3
         obtain ⟨hcz25_4, hfz25_4⟩ := Zy (v := (.int .i64 a0_4)) BK122.out 4
         obtain ⟨hcz25_5, hfz25_5⟩ := Zy (v := (.int .i64 a0_5)) BK122.out 5
         go_upto_if 26 with (first | (go_at_call 109; (with_reducible refine (Qa7.calls a0_4 T _ A22.out).mono ?_); rintro e w' ⟨rfl, ⟨nd, rfl⟩⟩) | (go_at_call 109; (with_reducible refine (Qa7.calls a0_5 t125 _ A24.out).mono ?_); rintro e w' ⟨rfl, ⟨nd, rfl⟩⟩))
         (try simp only [Act.put, Zj, Zk, Zm])
         by_cases c26 : t125 = T
         ·subst c26
          have H1 : (some 0) = some r := by rw [if_pos rfl] at H; exact H
          clear H
          have H := H1
          clear H1
          obtain rfl := Option.some.inj H
          go_wp2
          go_ret
          exact ⟨Zq, Zc1 GE122.out⟩
         replace c26 := Bool.eq_false_iff.mpr c26
         subst c26
         have H1 : (some 2) = some r := by rw [if_neg (show ¬ (F = T) by decide)] at H; exact H
         clear H
         have H := H1
         clear H1
         obtain rfl := Option.some.inj H
         go_wp2
         go_ret
         exact ⟨Zq, Zc1 GE122.out⟩
        replace c23 := Bool.eq_false_iff.mpr c23
        subst c23
        have H1 : (some 2) = some r := by rw [if_neg (show ¬ (F = T) by decide)] at H; exact H
        clear H
        have H := H1
        clear H1
        obtain rfl := Option.some.inj H
        obtain ⟨hcz27_0, hfz27_0⟩ := Zy (v := (.string a0_0)) BK122.out 0
        obtain ⟨hcz27_1, hfz27_1⟩ := Zy (v := (.int .i64 a0_1)) BK122.out 1
        obtain ⟨hcz27_2, hfz27_2⟩ := Zy (v := (.int .i64 a0_2)) BK122.out 2
        obtain ⟨hcz27_3, hfz27_3⟩ := Zy (v := (.int .i64 a0_3)) BK122.out 3
        obtain ⟨hcz27_4, hfz27_4⟩ := Zy (v := (.int .i64 a0_4)) BK122.out 4
        obtain ⟨hcz27_5, hfz27_5⟩ := Zy (v := (.int .i64 a0_5)) BK122.out 5
        go_wp2_with (first | (go_at_call 109; (with_reducible refine (Qa7.calls a0_4 F _ A22.out).mono ?_); rintro e w' ⟨rfl, ⟨nd, rfl⟩⟩))
        go_ret
        exact ⟨Zq, Zc1 GE122.out⟩
       rw [if_neg c21] at H
       have c21b0 : (a0_3 == 1) = F := beq_eq_false_iff_ne.mpr c21
       have c21b1 : (a0_3 != 1) = T := bne_iff_ne.mpr c21
       obtain rfl := Option.some.inj H
       obtain ⟨hcz28_0, hfz28_0⟩ := Zy (v := (.string a0_0)) BK122.out 0
       obtain ⟨hcz28_1, hfz28_1⟩ := Zy (v := (.int .i64 a0_1)) BK122.out 1
       obtain ⟨hcz28_2, hfz28_2⟩ := Zy (v := (.int .i64 a0_2)) BK122.out 2
       obtain ⟨hcz28_3, hfz28_3⟩ := Zy (v := (.int .i64 a0_3)) BK122.out 3
       obtain ⟨hcz28_4, hfz28_4⟩ := Zy (v := (.int .i64 a0_4)) BK122.out 4
       obtain ⟨hcz28_5, hfz28_5⟩ := Zy (v := (.int .i64 a0_5)) BK122.out 5
       go_wp2
       go_ret
       exact ⟨Zq, Zc1 GE122.out⟩
      rw [if_neg c20] at H
      have c20b0 : (a0_1 == 1) = F := beq_eq_false_iff_ne.mpr c20
      have c20b1 : (a0_1 != 1) = T := bne_iff_ne.mpr c20
      replace H := Option.bind_eq_some_iff.mp H
      obtain ⟨t126, A290, H⟩ := H
      replace H : (if t126 = T then ((Qa7.f a0_5).bind fun t127 => (if t127 = T then (some 0) else (some 2))) else (some 2)) = some r := H
      have A29 := Aside0.mk A290
      clear A290
      by_cases c30 : t126 = T
      ·subst c30
       have H1 : ((Qa7.f a0_5).bind fun t127 => (if t127 = T then (some 0) else (some 2))) = some r := by rw [if_pos rfl] at H; exact H
       clear H
       have H := H1
       clear H1
       replace H := Option.bind_eq_some_iff.mp H
       obtain ⟨t127, A310, H⟩ := H
       replace H : (if t127 = T then (some 0) else (some 2)) = some r := H
       have A31 := Aside0.mk A310
       clear A310
       obtain ⟨hcz32_0, hfz32_0⟩ := Zy (v := (.string a0_0)) BK122.out 0
       obtain ⟨hcz32_1, hfz32_1⟩ := Zy (v := (.int .i64 a0_1)) BK122.out 1
       obtain ⟨hcz32_2, hfz32_2⟩ := Zy (v := (.int .i64 a0_2)) BK122.out 2
       obtain ⟨hcz32_3, hfz32_3⟩ := Zy (v := (.int .i64 a0_3)) BK122.out 3
       obtain ⟨hcz32_4, hfz32_4⟩ := Zy (v := (.int .i64 a0_4)) BK122.out 4
       obtain ⟨hcz32_5, hfz32_5⟩ := Zy (v := (.int .i64 a0_5)) BK122.out 5
       go_upto_if 26 with (first | (go_at_call 109; (with_reducible refine (Qa7.calls a0_4 T _ A29.out).mono ?_); rintro e w' ⟨rfl, ⟨nd, rfl⟩⟩) | (go_at_call 109; (with_reducible refine (Qa7.calls a0_5 t127 _ A31.out).mono ?_); rintro e w' ⟨rfl, ⟨nd, rfl⟩⟩))
       (try simp only [Act.put, Zj, Zk, Zm])
       by_cases c33 : t127 = T
       ·subst c33
        have H1 : (some 0) = some r := by rw [if_pos rfl] at H; exact H
        clear H
        have H := H1
        clear H1
        obtain rfl := Option.some.inj H
        go_wp2
        go_ret
        exact ⟨Zq, Zc1 GE122.out⟩
       replace c33 := Bool.eq_false_iff.mpr c33
       subst c33
       have H1 : (some 2) = some r := by rw [if_neg (show ¬ (F = T) by decide)] at H; exact H
       clear H
       have H := H1
       clear H1
       obtain rfl := Option.some.inj H
       go_wp2
       go_ret
       exact ⟨Zq, Zc1 GE122.out⟩
      replace c30 := Bool.eq_false_iff.mpr c30
      subst c30
      have H1 : (some 2) = some r := by rw [if_neg (show ¬ (F = T) by decide)] at H; exact H
      clear H
      have H := H1
      clear H1
      obtain rfl := Option.some.inj H
      obtain ⟨hcz34_0, hfz34_0⟩ := Zy (v := (.string a0_0)) BK122.out 0
      obtain ⟨hcz34_1, hfz34_1⟩ := Zy (v := (.int .i64 a0_1)) BK122.out 1
      obtain ⟨hcz34_2, hfz34_2⟩ := Zy (v := (.int .i64 a0_2)) BK122.out 2
      obtain ⟨hcz34_3, hfz34_3⟩ := Zy (v := (.int .i64 a0_3)) BK122.out 3
      obtain ⟨hcz34_4, hfz34_4⟩ := Zy (v := (.int .i64 a0_4)) BK122.out 4
      obtain ⟨hcz34_5, hfz34_5⟩ := Zy (v := (.int .i64 a0_5)) BK122.out 5
      go_wp2_with (first | (go_at_call 109; (with_reducible refine (Qa7.calls a0_4 F _ A29.out).mono ?_); rintro e w' ⟨rfl, ⟨nd, rfl⟩⟩))
      go_ret
      exact ⟨Zq, Zc1 GE122.out⟩
 replace c5 := Bool.eq_false_iff.mpr c5
 subst c5
 have H1 : (some 10) = some r := by rw [if_neg (show ¬ (F = T) by decide)] at H; exact H
 clear H
 have H := H1
 clear H1
 obtain rfl := Option.some.inj H
 go_wp2
 go_ret
 exact ⟨Zq, Zc1 GE122.out⟩
def Qbh.f (k : Nat) (a0_0 : ByteArray) (a0_1 : Int) (a0_2 : Int) (a0_3 : Int) (a0_4 : Int) (a0_5 : Int) (a1 : Int) : Option (Int × Int) := (Qaz.f k a0_0 a0_1 a0_2 a0_3 a0_4 a0_5).bind fun t137 => (if t137 = 0 then ((Qbs.f a1).bind fun t138 => (if t138 = T then ((QaV.f k a1 a0_3).bind fun bt139 => (some (bt139.1, bt139.2))) else (some (0, 18)))) else (some (0, t137)))
theorem Qbh.mono : ∀ a0 a1 a2 a3 a4 a5 a6 k, LeO (Qbh.f k a0 a1 a2 a3 a4 a5 a6) (Qbh.f (k + 1) a0 a1 a2 a3 a4 a5 a6) := by
 intro a0 a1 a2 a3 a4 a5 a6 k
 unfold Qbh.f
 exact ZM2 Qaz.mono QaV.mono
set_option maxHeartbeats 8000000 in
theorem Qbh.calls (k : Nat) (a0_0 : ByteArray) (a0_1 : Int) (a0_2 : Int) (a0_3 : Int) (a0_4 : Int) (a0_5 : Int) (a1 : Int) (r1 : Int) (r2 : Int) (w : World) (h : Qbh.f k a0_0 a0_1 a0_2 a0_3 a0_4 a0_5 a1 = some (r1, r2)) :
  Calls Try.prog 114 #[.agg #[.string a0_0, .int .i64 a0_1, .int .i64 a0_2, .int .i64 a0_3, .int .i64 a0_4, .int .i64 a0_5], .int .i64 a1] w fun e w' => e = .returned (.tuple #[.int .i64 r1, .int .i64 r2]) ∧ Below w.heap.size w w' := by
 have hu84 := Try.underlying84
 have HB := Aside0.mk (Below.refl w.heap.size w)
 have H : ((Qaz.f k a0_0 a0_1 a0_2 a0_3 a0_4 a0_5).bind fun t137 => (if t137 = 0 then ((Qbs.f a1).bind fun t138 => (if t138 = T then ((QaV.f k a1 a0_3).bind fun bt139 => (some (bt139.1, bt139.2))) else (some (0, 18)))) else (some (0, t137)))) = some (r1, r2) := h
 clear h
 replace H := Option.bind_eq_some_iff.mp H
 obtain ⟨t137, A30, H⟩ := H
 replace H : (if t137 = 0 then ((Qbs.f a1).bind fun t138 => (if t138 = T then ((QaV.f k a1 a0_3).bind fun bt139 => (some (bt139.1, bt139.2))) else (some (0, 18)))) else (some (0, t137))) = some (r1, r2) := H
 have A3 := Aside0.mk A30
 clear A30
 go_enter Try.func114, Try.ntmps114
 go_upto_if 10 with (first | ((with_reducible refine QaE (N := 2) rfl ?_); refine Zbx (N := 2) (cs := #[.string a0_0, .int .i64 a0_1, .int .i64 a0_2, .int .i64 a0_3, .int .i64 a0_4, .int .i64 a0_5]) (t := 84) ?_; intro gb136 hg w4 hbox hb; have BK136 := Aside0.mk (hbox); have GW136 := Aside0.mk (Zt w hg (Zb)); have GE136 := GW136; replace HB := Aside0.mk (Qaq (Zb) hb); clear hb hbox hg; obtain ⟨hcz5_0, hfz5_0⟩ := Zy (v := (.string a0_0)) BK136.out 0; obtain ⟨hcz5_1, hfz5_1⟩ := Zy (v := (.int .i64 a0_1)) BK136.out 1; obtain ⟨hcz5_2, hfz5_2⟩ := Zy (v := (.int .i64 a0_2)) BK136.out 2; obtain ⟨hcz5_3, hfz5_3⟩ := Zy (v := (.int .i64 a0_3)) BK136.out 3; obtain ⟨hcz5_4, hfz5_4⟩ := Zy (v := (.int .i64 a0_4)) BK136.out 4; obtain ⟨hcz5_5, hfz5_5⟩ := Zy (v := (.int .i64 a0_5)) BK136.out 5) | ((with_reducible refine QaA (f := 78) rfl ?_); refine goesL_ (some 8) rfl rfl Try.func78 (by kernel_rfl) rfl #[.agg #[.string a0_0, .int .i64 a0_1, .int .i64 a0_2, .int .i64 a0_3, .int .i64 a0_4, .int .i64 a0_5]] rfl (Zl) ?_; (with_reducible refine (Qaz.calls k a0_0 a0_1 a0_2 a0_3 a0_4 a0_5 t137 _ A3.out).mono ?_); rintro e w6 ⟨rfl, hb⟩; refine ⟨_, rfl, ?_⟩; replace BK136 := Aside0.mk (Zi BK136.out hb); replace HB := Aside0.mk (Qaq (Zc1 GE136.out) hb); (try clear hb); (try clear hb2); (try clear hk); (try clear hi)))
 (try simp only [Act.put, Zj, Zk, Zm])
 by_cases c7 : t137 = 0
 ·rw [if_pos c7] at H
  have c7b0 : (t137 == 0) = T := beq_iff_eq.mpr c7
  have c7b1 : (t137 != 0) = F := bne_eq_false_iff_eq.mpr c7
  clear c7
  (try simp only [c7b0, c7b1])
  replace H := Option.bind_eq_some_iff.mp H
  obtain ⟨t138, A80, H⟩ := H
  replace H : (if t138 = T then ((QaV.f k a1 a0_3).bind fun bt139 => (some (bt139.1, bt139.2))) else (some (0, 18))) = some (r1, r2) := H
  have A8 := Aside0.mk A80
  clear A80
  go_upto_if 14 with (first | ((with_reducible refine QaA (f := 80) rfl ?_); refine goesL_ (some 13) rfl rfl Try.func80 (by kernel_rfl) rfl #[.int .i64 a1] rfl (Zl) ?_; (with_reducible refine (Qbs.calls a1 t138 _ A8.out).mono ?_); rintro e w' ⟨rfl, ⟨nd, rfl⟩⟩; refine ⟨_, rfl, ?_⟩))
  (try simp only [Act.put, Zj, Zk, Zm])
  by_cases c9 : t138 = T
  ·subst c9
   have H1 : ((QaV.f k a1 a0_3).bind fun bt139 => (some (bt139.1, bt139.2))) = some (r1, r2) := by rw [if_pos rfl] at H; exact H
   clear H
   have H := H1
   clear H1
   replace H := Option.bind_eq_some_iff.mp H
   obtain ⟨⟨t139, t140⟩, A100, H⟩ := H
   replace H : (some (t139, t140)) = some (r1, r2) := H
   have A10 := Aside0.mk A100
   clear A100
   simp only [Option.some.injEq, Prod.mk.injEq] at H
   obtain ⟨rfl, rfl⟩ := H
   obtain ⟨hcz11_0, hfz11_0⟩ := Zy (v := (.string a0_0)) BK136.out 0
   obtain ⟨hcz11_1, hfz11_1⟩ := Zy (v := (.int .i64 a0_1)) BK136.out 1
   obtain ⟨hcz11_2, hfz11_2⟩ := Zy (v := (.int .i64 a0_2)) BK136.out 2
   obtain ⟨hcz11_3, hfz11_3⟩ := Zy (v := (.int .i64 a0_3)) BK136.out 3
   obtain ⟨hcz11_4, hfz11_4⟩ := Zy (v := (.int .i64 a0_4)) BK136.out 4
   obtain ⟨hcz11_5, hfz11_5⟩ := Zy (v := (.int .i64 a0_5)) BK136.out 5
   go_wp2_with (first | ((with_reducible refine QaA (f := 125) rfl ?_); refine goesL_ (some 18) rfl rfl Try.func125 (by kernel_rfl) rfl #[.int .i64 a1, .int .i64 a0_3] rfl (Zl) ?_; (with_reducible refine (QaV.calls k a1 a0_3 t139 t140 _ A10.out).mono ?_); rintro e w' ⟨rfl, ⟨nd, rfl⟩⟩; refine ⟨_, rfl, ?_⟩))
   go_ret2
   exact ⟨Zq, Zc1 GE136.out⟩
  replace c9 := Bool.eq_false_iff.mpr c9
  subst c9
  have H1 : (some (0, 18)) = some (r1, r2) := by rw [if_neg (show ¬ (F = T) by decide)] at H; exact H
  clear H
  have H := H1
  clear H1
  simp only [Option.some.injEq, Prod.mk.injEq] at H
  obtain ⟨rfl, rfl⟩ := H
  go_wp2
  go_ret2
  exact ⟨Zq, Zc1 GE136.out⟩
 rw [if_neg c7] at H
 have c7b0 : (t137 == 0) = F := beq_eq_false_iff_ne.mpr c7
 have c7b1 : (t137 != 0) = T := bne_iff_ne.mpr c7
 (try simp only [c7b0, c7b1])
 simp only [Option.some.injEq, Prod.mk.injEq] at H
 obtain ⟨rfl, rfl⟩ := H
 go_wp2
 go_ret2
 exact ⟨Zq, Zc1 GE136.out⟩
def QbD.f (s a0 : ByteArray) : Option Bool := some (decide (a0.toList = s.toList))
set_option maxHeartbeats 1000000 in
theorem QbD.calls (D : Addr) (s : ByteArray) (a0_0 : ByteArray) (a0_1 : Int) (r : Bool) (w : World) (hd : w.cell? D = some (.string s)) (h : QbD.f s a0_0 = some r) :
  Calls Try.prog 124 #[.agg #[.string a0_0, .int .i64 a0_1], .pointer (some D)] w fun e w' => e = .returned (.bool r) ∧ Below w.heap.size w w' := by
 have hu87 := Try.underlying98
 have hd1 := hd
 have ld : D.block < w.heap.size := World.block_lt_of_cell? _ _ (by rw [hd])
 have H := Aside0.mk (Option.some.inj h)
 clear h
 by_cases c : a0_0.toList = s.toList
 all_goals
  go_enter Try.func124, Try.ntmps124
  go_wp2
  go_ret
  refine ⟨congrArg Ending.returned (congrArg Value.bool ?_), by repeat (first | exact Below.refl _ _ | apply Qaf | apply Qad | apply QbM)⟩
  rw [← H.out]
  simp [c]
def QaY.l0 : Nat → List (S98) → ByteArray → Int → Int → Option (Int)
 | 0, _, _, _, _ => none
 | k + 1, x0, s, x7, x8 => if x8 < x7 then (if 0 ≤ x8 then (if x8 < (x0.length : Int) then ((QbD.f s ((rd_T98 x0 x8).f0)).bind fun t109 => (if t109 = T then (some x8) else (QaY.l0 k x0 s x7 (wrap64 (x8 + 1))))) else (none)) else (none)) else (some (-1))
def QaY.f (k : Nat) (l0 : List (S98)) (s : ByteArray) : Option (Int) := QaY.l0 k l0 s (l0.length : Int) 0
theorem QaY.mono_l : ∀ k, (∀ y0 y1 y2 y3, LeO (QaY.l0 k y0 y1 y2 y3) (QaY.l0 (k + 1) y0 y1 y2 y3))
 | 0 => fun _ _ _ _ r h => by simp [QaY.l0] at h
 | k + 1 => by
  have ih0 := QaY.mono_l k
  intro y0 y1 y2 y3
  unfold QaY.l0
  exact ZM1 ih0
theorem QaY.mono : ∀ a0 a1 k, LeO (QaY.f k a0 a1) (QaY.f (k + 1) a0 a1) := by
 intro a0 a1 k
 have ih0 := QaY.mono_l k
 unfold QaY.f
 exact ZM1 ih0
set_option maxHeartbeats 8000000 in
theorem QaY.calls (k : Nat) (D : Addr) (s : ByteArray) (A0 : Option Addr) (c0 : Nat) (l0 : List (S98)) (r : Int) (w : World) (hD : Aside0 (w.cell? D = some (.string s))) (hr0 : Kd.C k98 w A0 l0.length l0) (hc0 : l0.length ≤ c0) (h : QaY.f k l0 s = some r) :
  Calls Try.prog 123 #[.slice A0 l0.length c0, .func (.func 124) #[] #[.pointer (some D)]] w fun e w' => e = .returned (.int .i64 r) ∧ Below w.heap.size w w' := by
 have hu87 := Try.underlying98
 have HR0 := Aside0.mk hr0
 have HC0 := Aside0.mk hc0
 clear hr0 hc0
 have HB := Aside0.mk (Below.refl w.heap.size w)
 have H : (QaY.l0 k l0 s (l0.length : Int) 0) = some r := h
 clear h
 have H' := Aside0.mk H
 clear H
 go_enter Try.func123, Try.ntmps123
 go_wp2
 go_loopg [8] k (fun kq v8 w' => ∃ (x8_1 : Int), v8 = .int .i64 x8_1 ∧ Aside0 (QaY.l0 kq l0 s (l0.length : Int) x8_1 = some r) ∧ Aside0 (kq ≤ k) ∧ Aside0 (Below w.heap.size w w'))
 case atStart => exact ⟨(0), (Zs), H', ⟨Nat.le_refl _⟩, ⟨Zb⟩⟩
 case round =>
  clear H'
  try clear p2
  obtain ⟨x8_1, rfl, HA, HK1, HB⟩ := hrel
  cases gk with
  | zero => exact absurd HA.out (by simp [QaY.l0])
  | succ k1 =>
   have H := HA.out
   clear HA
   simp only [QaY.l0] at H
   by_cases c3 : x8_1 < (l0.length : Int)
   ·rw [if_pos c3] at H
    have c3b0 : decide (x8_1 < (l0.length : Int)) = T := decide_eq_true c3
    clear c3
    by_cases c4 : 0 ≤ x8_1
    ·rw [if_pos c4] at H
     have c4b0 : decide (0 ≤ x8_1) = T := decide_eq_true c4
     clear c4
     by_cases c5 : x8_1 < (l0.length : Int)
     ·rw [if_pos c5] at H
      have c5b0 : decide (x8_1 < (l0.length : Int)) = T := decide_eq_true c5
      clear c5
      replace H := Option.bind_eq_some_iff.mp H
      obtain ⟨t109, A60, H⟩ := H
      replace H : (if t109 = T then (some x8_1) else (QaY.l0 k1 l0 s (l0.length : Int) (wrap64 (x8_1 + 1)))) = some r := H
      have A6 := Aside0.mk A60
      clear A60
      by_cases c7 : t109 = T
      ·subst c7
       have H1 : (some x8_1) = some r := by rw [if_pos rfl] at H; exact H
       clear H
       have H := H1
       clear H1
       obtain rfl := Option.some.inj H
       have p108 : 0 ≤ (x8_1 : Int) := Ze
       have q108 : x8_1 < (l0.length : Int) := Ze
       obtain ⟨ad108, e108, hx108_0, hx108_1⟩ := at_T98 HR0.out x8_1 p108 q108
       cases e108
       replace hx108_0 := Zx HB.out hx108_0
       replace hx108_1 := Zx HB.out hx108_1
       replace p108 := eq_true p108
       replace q108 := eq_true q108
       go_wp2_with (first | (go_at_call 124; refine (QbD.calls D s ((rd_T98 l0 x8_1).f0) ((rd_T98 l0 x8_1).f1) T _ ((HB.out.cell (World.block_lt_of_cell? w _ hD.out)).trans hD.out) A6.out).mono ?_; rintro e w8 ⟨rfl, hb⟩; replace HB := Aside0.mk (Qaq (Zb) hb); (try clear hb); (try clear hb2); (try clear hk); (try clear hi)))
       go_ret
       exact ⟨Zq, Zb⟩
      replace c7 := Bool.eq_false_iff.mpr c7
      subst c7
      have H1 : (QaY.l0 k1 l0 s (l0.length : Int) (wrap64 (x8_1 + 1))) = some r := by rw [if_neg (show ¬ (F = T) by decide)] at H; exact H
      clear H
      have H := H1
      clear H1
      have H' := Aside0.mk H
      clear H
      have p108 : 0 ≤ (x8_1 : Int) := Ze
      have q108 : x8_1 < (l0.length : Int) := Ze
      obtain ⟨ad108, e108, hx108_0, hx108_1⟩ := at_T98 HR0.out x8_1 p108 q108
      cases e108
      replace hx108_0 := Zx HB.out hx108_0
      replace hx108_1 := Zx HB.out hx108_1
      replace p108 := eq_true p108
      replace q108 := eq_true q108
      go_wp2_with (first | (go_at_call 124; refine (QbD.calls D s ((rd_T98 l0 x8_1).f0) ((rd_T98 l0 x8_1).f1) F _ ((HB.out.cell (World.block_lt_of_cell? w _ hD.out)).trans hD.out) A6.out).mono ?_; rintro e w9 ⟨rfl, hb⟩; replace HB := Aside0.mk (Qaq (Zb) hb); (try clear hb); (try clear hb2); (try clear hk); (try clear hi)))
      go_roundg k1
      case measure => have := HK1.out; omega
      case rel => exact ⟨(wrap64 (x8_1 + 1)), (Zs), H', ⟨by have := HK1.out; omega⟩, ⟨Zb⟩⟩
     rw [if_neg c5] at H
     exact absurd H (by simp)
    rw [if_neg c4] at H
    exact absurd H (by simp)
   rw [if_neg c3] at H
   have c3b0 : decide (x8_1 < (l0.length : Int)) = F := decide_eq_false c3
   clear c3
   obtain rfl := Option.some.inj H
   go_wp2
   go_ret
   exact ⟨Zq, Zb⟩
def Qbk.f (k : Nat) (l0 : List S98) (a1 : ByteArray) : Option (Int × Bool) := (QaY.f k l0 a1).bind fun t => some (mx t 0, decide (t ≥ 0))
theorem Qbk.mono : ∀ a0 a1 k, LeO (Qbk.f k a0 a1) (Qbk.f (k + 1) a0 a1) := by
 intro a0 a1 k
 unfold Qbk.f
 exact LeO.bind (QaY.mono _ _ _) (fun _ => LeO.refl _)
set_option maxHeartbeats 8000000 in
theorem Qbk.calls (k : Nat) (A0 : Option Addr) (c0 : Nat) (l0 : List S98) (a1 : ByteArray) (r1 : Int) (r2 : Bool) (w : World) (hr0 : Kd.C k98 w A0 l0.length l0) (hc0 : l0.length ≤ c0) (h : Qbk.f k l0 a1 = some (r1, r2)) :
  Calls Try.prog 112 #[.slice A0 l0.length c0, .string a1] w fun e w' => e = .returned (.tuple #[.int .i64 r1, .bool r2]) ∧ Below w.heap.size w w' := by
 have HR := Aside0.mk hr0
 have HC := Aside0.mk hc0
 clear hr0 hc0
 obtain ⟨t, ht, h⟩ := Option.bind_eq_some_iff.1 h
 have HT := Aside0.mk ht
 clear ht
 simp only [Option.some.injEq, Prod.mk.injEq] at h
 obtain ⟨rfl, rfl⟩ := h
 go_enter Try.func112, Try.ntmps112
 go_wp2_with fail
 refine (QaY.calls k ⟨w.heap.size, 0, none⟩ a1 A0 c0 l0 t _ ⟨?_⟩ (Kd.C_below HR.out ?_) HC.out HT.out).mono ?_
 ·go_simp
 ·repeat (first | exact Below.refl _ _ | apply Qaf)
 rintro e w1 ⟨rfl, hb⟩
 have HB := Aside0.mk ((Qaf (Below.refl w.heap.size w) (.cells #[.string a1] 9 (0, 0))).trans (hb.mono (by simp)))
 clear hb
 by_cases ht0 : t < 0
 ·go_wp2
  go_ret2
  refine ⟨?_, by repeat (first | exact HB.out | apply Qaf | apply Qad | apply QbM)⟩
  have h1 : mx t 0 = 0 := by unfold mx; rw [if_pos ht0]
  have h2 : ¬ t ≥ 0 := by omega
  simp [h1, h2]
 have ht1 : 0 ≤ t := by omega
 have h1 : mx t 0 = t := by unfold mx; rw [if_neg ht0]
 have h2 : t ≥ 0 := by omega
 go_wp2
 go_ret2
 refine ⟨?_, by repeat (first | exact HB.out | apply Qaf | apply Qad | apply QbM)⟩
 simp [h1, h2]
def Qal.l0 : Nat → List (S98) → Int → Int → Option (Int)
 | 0, _, _, _ => none
 | k + 1, x0, x7, x8 => if x8 < x7 then (if 0 ≤ x8 then (if x8 < (x0.length : Int) then ((Qbg.f k ((rd_T98 x0 x8).f0) ((rd_T98 x0 x8).f1)).bind fun t145 => (if t145 = T then (some x8) else (Qal.l0 k x0 x7 (wrap64 (x8 + 1))))) else (none)) else (none)) else (some (-1))
def Qal.f (k : Nat) (l0 : List (S98))  : Option (Int) := Qal.l0 k l0 (l0.length : Int) 0
theorem Qal.mono_l : ∀ k, (∀ y0 y1 y2, LeO (Qal.l0 k y0 y1 y2) (Qal.l0 (k + 1) y0 y1 y2))
 | 0 => fun _ _ _ r h => by simp [Qal.l0] at h
 | k + 1 => by
  have ih0 := Qal.mono_l k
  intro y0 y1 y2
  unfold Qal.l0
  exact ZM2 ih0 Qbg.mono
theorem Qal.mono : ∀ a0 k, LeO (Qal.f k a0) (Qal.f (k + 1) a0) := by
 intro a0 k
 have ih0 := Qal.mono_l k
 unfold Qal.f
 exact ZM2 ih0 Qbg.mono
set_option maxHeartbeats 8000000 in
theorem Qal.calls (k : Nat) (A0 : Option Addr) (c0 : Nat) (l0 : List (S98))  (r : Int) (w : World) (hr0 : Kd.C k98 w A0 l0.length l0) (hc0 : l0.length ≤ c0) (h : Qal.f k l0 = some r) :
  Calls Try.prog 123 #[.slice A0 l0.length c0, .func (.func 111) #[] #[]] w fun e w' => e = .returned (.int .i64 r) ∧ Below w.heap.size w w' := by
 have hu98 := Try.underlying98
 have HR0 := Aside0.mk hr0
 have HC0 := Aside0.mk hc0
 clear hr0 hc0
 have HB := Aside0.mk (Below.refl w.heap.size w)
 have H : (Qal.l0 k l0 (l0.length : Int) 0) = some r := h
 clear h
 have H' := Aside0.mk H
 clear H
 go_enter Try.func123, Try.ntmps123
 go_wp2
 go_loopg [8] k (fun kq v8 w' => ∃ (x8_1 : Int), v8 = .int .i64 x8_1 ∧ Aside0 (Qal.l0 kq l0 (l0.length : Int) x8_1 = some r) ∧ Aside0 (kq ≤ k) ∧ Aside0 (Below w.heap.size w w'))
 case atStart => exact ⟨(0), (Zs), H', ⟨Nat.le_refl _⟩, ⟨Zb⟩⟩
 case round =>
  clear H'
  try clear p2
  obtain ⟨x8_1, rfl, HA, HK1, HB⟩ := hrel
  cases gk with
  | zero => exact absurd HA.out (by simp [Qal.l0])
  | succ k1 =>
   have H := HA.out
   clear HA
   simp only [Qal.l0] at H
   by_cases c3 : x8_1 < (l0.length : Int)
   ·rw [if_pos c3] at H
    have c3b0 : decide (x8_1 < (l0.length : Int)) = T := decide_eq_true c3
    clear c3
    (try simp only [c3b0])
    by_cases c4 : 0 ≤ x8_1
    ·rw [if_pos c4] at H
     have c4b0 : decide (0 ≤ x8_1) = T := decide_eq_true c4
     clear c4
     by_cases c5 : x8_1 < (l0.length : Int)
     ·rw [if_pos c5] at H
      have c5b0 : decide (x8_1 < (l0.length : Int)) = T := decide_eq_true c5
      clear c5
      replace H := Option.bind_eq_some_iff.mp H
      obtain ⟨t145, A60, H⟩ := H
      replace H : (if t145 = T then (some x8_1) else (Qal.l0 k1 l0 (l0.length : Int) (wrap64 (x8_1 + 1)))) = some r := H
      have A6 := Aside0.mk A60
      clear A60
      have p144 : 0 ≤ (x8_1 : Int) := Ze
      have q144 : x8_1 < (l0.length : Int) := Ze
      obtain ⟨ad144, e144, hx144_0, hx144_1⟩ := at_T98 HR0.out x8_1 p144 q144
      cases e144
      replace hx144_0 := Zx HB.out hx144_0
      replace hx144_1 := Zx HB.out hx144_1
      replace p144 := eq_true p144
      replace q144 := eq_true q144
      go_upto_if 16 with (first | (go_at_call 111; (with_reducible refine (Qbg.calls k1 ((rd_T98 l0 x8_1).f0) ((rd_T98 l0 x8_1).f1) t145 _ A6.out).mono ?_); rintro e w7 ⟨rfl, hb⟩; replace HB := Aside0.mk (Qaq (Zb) hb); (try clear hb); (try clear hb2); (try clear hk); (try clear hi)))
      (try simp only [Act.put, Zj, Zk, Zm])
      by_cases c8 : t145 = T
      ·subst c8
       have H1 : (some x8_1) = some r := by rw [if_pos rfl] at H; exact H
       clear H
       have H := H1
       clear H1
       obtain rfl := Option.some.inj H
       go_wp2
       go_ret
       exact ⟨Zq, Zb⟩
      replace c8 := Bool.eq_false_iff.mpr c8
      subst c8
      have H1 : (Qal.l0 k1 l0 (l0.length : Int) (wrap64 (x8_1 + 1))) = some r := by rw [if_neg (show ¬ (F = T) by decide)] at H; exact H
      clear H
      have H := H1
      clear H1
      have H' := Aside0.mk H
      clear H
      go_wp2
      go_roundg k1
      case measure => have := HK1.out; omega
      case rel => exact ⟨(wrap64 (x8_1 + 1)), (Zs), H', ⟨by have := HK1.out; omega⟩, ⟨Zb⟩⟩
     rw [if_neg c5] at H
     exact absurd H (by simp)
    rw [if_neg c4] at H
    exact absurd H (by simp)
   rw [if_neg c3] at H
   have c3b0 : decide (x8_1 < (l0.length : Int)) = F := decide_eq_false c3
   clear c3
   (try simp only [c3b0])
   obtain rfl := Option.some.inj H
   go_wp2
   go_ret
   exact ⟨Zq, Zb⟩
def Qau.f (k : Nat) (l0 : List (S98))  : Option (Bool) := (Qal.f k l0).bind fun t146 => (some (decide (t146 ≥ 0)))
theorem Qau.mono : ∀ a0 k, LeO (Qau.f k a0) (Qau.f (k + 1) a0) := by
 intro a0 k
 unfold Qau.f
 exact ZM1 Qal.mono
set_option maxHeartbeats 8000000 in
theorem Qau.calls (k : Nat) (A0 : Option Addr) (c0 : Nat) (l0 : List (S98))  (r : Bool) (w : World) (hr0 : Kd.C k98 w A0 l0.length l0) (hc0 : l0.length ≤ c0) (h : Qau.f k l0 = some r) :
  Calls Try.prog 110 #[.slice A0 l0.length c0, .func (.func 111) #[] #[]] w fun e w' => e = .returned (.bool r) ∧ Below w.heap.size w w' := by
 have HR0 := Aside0.mk hr0
 have HC0 := Aside0.mk hc0
 clear hr0 hc0
 have HB := Aside0.mk (Below.refl w.heap.size w)
 have H : ((Qal.f k l0).bind fun t146 => (some (decide (t146 ≥ 0)))) = some r := h
 clear h
 replace H := Option.bind_eq_some_iff.mp H
 obtain ⟨t146, A30, H⟩ := H
 replace H : (some (decide (t146 ≥ 0))) = some r := H
 have A3 := Aside0.mk A30
 clear A30
 obtain rfl := Option.some.inj H
 go_enter Try.func110, Try.ntmps110
 go_wp2_with (first | ((with_reducible refine QaA (f := 123) rfl ?_); refine goesL_ (some 7) rfl rfl Try.func123 (by kernel_rfl) rfl #[.slice A0 l0.length c0, .func (.func 111) #[] #[]] rfl (Zl) ?_; (with_reducible refine (Qal.calls k _ _ l0  t146 _ ?side1 ?side2 A3.out).mono ?_); (case side1 => exact Zv HR0.out); (case side2 => exact HC0.out); rintro e w4 ⟨rfl, hb⟩; refine ⟨_, rfl, ?_⟩; replace HB := Aside0.mk (Qaq (Zb) hb); (try clear hb); (try clear hb2); (try clear hk); (try clear hi)))
 go_ret
 exact ⟨Zq, Zb⟩
def QbG.f (a0_0 : ByteArray) (a0_1 : Int) : Option (Bool) := if a0_1 < 1 then (some T) else (some (decide (a0_1 > 1000000000000)))
set_option maxHeartbeats 8000000 in
theorem QbG.calls (a0_0 : ByteArray) (a0_1 : Int) (r : Bool) (w : World) (h : QbG.f a0_0 a0_1 = some r) :
  Calls Try.prog 113 #[.agg #[.string a0_0, .int .i64 a0_1]] w fun e w' => e = .returned (.bool r) ∧ Below w.heap.size w w' := by
 have hu98 := Try.underlying98
 have HB := Aside0.mk (Below.refl w.heap.size w)
 have H : (if a0_1 < 1 then (some T) else (some (decide (a0_1 > 1000000000000)))) = some r := h
 clear h
 go_enter Try.func113, Try.ntmps113
 go_upto_region 1 with (first | ((with_reducible refine QaE (N := 1) rfl ?_); refine Zbx (N := 1) (cs := #[.string a0_0, .int .i64 a0_1]) (t := 98) ?_; intro gb147 hg w2 hbox hb; have BK147 := Aside0.mk (hbox); have GW147 := Aside0.mk (Zt w hg (Zb)); have GE147 := GW147; replace HB := Aside0.mk (Qaq (Zb) hb); clear hb hbox hg))
 (try simp only [Act.put, Zj, Zk, Zm])
 by_cases c3 : a0_1 < 1
 ·rw [if_pos c3] at H
  have c3b0 : decide (a0_1 < 1) = T := decide_eq_true c3
  clear c3
  (try simp only [c3b0])
  obtain rfl := Option.some.inj H
  obtain ⟨hcz4_0, hfz4_0⟩ := Zy (v := (.string a0_0)) BK147.out 0
  obtain ⟨hcz4_1, hfz4_1⟩ := Zy (v := (.int .i64 a0_1)) BK147.out 1
  go_wp2
  go_ret
  exact ⟨Zq, Zc1 GE147.out⟩
 rw [if_neg c3] at H
 have c3b0 : decide (a0_1 < 1) = F := decide_eq_false c3
 clear c3
 (try simp only [c3b0])
 obtain rfl := Option.some.inj H
 obtain ⟨hcz5_0, hfz5_0⟩ := Zy (v := (.string a0_0)) BK147.out 0
 obtain ⟨hcz5_1, hfz5_1⟩ := Zy (v := (.int .i64 a0_1)) BK147.out 1
 go_wp2
 go_ret
 exact ⟨Zq, Zc1 GE147.out⟩
def Qam.l0 : Nat → List (S98) → Int → Int → Option (Int)
 | 0, _, _, _ => none
 | k + 1, x0, x7, x8 => if x8 < x7 then (if 0 ≤ x8 then (if x8 < (x0.length : Int) then ((QbG.f ((rd_T98 x0 x8).f0) ((rd_T98 x0 x8).f1)).bind fun t149 => (if t149 = T then (some x8) else (Qam.l0 k x0 x7 (wrap64 (x8 + 1))))) else (none)) else (none)) else (some (-1))
def Qam.f (k : Nat) (l0 : List (S98))  : Option (Int) := Qam.l0 k l0 (l0.length : Int) 0
theorem Qam.mono_l : ∀ k, (∀ y0 y1 y2, LeO (Qam.l0 k y0 y1 y2) (Qam.l0 (k + 1) y0 y1 y2))
 | 0 => fun _ _ _ r h => by simp [Qam.l0] at h
 | k + 1 => by
  have ih0 := Qam.mono_l k
  intro y0 y1 y2
  unfold Qam.l0
  exact ZM1 ih0
theorem Qam.mono : ∀ a0 k, LeO (Qam.f k a0) (Qam.f (k + 1) a0) := by
 intro a0 k
 have ih0 := Qam.mono_l k
 unfold Qam.f
 exact ZM1 ih0
set_option maxHeartbeats 8000000 in
theorem Qam.calls (k : Nat) (A0 : Option Addr) (c0 : Nat) (l0 : List (S98))  (r : Int) (w : World) (hr0 : Kd.C k98 w A0 l0.length l0) (hc0 : l0.length ≤ c0) (h : Qam.f k l0 = some r) :
  Calls Try.prog 123 #[.slice A0 l0.length c0, .func (.func 113) #[] #[]] w fun e w' => e = .returned (.int .i64 r) ∧ Below w.heap.size w w' := by
 have hu98 := Try.underlying98
 have HR0 := Aside0.mk hr0
 have HC0 := Aside0.mk hc0
 clear hr0 hc0
 have HB := Aside0.mk (Below.refl w.heap.size w)
 have H : (Qam.l0 k l0 (l0.length : Int) 0) = some r := h
 clear h
 have H' := Aside0.mk H
 clear H
 go_enter Try.func123, Try.ntmps123
 go_wp2
 go_loopg [8] k (fun kq v8 w' => ∃ (x8_1 : Int), v8 = .int .i64 x8_1 ∧ Aside0 (Qam.l0 kq l0 (l0.length : Int) x8_1 = some r) ∧ Aside0 (kq ≤ k) ∧ Aside0 (Below w.heap.size w w'))
 case atStart => exact ⟨(0), (Zs), H', ⟨Nat.le_refl _⟩, ⟨Zb⟩⟩
 case round =>
  clear H'
  try clear p2
  obtain ⟨x8_1, rfl, HA, HK1, HB⟩ := hrel
  cases gk with
  | zero => exact absurd HA.out (by simp [Qam.l0])
  | succ k1 =>
   have H := HA.out
   clear HA
   simp only [Qam.l0] at H
   by_cases c3 : x8_1 < (l0.length : Int)
   ·rw [if_pos c3] at H
    have c3b0 : decide (x8_1 < (l0.length : Int)) = T := decide_eq_true c3
    clear c3
    (try simp only [c3b0])
    by_cases c4 : 0 ≤ x8_1
    ·rw [if_pos c4] at H
     have c4b0 : decide (0 ≤ x8_1) = T := decide_eq_true c4
     clear c4
     by_cases c5 : x8_1 < (l0.length : Int)
     ·rw [if_pos c5] at H
      have c5b0 : decide (x8_1 < (l0.length : Int)) = T := decide_eq_true c5
      clear c5
      replace H := Option.bind_eq_some_iff.mp H
      obtain ⟨t149, A60, H⟩ := H
      replace H : (if t149 = T then (some x8_1) else (Qam.l0 k1 l0 (l0.length : Int) (wrap64 (x8_1 + 1)))) = some r := H
      have A6 := Aside0.mk A60
      clear A60
      have p148 : 0 ≤ (x8_1 : Int) := Ze
      have q148 : x8_1 < (l0.length : Int) := Ze
      obtain ⟨ad148, e148, hx148_0, hx148_1⟩ := at_T98 HR0.out x8_1 p148 q148
      cases e148
      replace hx148_0 := Zx HB.out hx148_0
      replace hx148_1 := Zx HB.out hx148_1
      replace p148 := eq_true p148
      replace q148 := eq_true q148
      go_upto_if 16 with (first | (go_at_call 113; (with_reducible refine (QbG.calls ((rd_T98 l0 x8_1).f0) ((rd_T98 l0 x8_1).f1) t149 _ A6.out).mono ?_); rintro e w7 ⟨rfl, hb⟩; replace HB := Aside0.mk (Qaq (Zb) hb); (try clear hb); (try clear hb2); (try clear hk); (try clear hi)))
      (try simp only [Act.put, Zj, Zk, Zm])
      by_cases c8 : t149 = T
      ·subst c8
       have H1 : (some x8_1) = some r := by rw [if_pos rfl] at H; exact H
       clear H
       have H := H1
       clear H1
       obtain rfl := Option.some.inj H
       go_wp2
       go_ret
       exact ⟨Zq, Zb⟩
      replace c8 := Bool.eq_false_iff.mpr c8
      subst c8
      have H1 : (Qam.l0 k1 l0 (l0.length : Int) (wrap64 (x8_1 + 1))) = some r := by rw [if_neg (show ¬ (F = T) by decide)] at H; exact H
      clear H
      have H := H1
      clear H1
      have H' := Aside0.mk H
      clear H
      go_wp2
      go_roundg k1
      case measure => have := HK1.out; omega
      case rel => exact ⟨(wrap64 (x8_1 + 1)), (Zs), H', ⟨by have := HK1.out; omega⟩, ⟨Zb⟩⟩
     rw [if_neg c5] at H
     exact absurd H (by simp)
    rw [if_neg c4] at H
    exact absurd H (by simp)
   rw [if_neg c3] at H
   have c3b0 : decide (x8_1 < (l0.length : Int)) = F := decide_eq_false c3
   clear c3
   (try simp only [c3b0])
   obtain rfl := Option.some.inj H
   go_wp2
   go_ret
   exact ⟨Zq, Zb⟩
def Qav.f (k : Nat) (l0 : List (S98))  : Option (Bool) := (Qam.f k l0).bind fun t150 => (some (decide (t150 ≥ 0)))
theorem Qav.mono : ∀ a0 k, LeO (Qav.f k a0) (Qav.f (k + 1) a0) := by
 intro a0 k
 unfold Qav.f
 exact ZM1 Qam.mono
set_option maxHeartbeats 8000000 in
theorem Qav.calls (k : Nat) (A0 : Option Addr) (c0 : Nat) (l0 : List (S98))  (r : Bool) (w : World) (hr0 : Kd.C k98 w A0 l0.length l0) (hc0 : l0.length ≤ c0) (h : Qav.f k l0 = some r) :
  Calls Try.prog 110 #[.slice A0 l0.length c0, .func (.func 113) #[] #[]] w fun e w' => e = .returned (.bool r) ∧ Below w.heap.size w w' := by
 have HR0 := Aside0.mk hr0
 have HC0 := Aside0.mk hc0
 clear hr0 hc0
 have HB := Aside0.mk (Below.refl w.heap.size w)
 have H : ((Qam.f k l0).bind fun t150 => (some (decide (t150 ≥ 0)))) = some r := h
 clear h
 replace H := Option.bind_eq_some_iff.mp H
 obtain ⟨t150, A30, H⟩ := H
 replace H : (some (decide (t150 ≥ 0))) = some r := H
 have A3 := Aside0.mk A30
 clear A30
 obtain rfl := Option.some.inj H
 go_enter Try.func110, Try.ntmps110
 go_wp2_with (first | ((with_reducible refine QaA (f := 123) rfl ?_); refine goesL_ (some 7) rfl rfl Try.func123 (by kernel_rfl) rfl #[.slice A0 l0.length c0, .func (.func 113) #[] #[]] rfl (Zl) ?_; (with_reducible refine (Qam.calls k _ _ l0  t150 _ ?side1 ?side2 A3.out).mono ?_); (case side1 => exact Zv HR0.out); (case side2 => exact HC0.out); rintro e w4 ⟨rfl, hb⟩; refine ⟨_, rfl, ?_⟩; replace HB := Aside0.mk (Qaq (Zb) hb); (try clear hb); (try clear hb2); (try clear hk); (try clear hi)))
 go_ret
 exact ⟨Zq, Zb⟩
mutual
def QaJ.j0 : Nat → List (S98) → Bool → Option (Int)
 | 0, _, _ => none
 | k + 1, x0, x14 => if x14 = T then (some 8) else ((Qau.f k x0).bind fun t151 => (if t151 = T then (some 10) else (QaJ.l0 k x0 x0 (x0.length : Int) 0)))
def QaJ.l0 : Nat → List (S98) → List (S98) → Int → Int → Option (Int)
 | 0, _, _, _, _ => none
 | k + 1, x0, x17, x18, x19 => if x19 < x18 then (if 0 ≤ x19 then (if x19 < (x17.length : Int) then ((Qbk.f k x0 ((rd_T98 x17 x19).f0)).bind fun bt154 => (if bt154.1 = x19 then (QaJ.l0 k x0 x17 x18 (wrap64 (x19 + 1))) else (some 12))) else (none)) else (none)) else (if 0 < (x0.length : Int) then (if ((rd_T98 x0 0).f1) = 1000000 then ((Qav.f k x0).bind fun t157 => (if t157 = T then (some 25) else (some 0))) else (some 25)) else (none))
end
def QaJ.f (k : Nat) (l0 : List (S98)) : Option (Int) := if (l0.length : Int) = 0 then (QaJ.j0 k l0 T) else (QaJ.j0 k l0 (decide ((l0.length : Int) > 8)))
theorem QaJ.mono_l : ∀ k, (∀ y0 y1, LeO (QaJ.j0 k y0 y1) (QaJ.j0 (k + 1) y0 y1)) ∧ (∀ y0 y1 y2 y3, LeO (QaJ.l0 k y0 y1 y2 y3) (QaJ.l0 (k + 1) y0 y1 y2 y3))
 | 0 => ⟨fun _ _ r h => by simp [QaJ.j0] at h, fun _ _ _ _ r h => by simp [QaJ.l0] at h⟩
 | k + 1 => by
  obtain ⟨ih0, ih1⟩ := QaJ.mono_l k
  refine ⟨?_, ?_⟩
  ·intro y0 y1
   unfold QaJ.j0
   exact ZM5 ih0 ih1 Qbk.mono Qau.mono Qav.mono
  intro y0 y1 y2 y3
  unfold QaJ.l0
  exact ZM5 ih0 ih1 Qbk.mono Qau.mono Qav.mono
theorem QaJ.mono : ∀ a0 k, LeO (QaJ.f k a0) (QaJ.f (k + 1) a0) := by
 intro a0 k
 obtain ⟨ih0, ih1⟩ := QaJ.mono_l k
 unfold QaJ.f
 exact ZM5 ih0 ih1 Qbk.mono Qau.mono Qav.mono
set_option maxHeartbeats 8000000 in
theorem QaJ.calls (k : Nat) (A0 : Option Addr) (c0 : Nat) (l0 : List (S98)) (r : Int) (w : World) (hr0 : Kd.C k98 w A0 l0.length l0) (hc0 : l0.length ≤ c0) (h : QaJ.f k l0 = some r) :
  Calls Try.prog 79 #[.slice A0 l0.length c0] w fun e w' => e = .returned (.int .i64 r) ∧ Below w.heap.size w w' := by
 have hu98 := Try.underlying98
 have HR0 := Aside0.mk hr0
 have HC0 := Aside0.mk hc0
 clear hr0 hc0
 have HB := Aside0.mk (Below.refl w.heap.size w)
 have H : (if (l0.length : Int) = 0 then (QaJ.j0 k l0 T) else (QaJ.j0 k l0 (decide ((l0.length : Int) > 8)))) = some r := h
 clear h
 have HC2 := Aside0.mk H
 clear H
 go_enter Try.func79, Try.ntmps79
 go_upto_region 1 with (fail)
 go_cut [14] (fun v14 wc => ∃ (kq : Nat) (x14_1 : Bool), v14 = .bool x14_1 ∧ Aside0 (QaJ.j0 kq l0 x14_1 = some r) ∧ Aside0 (kq ≤ k) ∧ Aside0 (Below w.heap.size w wc))
 case first =>
  have H := HC2.out
  clear HC2
  by_cases c3 : (l0.length : Int) = 0
  ·rw [if_pos c3] at H
   have c3b0 : ((l0.length : Int) == 0) = T := beq_iff_eq.mpr c3
   have c3b1 : ((l0.length : Int) != 0) = F := bne_eq_false_iff_eq.mpr c3
   clear c3
   have H' := Aside0.mk H
   clear H
   go_wp2
   go_meet
   case rel => exact ⟨_, (T), (Zs), H', ⟨by first | omega | exact Nat.le_refl _⟩, ⟨Zb⟩⟩
  rw [if_neg c3] at H
  have c3b0 : ((l0.length : Int) == 0) = F := beq_eq_false_iff_ne.mpr c3
  have c3b1 : ((l0.length : Int) != 0) = T := bne_iff_ne.mpr c3
  have c3b2 : ¬ (l0 = []) := fun h_ => c3 (by rw [h_]; rfl)
  have H' := Aside0.mk H
  clear H
  go_wp2
  go_meet
  case rel => exact ⟨_, (decide ((l0.length : Int) > 8)), (Zs), H', ⟨by first | omega | exact Nat.le_refl _⟩, ⟨Zb⟩⟩
 case rest =>
  clear HC2
  try clear p2
  try clear c3
  try clear c3b0
  try clear c3b1
  try clear c3b2
  obtain ⟨kq, x14_1, rfl, HA, HJ1, HB⟩ := hcut
  cases kq with
  | zero => exact absurd HA.out (by simp [QaJ.j0])
  | succ kj1 =>
   have H := HA.out
   clear HA
   simp only [QaJ.j0] at H
   by_cases c4 : x14_1 = T
   ·subst c4
    have H1 : (some 8) = some r := by rw [if_pos rfl] at H; exact H
    clear H
    have H := H1
    clear H1
    obtain rfl := Option.some.inj H
    go_wp2
    go_ret
    exact ⟨Zq, Zb⟩
   replace c4 := Bool.eq_false_iff.mpr c4
   subst c4
   have H1 : ((Qau.f kj1 l0).bind fun t151 => (if t151 = T then (some 10) else (QaJ.l0 kj1 l0 l0 (l0.length : Int) 0))) = some r := by rw [if_neg (show ¬ (F = T) by decide)] at H; exact H
   clear H
   have H := H1
   clear H1
   replace H := Option.bind_eq_some_iff.mp H
   obtain ⟨t151, A50, H⟩ := H
   replace H : (if t151 = T then (some 10) else (QaJ.l0 kj1 l0 l0 (l0.length : Int) 0)) = some r := H
   have A5 := Aside0.mk A50
   clear A50
   go_upto_if 16 with (first | ((with_reducible refine QaA (f := 110) rfl ?_); refine goesL_ (some 16) rfl rfl Try.func110 (by kernel_rfl) rfl #[.slice A0 l0.length c0, .func (.func 111) #[] #[]] rfl (Zl) ?_; (with_reducible refine (Qau.calls kj1 _ _ l0  t151 _ ?side1 ?side2 A5.out).mono ?_); (case side1 => exact Zv (Kd.C_below HR0.out HB.out)); (case side2 => exact HC0.out); rintro e w6 ⟨rfl, hb⟩; refine ⟨_, rfl, ?_⟩; replace HB := Aside0.mk (Qaq (Zb) hb); (try clear hb); (try clear hb2); (try clear hk); (try clear hi)))
   (try simp only [Act.put, Zj, Zk, Zm])
   by_cases c7 : t151 = T
   ·subst c7
    have H1 : (some 10) = some r := by rw [if_pos rfl] at H; exact H
    clear H
    have H := H1
    clear H1
    obtain rfl := Option.some.inj H
    go_wp2
    go_ret
    exact ⟨Zq, Zb⟩
   replace c7 := Bool.eq_false_iff.mpr c7
   subst c7
   have H1 : (QaJ.l0 kj1 l0 l0 (l0.length : Int) 0) = some r := by rw [if_neg (show ¬ (F = T) by decide)] at H; exact H
   clear H
   have H := H1
   clear H1
   have H' := Aside0.mk H
   clear H
   go_wp2
   go_loopg [19] kj1 (fun kq v19 w' => ∃ (x19_2 : Int), v19 = .int .i64 x19_2 ∧ Aside0 (QaJ.l0 kq l0 l0 (l0.length : Int) x19_2 = some r) ∧ Aside0 (kq ≤ kj1) ∧ Aside0 (Below w.heap.size w w'))
   case atStart => exact ⟨(0), (Zs), H', ⟨Nat.le_refl _⟩, ⟨Zb⟩⟩
   case round =>
    clear H'
    try clear p2
    try clear c3
    try clear c3b0
    try clear c3b1
    try clear c3b2
    try clear c4
    try clear c7
    try clear p2
    obtain ⟨x19_2, rfl, HA, HK2, HB⟩ := hrel
    cases gk with
    | zero => exact absurd HA.out (by simp [QaJ.l0])
    | succ k2 =>
     have H := HA.out
     clear HA
     simp only [QaJ.l0] at H
     by_cases c8 : x19_2 < (l0.length : Int)
     ·rw [if_pos c8] at H
      have c8b0 : decide (x19_2 < (l0.length : Int)) = T := decide_eq_true c8
      clear c8
      (try simp only [c8b0])
      by_cases c9 : 0 ≤ x19_2
      ·rw [if_pos c9] at H
       have c9b0 : decide (0 ≤ x19_2) = T := decide_eq_true c9
       clear c9
       by_cases c10 : x19_2 < (l0.length : Int)
       ·rw [if_pos c10] at H
        have c10b0 : decide (x19_2 < (l0.length : Int)) = T := decide_eq_true c10
        clear c10
        replace H := Option.bind_eq_some_iff.mp H
        obtain ⟨⟨t154, t155⟩, A110, H⟩ := H
        replace H : (if t154 = x19_2 then (QaJ.l0 k2 l0 l0 (l0.length : Int) (wrap64 (x19_2 + 1))) else (some 12)) = some r := H
        have A11 := Aside0.mk A110
        clear A110
        have p152 : 0 ≤ (x19_2 : Int) := Ze
        have q152 : x19_2 < (l0.length : Int) := Ze
        obtain ⟨ad152, e152, hx152_0, hx152_1⟩ := at_T98 HR0.out x19_2 p152 q152
        cases e152
        replace hx152_0 := Zx HB.out hx152_0
        replace hx152_1 := Zx HB.out hx152_1
        replace p152 := eq_true p152
        replace q152 := eq_true q152
        go_upto_if 33 with (first | ((with_reducible refine QaE (N := 4) rfl ?_); (try (refine Qa6 (by rfl) ?_; dsimp only)); refine Zbx (N := 4) (cs := #[.string (⟨#[]⟩ : ByteArray), .int .i64 0]) (t := 98) ?_; intro gb153 hg w12 hbox hb; have BK153 := Aside0.mk (hbox); have GW153 := Aside0.mk (Zt w hg (Zb)); have GE153 := GW153; replace HB := Aside0.mk (Qaq (Zb) hb); clear hb hbox hg; obtain ⟨hcz13_0, hfz13_0⟩ := Zy (v := (.string (⟨#[]⟩ : ByteArray))) BK153.out 0; obtain ⟨hcz13_1, hfz13_1⟩ := Zy (v := (.int .i64 0)) BK153.out 1) | ((with_reducible refine QaA (f := 112) rfl ?_); refine goesL_ (some 28) rfl rfl Try.func112 (by kernel_rfl) rfl #[.slice (some ad152) l0.length c0, .string ((rd_T98 l0 x19_2).f0)] rfl (Zl) ?_; (with_reducible refine (Qbk.calls k2 _ _ l0 ((rd_T98 l0 x19_2).f0) t154 t155 _ ?side1 ?side2 A11.out).mono ?_); (case side1 => exact Kd.C_below HR0.out (Zc1 GE153.out)); (case side2 => exact HC0.out); rintro e w14 ⟨rfl, hb⟩; refine ⟨_, rfl, ?_⟩; replace BK153 := Aside0.mk (Zpi #[.string ((rd_T98 l0 x19_2).f0), .int .i64 ((rd_T98 l0 x19_2).f1)] BK153.out hb); replace HB := Aside0.mk (Qaq (Zc1 GE153.out) hb); (try clear hb); (try clear hb2); (try clear hk); (try clear hi)))
        (try simp only [Act.put, Zj, Zk, Zm])
        by_cases c15 : t154 = x19_2
        ·rw [if_pos c15] at H
         have c15b0 : (t154 == x19_2) = T := beq_iff_eq.mpr c15
         have c15b1 : (t154 != x19_2) = F := bne_eq_false_iff_eq.mpr c15
         clear c15
         (try simp only [c15b0, c15b1])
         have H' := Aside0.mk H
         clear H
         go_wp2
         go_roundg k2
         case measure => have := HJ1.out; have := HK2.out; omega
         case rel => exact ⟨(wrap64 (x19_2 + 1)), (Zs), H', ⟨by have := HJ1.out; have := HK2.out; omega⟩, ⟨Zc1 GE153.out⟩⟩
        rw [if_neg c15] at H
        have c15b0 : (t154 == x19_2) = F := beq_eq_false_iff_ne.mpr c15
        have c15b1 : (t154 != x19_2) = T := bne_iff_ne.mpr c15
        (try simp only [c15b0, c15b1])
        obtain rfl := Option.some.inj H
        go_wp2
        go_ret
        exact ⟨Zq, Zc1 GE153.out⟩
       rw [if_neg c10] at H
       exact absurd H (by simp)
      rw [if_neg c9] at H
      exact absurd H (by simp)
     rw [if_neg c8] at H
     have c8b0 : decide (x19_2 < (l0.length : Int)) = F := decide_eq_false c8
     clear c8
     (try simp only [c8b0])
     by_cases c16 : 0 < (l0.length : Int)
     ·rw [if_pos c16] at H
      have c16b0 : decide (0 < (l0.length : Int)) = T := decide_eq_true c16
      have c16b1 : decide (0 < l0.length) = T := decide_eq_true (by omega)
      clear c16
      by_cases c17 : ((rd_T98 l0 0).f1) = 1000000
      ·rw [if_pos c17] at H
       have c17b0 : (((rd_T98 l0 0).f1) == 1000000) = T := beq_iff_eq.mpr c17
       have c17b1 : (((rd_T98 l0 0).f1) != 1000000) = F := bne_eq_false_iff_eq.mpr c17
       clear c17
       replace H := Option.bind_eq_some_iff.mp H
       obtain ⟨t157, A180, H⟩ := H
       replace H : (if t157 = T then (some 25) else (some 0)) = some r := H
       have A18 := Aside0.mk A180
       clear A180
       have p156 : 0 ≤ (0 : Int) := (by omega)
       have q156 : 0 < (l0.length : Int) := Ze
       obtain ⟨ad156, e156, hx156_0, hx156_1⟩ := at_T98 HR0.out 0 p156 q156
       cases e156
       have qi156 : (0 < l0.length) = True := eq_true (by omega)
       (try rw [show ((0 : Int)).toNat = 0 from rfl] at hx156_0)
       (try rw [show 0 * 2 = 0 from rfl] at hx156_0)
       (try rw [Addr.add_zero'] at hx156_0)
       (try rw [show ((0 : Int)).toNat = 0 from rfl] at hx156_1)
       (try rw [show 0 * 2 = 0 from rfl] at hx156_1)
       (try rw [Addr.add_zero'] at hx156_1)
       replace hx156_0 := Zx HB.out hx156_0
       replace hx156_1 := Zx HB.out hx156_1
       replace p156 := eq_true p156
       replace q156 := eq_true q156
       go_upto_if 43 with (first | (go_at_call 110; (with_reducible refine (Qav.calls k2 _ _ l0  t157 _ ?side1 ?side2 A18.out).mono ?_); (case side1 => exact Zv (Kd.C_below HR0.out HB.out)); (case side2 => exact HC0.out); rintro e w19 ⟨rfl, hb⟩; replace HB := Aside0.mk (Qaq (Zb) hb); (try clear hb); (try clear hb2); (try clear hk); (try clear hi)))
       (try simp only [Act.put, Zj, Zk, Zm])
       by_cases c20 : t157 = T
       ·subst c20
        have H1 : (some 25) = some r := by rw [if_pos rfl] at H; exact H
        clear H
        have H := H1
        clear H1
        obtain rfl := Option.some.inj H
        go_wp2
        go_ret
        exact ⟨Zq, Zb⟩
       replace c20 := Bool.eq_false_iff.mpr c20
       subst c20
       have H1 : (some 0) = some r := by rw [if_neg (show ¬ (F = T) by decide)] at H; exact H
       clear H
       have H := H1
       clear H1
       obtain rfl := Option.some.inj H
       go_wp2
       go_ret
       exact ⟨Zq, Zb⟩
      rw [if_neg c17] at H
      have c17b0 : (((rd_T98 l0 0).f1) == 1000000) = F := beq_eq_false_iff_ne.mpr c17
      have c17b1 : (((rd_T98 l0 0).f1) != 1000000) = T := bne_iff_ne.mpr c17
      obtain rfl := Option.some.inj H
      have p156 : 0 ≤ (0 : Int) := (by omega)
      have q156 : 0 < (l0.length : Int) := Ze
      obtain ⟨ad156, e156, hx156_0, hx156_1⟩ := at_T98 HR0.out 0 p156 q156
      cases e156
      have qi156 : (0 < l0.length) = True := eq_true (by omega)
      (try rw [show ((0 : Int)).toNat = 0 from rfl] at hx156_0)
      (try rw [show 0 * 2 = 0 from rfl] at hx156_0)
      (try rw [Addr.add_zero'] at hx156_0)
      (try rw [show ((0 : Int)).toNat = 0 from rfl] at hx156_1)
      (try rw [show 0 * 2 = 0 from rfl] at hx156_1)
      (try rw [Addr.add_zero'] at hx156_1)
      replace hx156_0 := Zx HB.out hx156_0
      replace hx156_1 := Zx HB.out hx156_1
      replace p156 := eq_true p156
      replace q156 := eq_true q156
      go_wp2
      go_ret
      exact ⟨Zq, Zb⟩
     rw [if_neg c16] at H
     exact absurd H (by simp)
def Qa3.f (k : Nat) (l0 : List (S98)) (a1 : Int) (a2 : Int) (a3 : Int) (a4 : Int) : Option (Int × Int) := (QaJ.f k l0).bind fun t158 => (if t158 = 0 then (if a2 < 0 then (some (0, 25)) else (if a2 ≥ (l0.length : Int) then (some (0, 25)) else (if a3 < 0 then (some (0, 25)) else (if a3 ≥ (l0.length : Int) then (some (0, 25)) else (if 0 ≤ a2 then (if a2 < (l0.length : Int) then (if 0 ≤ a3 then (if a3 < (l0.length : Int) then ((QaC.f a1 ((rd_T98 l0 a2).f1) ((rd_T98 l0 a3).f1) a4).bind fun bt161 => (some (bt161.1, bt161.2))) else (none)) else (none)) else (none)) else (none)))))) else (some (0, t158)))
theorem Qa3.mono : ∀ a0 a1 a2 a3 a4 k, LeO (Qa3.f k a0 a1 a2 a3 a4) (Qa3.f (k + 1) a0 a1 a2 a3 a4) := by
 intro a0 a1 a2 a3 a4 k
 unfold Qa3.f
 exact ZM1 QaJ.mono
def Qa3.T6 : Bool × List (List Nat × List Nat) := (T, [([], []), ([], []), ([], []), ([1, 2], [1, 2]), ([3], [3]), ([4], [4]), ([], []), ([], []), ([6, 7], [6, 7]), ([8], [8]), ([9], [9]), ([], []), ([0, 5, 10, 11], [0, 5, 10, 11]), ([12], [12]), ([12], [12]), ([13, 12, 0, 1, 2, 3, 4, 5, 6, 7, 8, 9, 10, 11, 12, 13, 14], [13]), ([14, 15, 0, 1, 2, 3, 4, 5, 6, 7, 8, 9, 10, 11, 12, 13, 14, 15], [14])])
def Qa3.B6 : List Nat := [0, 0, 0, 6, 14, 30, 0, 0, 192, 448, 960, 0, 4095, 8191, 8191, 32767, 65535]
theorem Qa3.tab6 : rtab .any (opsOf Try.f126 6) = Qa3.T6 := by kernel_rfl
theorem Qa3.bits6 : QbJ Qa3.T6.2 Qa3.B6 = T := by kernel_rfl
set_option maxHeartbeats 8000000 in
theorem Qa3.calls (k : Nat) (A0 : Option Addr) (c0 : Nat) (l0 : List (S98)) (a1 : Int) (a2 : Int) (a3 : Int) (a4 : Int) (r1 : Int) (r2 : Int) (w : World) (hr0 : Kd.C k98 w A0 l0.length l0) (hc0 : l0.length ≤ c0) (h : Qa3.f k l0 a1 a2 a3 a4 = some (r1, r2)) :
  Calls Try.prog 126 #[.slice A0 l0.length c0, .int .i64 a1, .int .i64 a2, .int .i64 a3, .int .i64 a4] w fun e w' => e = .returned (.tuple #[.int .i64 r1, .int .i64 r2]) ∧ Below w.heap.size w w' := by
 have HR0 := Aside0.mk hr0
 have HC0 := Aside0.mk hc0
 clear hr0 hc0
 have HB := Aside0.mk (Below.refl w.heap.size w)
 have H : ((QaJ.f k l0).bind fun t158 => (if t158 = 0 then (if a2 < 0 then (some (0, 25)) else (if a2 ≥ (l0.length : Int) then (some (0, 25)) else (if a3 < 0 then (some (0, 25)) else (if a3 ≥ (l0.length : Int) then (some (0, 25)) else (if 0 ≤ a2 then (if a2 < (l0.length : Int) then (if 0 ≤ a3 then (if a3 < (l0.length : Int) then ((QaC.f a1 ((rd_T98 l0 a2).f1) ((rd_T98 l0 a3).f1) a4).bind fun bt161 => (some (bt161.1, bt161.2))) else (none)) else (none)) else (none)) else (none)))))) else (some (0, t158)))) = some (r1, r2) := h
 clear h
 replace H := Option.bind_eq_some_iff.mp H
 obtain ⟨t158, A60, H⟩ := H
 replace H : (if t158 = 0 then (if a2 < 0 then (some (0, 25)) else (if a2 ≥ (l0.length : Int) then (some (0, 25)) else (if a3 < 0 then (some (0, 25)) else (if a3 ≥ (l0.length : Int) then (some (0, 25)) else (if 0 ≤ a2 then (if a2 < (l0.length : Int) then (if 0 ≤ a3 then (if a3 < (l0.length : Int) then ((QaC.f a1 ((rd_T98 l0 a2).f1) ((rd_T98 l0 a3).f1) a4).bind fun bt161 => (some (bt161.1, bt161.2))) else (none)) else (none)) else (none)) else (none)))))) else (some (0, t158))) = some (r1, r2) := H
 have A6 := Aside0.mk A60
 clear A60
 go_enter Try.func126, Try.ntmps126
 go_upto_if 15 with (first | ((with_reducible refine QaA (f := 79) rfl ?_); refine goesL_ (some 13) rfl rfl Try.func79 (by kernel_rfl) rfl #[.slice A0 l0.length c0] rfl (Zl) ?_; (with_reducible refine (QaJ.calls k _ _ l0 t158 _ ?side1 ?side2 A6.out).mono ?_); (case side1 => exact Zv HR0.out); (case side2 => exact HC0.out); rintro e w7 ⟨rfl, hb⟩; refine ⟨_, rfl, ?_⟩; replace HB := Aside0.mk (Qaq (Zb) hb); (try clear hb); (try clear hb2); (try clear hk); (try clear hi)))
 (try simp only [Act.put, Zj, Zk, Zm])
 by_cases c8 : t158 = 0
 ·rw [if_pos c8] at H
  have c8b0 : (t158 == 0) = T := beq_iff_eq.mpr c8
  have c8b1 : (t158 != 0) = F := bne_eq_false_iff_eq.mpr c8
  clear c8
  (try simp only [c8b0, c8b1])
  by_cases c9 : a2 < 0
  ·rw [if_pos c9] at H
   have c9b0 : decide (a2 < 0) = T := decide_eq_true c9
   clear c9
   simp only [Option.some.injEq, Prod.mk.injEq] at H
   obtain ⟨rfl, rfl⟩ := H
   go_wp2
   go_ret2
   exact ⟨Zq, Zb⟩
  rw [if_neg c9] at H
  have c9b0 : decide (a2 < 0) = F := decide_eq_false c9
  clear c9
  by_cases c10 : a2 ≥ (l0.length : Int)
  ·rw [if_pos c10] at H
   have c10b0 : decide ((l0.length : Int) ≤ a2) = T := decide_eq_true c10
   clear c10
   simp only [Option.some.injEq, Prod.mk.injEq] at H
   obtain ⟨rfl, rfl⟩ := H
   go_wp2
   go_ret2
   exact ⟨Zq, Zb⟩
  rw [if_neg c10] at H
  have c10b0 : decide ((l0.length : Int) ≤ a2) = F := decide_eq_false c10
  clear c10
  by_cases c11 : a3 < 0
  ·rw [if_pos c11] at H
   have c11b0 : decide (a3 < 0) = T := decide_eq_true c11
   clear c11
   simp only [Option.some.injEq, Prod.mk.injEq] at H
   obtain ⟨rfl, rfl⟩ := H
   go_wp2
   go_ret2
   exact ⟨Zq, Zb⟩
  rw [if_neg c11] at H
  have c11b0 : decide (a3 < 0) = F := decide_eq_false c11
  clear c11
  by_cases c12 : a3 ≥ (l0.length : Int)
  ·rw [if_pos c12] at H
   have c12b0 : decide ((l0.length : Int) ≤ a3) = T := decide_eq_true c12
   clear c12
   (try simp only [c12b0])
   simp only [Option.some.injEq, Prod.mk.injEq] at H
   obtain ⟨rfl, rfl⟩ := H
   go_wp2
   go_ret2
   exact ⟨Zq, Zb⟩
  rw [if_neg c12] at H
  have c12b0 : decide ((l0.length : Int) ≤ a3) = F := decide_eq_false c12
  clear c12
  (try simp only [c12b0])
  by_cases c13 : 0 ≤ a2
  ·rw [if_pos c13] at H
   have c13b0 : decide (0 ≤ a2) = T := decide_eq_true c13
   clear c13
   by_cases c14 : a2 < (l0.length : Int)
   ·rw [if_pos c14] at H
    have c14b0 : decide (a2 < (l0.length : Int)) = T := decide_eq_true c14
    clear c14
    by_cases c15 : 0 ≤ a3
    ·rw [if_pos c15] at H
     have c15b0 : decide (0 ≤ a3) = T := decide_eq_true c15
     clear c15
     by_cases c16 : a3 < (l0.length : Int)
     ·rw [if_pos c16] at H
      have c16b0 : decide (a3 < (l0.length : Int)) = T := decide_eq_true c16
      clear c16
      replace H := Option.bind_eq_some_iff.mp H
      obtain ⟨⟨t161, t162⟩, A170, H⟩ := H
      replace H : (some (t161, t162)) = some (r1, r2) := H
      have A17 := Aside0.mk A170
      clear A170
      simp only [Option.some.injEq, Prod.mk.injEq] at H
      obtain ⟨rfl, rfl⟩ := H
      try go_wp2
      replace HB := Aside0.mk (Qag HB.out)
      have p159 : 0 ≤ (a2 : Int) := Ze
      have q159 : a2 < (l0.length : Int) := Ze
      obtain ⟨ad159, e159, hx159_0, hx159_1⟩ := at_T98 HR0.out a2 p159 q159
      have hw159_1 := hx159_1
      have hw159_0 := hx159_0
      cases e159
      replace hx159_0 := Zx HB.out hx159_0
      replace hx159_1 := Zx HB.out hx159_1
      replace p159 := eq_true p159
      replace q159 := eq_true q159
      have p160 : 0 ≤ (a3 : Int) := Ze
      have q160 : a3 < (l0.length : Int) := Ze
      obtain ⟨ad160, e160, hx160_0, hx160_1⟩ := at_T98 HR0.out a3 p160 q160
      have hw160_1 := hx160_1
      have hw160_0 := hx160_0
      obtain rfl : ad159 = ad160 := (by injection e160)
      replace hx160_0 := Zx HB.out hx160_0
      replace hx160_1 := Zx HB.out hx160_1
      replace p160 := eq_true p160
      replace q160 := eq_true q160
      refine start_ (n := 17) (S := fun w' => w'.cell? (ad159.add ((a2).toNat * 2)) = some (.string ((rd_T98 l0 a2).f0)) ∧ w'.cell? ⟨(ad159.add ((a2).toNat * 2)).block, (ad159.add ((a2).toNat * 2)).off + 1, none⟩ = some (.int .i64 ((rd_T98 l0 a2).f1)) ∧ w'.cell? (ad159.add ((a3).toNat * 2)) = some (.string ((rd_T98 l0 a3).f0)) ∧ w'.cell? ⟨(ad159.add ((a3).toNat * 2)).block, (ad159.add ((a3).toNat * 2)).off + 1, none⟩ = some (.int .i64 ((rd_T98 l0 a3).f1))) (ds := []) #[F, F, F, F, F, F, F, F, F, F, F, F, F, F, F, F, F] (by kernel_rfl) rfl rfl ⟨((HB.out.cell (World.block_lt_of_cell? w _ hw159_0)).trans hw159_0), ((HB.out.cell (World.block_lt_of_cell? w _ hw159_1)).trans hw159_1), ((HB.out.cell (World.block_lt_of_cell? w _ hw160_0)).trans hw160_0), ((HB.out.cell (World.block_lt_of_cell? w _ hw160_1)).trans hw160_1)⟩ (fun hHeld => ?_); refine Qbt Qa3.tab6 Qa3.bits6 (fun HT_ HW_ => ?_)
      generalize w7.drew = w18 at HB hx159_0 hx159_1 hx160_0 hx160_1 hHeld ⊢
      refine pure_ (i := 0) (N := some 35) (v := ?_) (a' := ?_) #[T, F, F, F, F, F, F, F, F, F, F, F, F, F, F, F, F] rfl rfl (any_of HT_.out (by kernel_rfl)) (fun _ _ _ h => h) (Or.inl ⟨by rfl, ?_⟩) ?_ ?_
      rotate_left
      ·intro w'
       go_simp
       with_reducible rfl
      rotate_left
      ·simp only [Act.put, Zj, Zk, Zm, i64_w, i32_w]
       rfl
      refine pure_ (i := 1) (N := some 36) (v := ?_) (a' := ?_) #[T, T, F, F, F, F, F, F, F, F, F, F, F, F, F, F, F] rfl rfl (any_of HT_.out (by kernel_rfl)) (fun _ _ _ h => h) (Or.inl ⟨by rfl, ?_⟩) ?_ ?_
      rotate_left
      ·intro w'
       go_simp
       with_reducible rfl
      rotate_left
      ·simp only [Act.put, Zj, Zk, Zm, i64_w, i32_w]
       rfl
      refine pure_ (i := 2) (N := some 37) (v := ?_) (a' := ?_) #[T, T, T, F, F, F, F, F, F, F, F, F, F, F, F, F, F] rfl rfl (any_of HT_.out (by kernel_rfl)) (fun _ _ _ h => h) (Or.inl ⟨by rfl, ?_⟩) ?_ ?_
      rotate_left
      ·intro w'
       go_simp
       with_reducible rfl
      rotate_left
      ·simp only [Act.put, Zj, Zk, Zm, i64_w, i32_w]
       rfl
      refine pure_ (i := 3) (N := some 38) (v := ?_) (a' := ?_) #[T, T, T, T, F, F, F, F, F, F, F, F, F, F, F, F, F] rfl rfl (any_of HT_.out (by kernel_rfl)) (fun _ _ _ h => h) (Or.inl ⟨by rfl, ?_⟩) ?_ ?_
      rotate_left
      ·intro w'
       go_simp
       with_reducible rfl
      rotate_left
      ·simp only [Act.put, Zj, Zk, Zm, i64_w, i32_w]
       rfl
      refine pure_ (i := 4) (N := some 39) (v := ?_) (a' := ?_) #[T, T, T, T, T, F, F, F, F, F, F, F, F, F, F, F, F] rfl rfl (any_of HT_.out (by kernel_rfl)) (fun _ _ _ h => h) (Or.inl ⟨by rfl, ?_⟩) ?_ ?_
      rotate_left
      ·intro w'
       go_simp
       with_reducible rfl
      rotate_left
      ·simp only [Act.put, Zj, Zk, Zm, i64_w, i32_w]
       rfl
      refine pure_ (i := 6) (N := some 41) (v := ?_) (a' := ?_) #[T, T, T, T, T, F, T, F, F, F, F, F, F, F, F, F, F] rfl rfl (any_of HT_.out (by kernel_rfl)) (fun _ _ _ h => h) (Or.inl ⟨by rfl, ?_⟩) ?_ ?_
      rotate_left
      ·intro w'
       go_simp
       with_reducible rfl
      rotate_left
      ·simp only [Act.put, Zj, Zk, Zm, i64_w, i32_w]
       rfl
      refine pure_ (i := 7) (N := some 42) (v := ?_) (a' := ?_) #[T, T, T, T, T, F, T, T, F, F, F, F, F, F, F, F, F] rfl rfl (any_of HT_.out (by kernel_rfl)) (fun _ _ _ h => h) (Or.inl ⟨by rfl, ?_⟩) ?_ ?_
      rotate_left
      ·intro w'
       go_simp
       with_reducible rfl
      rotate_left
      ·simp only [Act.put, Zj, Zk, Zm, i64_w, i32_w]
       rfl
      refine pure_ (i := 8) (N := some 43) (v := ?_) (a' := ?_) #[T, T, T, T, T, F, T, T, T, F, F, F, F, F, F, F, F] rfl rfl (any_of HT_.out (by kernel_rfl)) (fun _ _ _ h => h) (Or.inl ⟨by rfl, ?_⟩) ?_ ?_
      rotate_left
      ·intro w'
       go_simp
       with_reducible rfl
      rotate_left
      ·simp only [Act.put, Zj, Zk, Zm, i64_w, i32_w]
       rfl
      refine pure_ (i := 9) (N := some 44) (v := ?_) (a' := ?_) #[T, T, T, T, T, F, T, T, T, T, F, F, F, F, F, F, F] rfl rfl (any_of HT_.out (by kernel_rfl)) (fun _ _ _ h => h) (Or.inl ⟨by rfl, ?_⟩) ?_ ?_
      rotate_left
      ·intro w'
       go_simp
       with_reducible rfl
      rotate_left
      ·simp only [Act.put, Zj, Zk, Zm, i64_w, i32_w]
       rfl
      refine pure_ (i := 11) (N := some 46) (v := ?_) (a' := ?_) #[T, T, T, T, T, F, T, T, T, T, F, T, F, F, F, F, F] rfl rfl (any_of HT_.out (by kernel_rfl)) (fun _ _ _ h => h) (Or.inl ⟨by rfl, ?_⟩) ?_ ?_
      rotate_left
      ·intro w'
       go_simp
       with_reducible rfl
      rotate_left
      ·simp only [Act.put, Zj, Zk, Zm, i64_w, i32_w]
       rfl
      refine take_ (i := 5) (N := some 40) (v := ?_) (a' := ?_) #[T, T, T, T, T, T, T, T, T, T, F, T, F, F, F, F, F] rfl rfl (QaF HT_.out HW_.out (by kernel_rfl)) (fun _ _ _ h => h) (Or.inl ⟨by rfl, ?_⟩) hHeld ?_ ?_
      rotate_left
      ·rintro w' ⟨s0, s1, s2, s3⟩
       go_simp
       with_reducible rfl
      rotate_left
      ·simp only [Act.put, Zj, Zk, Zm, i64_w, i32_w]
       rfl
      refine take_ (i := 10) (N := some 45) (v := ?_) (a' := ?_) #[T, T, T, T, T, T, T, T, T, T, T, T, F, F, F, F, F] rfl rfl (QaF HT_.out HW_.out (by kernel_rfl)) (fun _ _ _ h => h) (Or.inl ⟨by rfl, ?_⟩) hHeld ?_ ?_
      rotate_left
      ·rintro w' ⟨s0, s1, s2, s3⟩
       go_simp
       with_reducible rfl
      rotate_left
      ·simp only [Act.put, Zj, Zk, Zm, i64_w, i32_w]
       rfl
      refine one_ (i := 12) (N := some 47) #[T, T, T, T, T, T, T, T, T, T, T, T, T, F, F, F, F] rfl rfl (one_of HT_.out (by kernel_rfl)) (by decide) (fun K hK => ?_)
      refine goes_ Try.func57 (by kernel_rfl) rfl #[.int .i64 a1, .int .i64 ((rd_T98 l0 a2).f1), .int .i64 ((rd_T98 l0 a3).f1), .int .i64 a4] (by rfl) rfl rfl (Zl) ?_
      with_reducible refine (QaC.calls a1 ((rd_T98 l0 a2).f1) ((rd_T98 l0 a3).f1) a4 t161 t162 _ A17.out).mono ?_
      rintro e w19 ⟨rfl, hb⟩
      refine ⟨_, rfl, ?_⟩
      replace HB := Aside0.mk (Qaq (Zb) hb)
      (try clear hb)
      (try clear hb2)
      (try clear hk)
      (try clear hi)
      refine hK.out _ _ ⟨((HB.out.cell (World.block_lt_of_cell? w _ hw159_0)).trans hw159_0), ((HB.out.cell (World.block_lt_of_cell? w _ hw159_1)).trans hw159_1), ((HB.out.cell (World.block_lt_of_cell? w _ hw160_0)).trans hw160_0), ((HB.out.cell (World.block_lt_of_cell? w _ hw160_1)).trans hw160_1)⟩ (fun hHeld => ?_)
      clear hK K
      refine norm_ (a' := ?_) ?_ ?_
      rotate_left
      ·show Act.put _ (some 47) _ = _
       simp only [Act.put, Zj, Zk, Zm, i64_w, i32_w]
       rfl
      refine pure_ (i := 13) (N := some 48) (v := ?_) (a' := ?_) #[T, T, T, T, T, T, T, T, T, T, T, T, T, T, F, F, F] rfl rfl (any_of HT_.out (by kernel_rfl)) (fun _ _ _ h => h) (Or.inl ⟨by rfl, ?_⟩) ?_ ?_
      rotate_left
      ·intro w'
       go_simp
       with_reducible rfl
      rotate_left
      ·simp only [Act.put, Zj, Zk, Zm, i64_w, i32_w]
       rfl
      refine pure_ (i := 14) (N := some 49) (v := ?_) (a' := ?_) #[T, T, T, T, T, T, T, T, T, T, T, T, T, T, T, F, F] rfl rfl (any_of HT_.out (by kernel_rfl)) (fun _ _ _ h => h) (Or.inl ⟨by rfl, ?_⟩) ?_ ?_
      rotate_left
      ·intro w'
       go_simp
       with_reducible rfl
      rotate_left
      ·simp only [Act.put, Zj, Zk, Zm, i64_w, i32_w]
       rfl
      refine pure_ (i := 15) (N := some 10) (v := ?_) (a' := ?_) #[T, T, T, T, T, T, T, T, T, T, T, T, T, T, T, T, F] rfl rfl (any_of HT_.out (by kernel_rfl)) (fun _ _ _ h => h) (Or.inl ⟨by rfl, ?_⟩) ?_ ?_
      rotate_left
      ·intro w'
       go_simp
       with_reducible rfl
      rotate_left
      ·simp only [Act.put, Zj, Zk, Zm, i64_w, i32_w]
       rfl
      refine pure_ (i := 16) (N := some 11) (v := ?_) (a' := ?_) #[T, T, T, T, T, T, T, T, T, T, T, T, T, T, T, T, T] rfl rfl (any_of HT_.out (by kernel_rfl)) (fun _ _ _ h => h) (Or.inl ⟨by rfl, ?_⟩) ?_ ?_
      rotate_left
      ·intro w'
       go_simp
       with_reducible rfl
      rotate_left
      ·simp only [Act.put, Zj, Zk, Zm, i64_w, i32_w]
       rfl
      refine done_ (QbC HT_.out (by kernel_rfl)) ?_
      try go_wp2
      go_ret2
      exact ⟨Zq, Zb⟩
     rw [if_neg c16] at H
     exact absurd H (by simp)
    rw [if_neg c15] at H
    exact absurd H (by simp)
   rw [if_neg c14] at H
   exact absurd H (by simp)
  rw [if_neg c13] at H
  exact absurd H (by simp)
 rw [if_neg c8] at H
 have c8b0 : (t158 == 0) = F := beq_eq_false_iff_ne.mpr c8
 have c8b1 : (t158 != 0) = T := bne_iff_ne.mpr c8
 (try simp only [c8b0, c8b1])
 simp only [Option.some.injEq, Prod.mk.injEq] at H
 obtain ⟨rfl, rfl⟩ := H
 go_wp2
 go_ret2
 exact ⟨Zq, Zb⟩
def Qbn.f (k : Nat) (l0 : List (S98)) (a1 : Int) (a2 : Int) (a3 : Int) : Option (Int × Int) := (Qa3.f k l0 a1 a2 0 a3).bind fun bt163 => (some (bt163.1, bt163.2))
theorem Qbn.mono : ∀ a0 a1 a2 a3 k, LeO (Qbn.f k a0 a1 a2 a3) (Qbn.f (k + 1) a0 a1 a2 a3) := by
 intro a0 a1 a2 a3 k
 unfold Qbn.f
 exact ZM1 Qa3.mono
set_option maxHeartbeats 8000000 in
theorem Qbn.calls (k : Nat) (A0 : Option Addr) (c0 : Nat) (l0 : List (S98)) (a1 : Int) (a2 : Int) (a3 : Int) (r1 : Int) (r2 : Int) (w : World) (hr0 : Kd.C k98 w A0 l0.length l0) (hc0 : l0.length ≤ c0) (h : Qbn.f k l0 a1 a2 a3 = some (r1, r2)) :
  Calls Try.prog 115 #[.slice A0 l0.length c0, .int .i64 a1, .int .i64 a2, .int .i64 a3] w fun e w' => e = .returned (.tuple #[.int .i64 r1, .int .i64 r2]) ∧ Below w.heap.size w w' := by
 have HR0 := Aside0.mk hr0
 have HC0 := Aside0.mk hc0
 clear hr0 hc0
 have HB := Aside0.mk (Below.refl w.heap.size w)
 have H : ((Qa3.f k l0 a1 a2 0 a3).bind fun bt163 => (some (bt163.1, bt163.2))) = some (r1, r2) := h
 clear h
 replace H := Option.bind_eq_some_iff.mp H
 obtain ⟨⟨t163, t164⟩, A50, H⟩ := H
 replace H : (some (t163, t164)) = some (r1, r2) := H
 have A5 := Aside0.mk A50
 clear A50
 simp only [Option.some.injEq, Prod.mk.injEq] at H
 obtain ⟨rfl, rfl⟩ := H
 go_enter Try.func115, Try.ntmps115
 go_wp2_with (first | ((with_reducible refine QaA (f := 126) rfl ?_); refine goesL_ (some 14) rfl rfl Try.func126 (by kernel_rfl) rfl #[.slice A0 l0.length c0, .int .i64 a1, .int .i64 a2, .int .i64 0, .int .i64 a3] rfl (Zl) ?_; (with_reducible refine (Qa3.calls k _ _ l0 a1 a2 0 a3 t163 t164 _ ?side1 ?side2 A5.out).mono ?_); (case side1 => exact Zv HR0.out); (case side2 => exact HC0.out); rintro e w6 ⟨rfl, hb⟩; refine ⟨_, rfl, ?_⟩; replace HB := Aside0.mk (Qaq (Zb) hb); (try clear hb); (try clear hb2); (try clear hk); (try clear hi)))
 go_ret2
 exact ⟨Zq, Zb⟩
def Qa0.f (k : Nat) (a0_0 : ByteArray) (a0_1 : Int) (a0_2 : Int) (a0_3 : Int) (a0_4 : Int) (a0_5 : Int) (a1 : Int) (l2 : List (S98)) : Option (Int × Int) := (Qbh.f k a0_0 a0_1 a0_2 a0_3 a0_4 a0_5 a1).bind fun bt166 => (if bt166.2 = 0 then ((Qbn.f k l2 bt166.1 a0_2 3).bind fun bt168 => (if bt168.2 = 0 then ((QaC.f bt168.1 (wrap64 (1000 - a0_4)) 1000 3).bind fun bt170 => (some (bt170.1, bt170.2))) else (some (0, bt168.2)))) else (some (0, bt166.2)))
theorem Qa0.mono : ∀ a0 a1 a2 a3 a4 a5 a6 a7 k, LeO (Qa0.f k a0 a1 a2 a3 a4 a5 a6 a7) (Qa0.f (k + 1) a0 a1 a2 a3 a4 a5 a6 a7) := by
 intro a0 a1 a2 a3 a4 a5 a6 a7 k
 unfold Qa0.f
 exact ZM2 Qbh.mono Qbn.mono
set_option maxHeartbeats 8000000 in
theorem Qa0.calls (k : Nat) (a0_0 : ByteArray) (a0_1 : Int) (a0_2 : Int) (a0_3 : Int) (a0_4 : Int) (a0_5 : Int) (a1 : Int) (A2 : Option Addr) (c2 : Nat) (l2 : List (S98)) (r1 : Int) (r2 : Int) (w : World) (hr2 : Kd.C k98 w A2 l2.length l2) (hc2 : l2.length ≤ c2) (h : Qa0.f k a0_0 a0_1 a0_2 a0_3 a0_4 a0_5 a1 l2 = some (r1, r2)) :
  Calls Try.prog 82 #[.agg #[.string a0_0, .int .i64 a0_1, .int .i64 a0_2, .int .i64 a0_3, .int .i64 a0_4, .int .i64 a0_5], .int .i64 a1, .slice A2 l2.length c2] w fun e w' => e = .returned (.tuple #[.int .i64 r1, .int .i64 r2]) ∧ Below w.heap.size w w' := by
 have hu84 := Try.underlying84
 have HR2 := Aside0.mk hr2
 have HC2 := Aside0.mk hc2
 clear hr2 hc2
 have HB := Aside0.mk (Below.refl w.heap.size w)
 have H : ((Qbh.f k a0_0 a0_1 a0_2 a0_3 a0_4 a0_5 a1).bind fun bt166 => (if bt166.2 = 0 then ((Qbn.f k l2 bt166.1 a0_2 3).bind fun bt168 => (if bt168.2 = 0 then ((QaC.f bt168.1 (wrap64 (1000 - a0_4)) 1000 3).bind fun bt170 => (some (bt170.1, bt170.2))) else (some (0, bt168.2)))) else (some (0, bt166.2)))) = some (r1, r2) := h
 clear h
 replace H := Option.bind_eq_some_iff.mp H
 obtain ⟨⟨t166, t167⟩, A40, H⟩ := H
 replace H : (if t167 = 0 then ((Qbn.f k l2 t166 a0_2 3).bind fun bt168 => (if bt168.2 = 0 then ((QaC.f bt168.1 (wrap64 (1000 - a0_4)) 1000 3).bind fun bt170 => (some (bt170.1, bt170.2))) else (some (0, bt168.2)))) else (some (0, t167))) = some (r1, r2) := H
 have A4 := Aside0.mk A40
 clear A40
 go_enter Try.func82, Try.ntmps82
 go_upto_if 17 with (first | ((with_reducible refine QaE (N := 3) rfl ?_); refine Zbx (N := 3) (cs := #[.string a0_0, .int .i64 a0_1, .int .i64 a0_2, .int .i64 a0_3, .int .i64 a0_4, .int .i64 a0_5]) (t := 84) ?_; intro gb165 hg w5 hbox hb; have BK165 := Aside0.mk (hbox); have GW165 := Aside0.mk (Zt w hg (Zb)); have GE165 := GW165; replace HB := Aside0.mk (Qaq (Zb) hb); clear hb hbox hg; obtain ⟨hcz6_0, hfz6_0⟩ := Zy (v := (.string a0_0)) BK165.out 0; obtain ⟨hcz6_1, hfz6_1⟩ := Zy (v := (.int .i64 a0_1)) BK165.out 1; obtain ⟨hcz6_2, hfz6_2⟩ := Zy (v := (.int .i64 a0_2)) BK165.out 2; obtain ⟨hcz6_3, hfz6_3⟩ := Zy (v := (.int .i64 a0_3)) BK165.out 3; obtain ⟨hcz6_4, hfz6_4⟩ := Zy (v := (.int .i64 a0_4)) BK165.out 4; obtain ⟨hcz6_5, hfz6_5⟩ := Zy (v := (.int .i64 a0_5)) BK165.out 5) | ((with_reducible refine QaA (f := 114) rfl ?_); refine goesL_ (some 13) rfl rfl Try.func114 (by kernel_rfl) rfl #[.agg #[.string a0_0, .int .i64 a0_1, .int .i64 a0_2, .int .i64 a0_3, .int .i64 a0_4, .int .i64 a0_5], .int .i64 a1] rfl (Zl) ?_; (with_reducible refine (Qbh.calls k a0_0 a0_1 a0_2 a0_3 a0_4 a0_5 a1 t166 t167 _ A4.out).mono ?_); rintro e w7 ⟨rfl, hb⟩; refine ⟨_, rfl, ?_⟩; replace BK165 := Aside0.mk (Zi BK165.out hb); replace HB := Aside0.mk (Qaq (Zc1 GE165.out) hb); (try clear hb); (try clear hb2); (try clear hk); (try clear hi)))
 (try simp only [Act.put, Zj, Zk, Zm])
 by_cases c8 : t167 = 0
 ·rw [if_pos c8] at H
  have c8b0 : (t167 == 0) = T := beq_iff_eq.mpr c8
  have c8b1 : (t167 != 0) = F := bne_eq_false_iff_eq.mpr c8
  clear c8
  (try simp only [c8b0, c8b1])
  replace H := Option.bind_eq_some_iff.mp H
  obtain ⟨⟨t168, t169⟩, A90, H⟩ := H
  replace H : (if t169 = 0 then ((QaC.f t168 (wrap64 (1000 - a0_4)) 1000 3).bind fun bt170 => (some (bt170.1, bt170.2))) else (some (0, t169))) = some (r1, r2) := H
  have A9 := Aside0.mk A90
  clear A90
  obtain ⟨hcz10_0, hfz10_0⟩ := Zy (v := (.string a0_0)) BK165.out 0
  obtain ⟨hcz10_1, hfz10_1⟩ := Zy (v := (.int .i64 a0_1)) BK165.out 1
  obtain ⟨hcz10_2, hfz10_2⟩ := Zy (v := (.int .i64 a0_2)) BK165.out 2
  obtain ⟨hcz10_3, hfz10_3⟩ := Zy (v := (.int .i64 a0_3)) BK165.out 3
  obtain ⟨hcz10_4, hfz10_4⟩ := Zy (v := (.int .i64 a0_4)) BK165.out 4
  obtain ⟨hcz10_5, hfz10_5⟩ := Zy (v := (.int .i64 a0_5)) BK165.out 5
  go_upto_if 28 with (first | ((with_reducible refine QaA (f := 115) rfl ?_); refine goesL_ (some 24) rfl rfl Try.func115 (by kernel_rfl) rfl #[.slice A2 l2.length c2, .int .i64 t166, .int .i64 a0_2, .int .i64 3] rfl (Zl) ?_; (with_reducible refine (Qbn.calls k _ _ l2 t166 a0_2 3 t168 t169 _ ?side1 ?side2 A9.out).mono ?_); (case side1 => exact Zv (Kd.C_below HR2.out HB.out)); (case side2 => exact HC2.out); rintro e w11 ⟨rfl, hb⟩; refine ⟨_, rfl, ?_⟩; replace BK165 := Aside0.mk (Zi BK165.out hb); replace HB := Aside0.mk (Qaq (Zc1 GE165.out) hb); (try clear hb); (try clear hb2); (try clear hk); (try clear hi)))
  (try simp only [Act.put, Zj, Zk, Zm])
  by_cases c12 : t169 = 0
  ·rw [if_pos c12] at H
   have c12b0 : (t169 == 0) = T := beq_iff_eq.mpr c12
   have c12b1 : (t169 != 0) = F := bne_eq_false_iff_eq.mpr c12
   clear c12
   (try simp only [c12b0, c12b1])
   replace H := Option.bind_eq_some_iff.mp H
   obtain ⟨⟨t170, t171⟩, A130, H⟩ := H
   replace H : (some (t170, t171)) = some (r1, r2) := H
   have A13 := Aside0.mk A130
   clear A130
   simp only [Option.some.injEq, Prod.mk.injEq] at H
   obtain ⟨rfl, rfl⟩ := H
   obtain ⟨hcz14_0, hfz14_0⟩ := Zy (v := (.string a0_0)) BK165.out 0
   obtain ⟨hcz14_1, hfz14_1⟩ := Zy (v := (.int .i64 a0_1)) BK165.out 1
   obtain ⟨hcz14_2, hfz14_2⟩ := Zy (v := (.int .i64 a0_2)) BK165.out 2
   obtain ⟨hcz14_3, hfz14_3⟩ := Zy (v := (.int .i64 a0_3)) BK165.out 3
   obtain ⟨hcz14_4, hfz14_4⟩ := Zy (v := (.int .i64 a0_4)) BK165.out 4
   obtain ⟨hcz14_5, hfz14_5⟩ := Zy (v := (.int .i64 a0_5)) BK165.out 5
   go_wp2_with (first | ((with_reducible refine QaA (f := 57) rfl ?_); refine goesL_ (some 34) rfl rfl Try.func57 (by kernel_rfl) rfl #[.int .i64 t168, .int .i64 (wrap64 (1000 - a0_4)), .int .i64 1000, .int .i64 3] rfl (Zl) ?_; (with_reducible refine (QaC.calls t168 (wrap64 (1000 - a0_4)) 1000 3 t170 t171 _ A13.out).mono ?_); rintro e w15 ⟨rfl, hb⟩; refine ⟨_, rfl, ?_⟩; replace BK165 := Aside0.mk (Zi BK165.out hb); replace HB := Aside0.mk (Qaq (Zc1 GE165.out) hb); (try clear hb); (try clear hb2); (try clear hk); (try clear hi)))
   go_ret2
   exact ⟨Zq, Zc1 GE165.out⟩
  rw [if_neg c12] at H
  have c12b0 : (t169 == 0) = F := beq_eq_false_iff_ne.mpr c12
  have c12b1 : (t169 != 0) = T := bne_iff_ne.mpr c12
  (try simp only [c12b0, c12b1])
  simp only [Option.some.injEq, Prod.mk.injEq] at H
  obtain ⟨rfl, rfl⟩ := H
  go_wp2
  go_ret2
  exact ⟨Zq, Zc1 GE165.out⟩
 rw [if_neg c8] at H
 have c8b0 : (t167 == 0) = F := beq_eq_false_iff_ne.mpr c8
 have c8b1 : (t167 != 0) = T := bne_iff_ne.mpr c8
 (try simp only [c8b0, c8b1])
 simp only [Option.some.injEq, Prod.mk.injEq] at H
 obtain ⟨rfl, rfl⟩ := H
 go_wp2
 go_ret2
 exact ⟨Zq, Zc1 GE165.out⟩
def Qby.f (a0 : Int) : Option (Bool) := if a0 ≥ 1 then (some (decide (a0 ≤ 1152921504606846976))) else (some F)
set_option maxHeartbeats 8000000 in
theorem Qby.calls (a0 : Int) (r : Bool) (w : World) (h : Qby.f a0 = some r) :
  Calls Try.prog 72 #[.int .i64 a0] w fun e w' => e = .returned (.bool r) ∧ Drawn0 w w' := by
 have H : (if a0 ≥ 1 then (some (decide (a0 ≤ 1152921504606846976))) else (some F)) = some r := h
 clear h
 by_cases c2 : a0 ≥ 1
 ·rw [if_pos c2] at H
  have c2b0 : decide (1 ≤ a0) = T := decide_eq_true c2
  clear c2
  obtain rfl := Option.some.inj H
  go_enter Try.func72, Try.ntmps72
  go_wp2
  go_ret
  exact ⟨Zs, Zd⟩
 rw [if_neg c2] at H
 have c2b0 : decide (1 ≤ a0) = F := decide_eq_false c2
 clear c2
 obtain rfl := Option.some.inj H
 go_enter Try.func72, Try.ntmps72
 go_wp2
 go_ret
 exact ⟨Zs, Zd⟩
def Qbd.f (a0 : ByteArray) : Option (Bool) := some (a0.toList != a0.toList)
set_option maxHeartbeats 8000000 in
theorem Qbd.calls (a0 : ByteArray) (r : Bool) (w : World) (h : Qbd.f a0 = some r) :
  Calls Try.prog 120 #[.string a0] w fun e w' => e = .returned (.bool r) ∧ Drawn0 w w' := by
 have H : (some (a0.toList != a0.toList)) = some r := h
 clear h
 obtain rfl := Option.some.inj H
 go_enter Try.func120, Try.ntmps120
 go_wp2
 go_ret
 exact ⟨Zs, Zd⟩
def Qa1.f (a0 : ByteArray) (a1 : ByteArray) : Option (Int) := (Qbd.f a0).bind fun t179 => ((Qbd.f a1).bind fun t180 => (if t179 = T then (if t180 = T then (some 0) else (some (-1))) else (if t180 = T then (some 1) else (if (Op.bytesLess a0.toList a1.toList) = T then (some (-1)) else (if a0.toList = a1.toList then (some 0) else (some 1))))))
set_option maxHeartbeats 8000000 in
theorem Qa1.calls (a0 : ByteArray) (a1 : ByteArray) (r : Int) (w : World) (h : Qa1.f a0 a1 = some r) :
  Calls Try.prog 107 #[.string a0, .string a1] w fun e w' => e = .returned (.int .i64 r) ∧ Drawn0 w w' := by
 have H : ((Qbd.f a0).bind fun t179 => ((Qbd.f a1).bind fun t180 => (if t179 = T then (if t180 = T then (some 0) else (some (-1))) else (if t180 = T then (some 1) else (if (Op.bytesLess a0.toList a1.toList) = T then (some (-1)) else (if a0.toList = a1.toList then (some 0) else (some 1))))))) = some r := h
 clear h
 replace H := Option.bind_eq_some_iff.mp H
 obtain ⟨t179, A30, H⟩ := H
 replace H : ((Qbd.f a1).bind fun t180 => (if t179 = T then (if t180 = T then (some 0) else (some (-1))) else (if t180 = T then (some 1) else (if (Op.bytesLess a0.toList a1.toList) = T then (some (-1)) else (if a0.toList = a1.toList then (some 0) else (some 1)))))) = some r := H
 have A3 := Aside0.mk A30
 clear A30
 replace H := Option.bind_eq_some_iff.mp H
 obtain ⟨t180, A40, H⟩ := H
 replace H : (if t179 = T then (if t180 = T then (some 0) else (some (-1))) else (if t180 = T then (some 1) else (if (Op.bytesLess a0.toList a1.toList) = T then (some (-1)) else (if a0.toList = a1.toList then (some 0) else (some 1))))) = some r := H
 have A4 := Aside0.mk A40
 clear A40
 go_enter Try.func107, Try.ntmps107
 go_upto_if 11 with (first | ((with_reducible refine QaA (f := 120) rfl ?_); refine goesL_ (some 8) rfl rfl Try.func120 (by kernel_rfl) rfl #[.string a0] rfl (Zl) ?_; (with_reducible refine (Qbd.calls a0 t179 _ A3.out).mono ?_); rintro e w' ⟨rfl, ⟨nd, rfl⟩⟩; refine ⟨_, rfl, ?_⟩) | ((with_reducible refine QaA (f := 120) rfl ?_); refine goesL_ (some 10) rfl rfl Try.func120 (by kernel_rfl) rfl #[.string a1] rfl (Zl) ?_; (with_reducible refine (Qbd.calls a1 t180 _ A4.out).mono ?_); rintro e w' ⟨rfl, ⟨nd, rfl⟩⟩; refine ⟨_, rfl, ?_⟩))
 (try simp only [Act.put, Zj, Zk, Zm])
 by_cases c5 : t179 = T
 ·subst c5
  have H1 : (if t180 = T then (some 0) else (some (-1))) = some r := by rw [if_pos rfl] at H; exact H
  clear H
  have H := H1
  clear H1
  by_cases c6 : t180 = T
  ·subst c6
   have H1 : (some 0) = some r := by rw [if_pos rfl] at H; exact H
   clear H
   have H := H1
   clear H1
   obtain rfl := Option.some.inj H
   go_wp2
   go_ret
   exact ⟨Zs, Zd⟩
  replace c6 := Bool.eq_false_iff.mpr c6
  subst c6
  have H1 : (some (-1)) = some r := by rw [if_neg (show ¬ (F = T) by decide)] at H; exact H
  clear H
  have H := H1
  clear H1
  obtain rfl := Option.some.inj H
  go_wp2
  go_ret
  exact ⟨Zs, Zd⟩
 replace c5 := Bool.eq_false_iff.mpr c5
 subst c5
 have H1 : (if t180 = T then (some 1) else (if (Op.bytesLess a0.toList a1.toList) = T then (some (-1)) else (if a0.toList = a1.toList then (some 0) else (some 1)))) = some r := by rw [if_neg (show ¬ (F = T) by decide)] at H; exact H
 clear H
 have H := H1
 clear H1
 by_cases c7 : t180 = T
 ·subst c7
  have H1 : (some 1) = some r := by rw [if_pos rfl] at H; exact H
  clear H
  have H := H1
  clear H1
  obtain rfl := Option.some.inj H
  go_wp2
  go_ret
  exact ⟨Zs, Zd⟩
 replace c7 := Bool.eq_false_iff.mpr c7
 subst c7
 have H1 : (if (Op.bytesLess a0.toList a1.toList) = T then (some (-1)) else (if a0.toList = a1.toList then (some 0) else (some 1))) = some r := by rw [if_neg (show ¬ (F = T) by decide)] at H; exact H
 clear H
 have H := H1
 clear H1
 by_cases c8 : (Op.bytesLess a0.toList a1.toList) = T
 ·rw [if_pos c8] at H
  have c8b0 : (Op.bytesLess a0.toList a1.toList) = T := c8
  clear c8
  (try simp only [c8b0])
  obtain rfl := Option.some.inj H
  go_wp2
  go_ret
  exact ⟨Zs, Zd⟩
 rw [if_neg c8] at H
 have c8b0 : (Op.bytesLess a0.toList a1.toList) = F := by simpa using c8
 clear c8
 (try simp only [c8b0])
 by_cases c9 : a0.toList = a1.toList
 ·rw [if_pos c9] at H
  have c9b0 : (a0.toList == a1.toList) = T := beq_iff_eq.mpr c9
  have c9b1 : (a0.toList != a1.toList) = F := bne_eq_false_iff_eq.mpr c9
  clear c9
  obtain rfl := Option.some.inj H
  go_wp2
  go_ret
  exact ⟨Zs, Zd⟩
 rw [if_neg c9] at H
 have c9b0 : (a0.toList == a1.toList) = F := beq_eq_false_iff_ne.mpr c9
 have c9b1 : (a0.toList != a1.toList) = T := bne_iff_ne.mpr c9
 obtain rfl := Option.some.inj H
 go_wp2
 go_ret
 exact ⟨Zs, Zd⟩
def Qbi.f (a0_0 : ByteArray) (a0_1 : ByteArray) (a0_2 : ByteArray) (a0_3 : Int) (a1_0 : ByteArray) (a1_1 : ByteArray) (a1_2 : ByteArray) (a1_3 : Int) : Option (Int) := (Qa1.f a0_0 a1_0).bind fun t183 => (if t183 = 0 then ((Qa1.f a0_1 a1_1).bind fun t184 => (if t184 = 0 then ((Qa1.f a0_2 a1_2).bind fun t185 => (some t185)) else (some t184))) else (some t183))
set_option maxHeartbeats 8000000 in
theorem Qbi.calls (a0_0 : ByteArray) (a0_1 : ByteArray) (a0_2 : ByteArray) (a0_3 : Int) (a1_0 : ByteArray) (a1_1 : ByteArray) (a1_2 : ByteArray) (a1_3 : Int) (r : Int) (w : World) (h : Qbi.f a0_0 a0_1 a0_2 a0_3 a1_0 a1_1 a1_2 a1_3 = some r) :
  Calls Try.prog 74 #[.agg #[.string a0_0, .string a0_1, .string a0_2, .int .i64 a0_3], .agg #[.string a1_0, .string a1_1, .string a1_2, .int .i64 a1_3]] w fun e w' => e = .returned (.int .i64 r) ∧ Below w.heap.size w w' := by
 have hu46 := Try.underlying46
 have HB := Aside0.mk (Below.refl w.heap.size w)
 have H : ((Qa1.f a0_0 a1_0).bind fun t183 => (if t183 = 0 then ((Qa1.f a0_1 a1_1).bind fun t184 => (if t184 = 0 then ((Qa1.f a0_2 a1_2).bind fun t185 => (some t185)) else (some t184))) else (some t183))) = some r := h
 clear h
 replace H := Option.bind_eq_some_iff.mp H
 obtain ⟨t183, A30, H⟩ := H
 replace H : (if t183 = 0 then ((Qa1.f a0_1 a1_1).bind fun t184 => (if t184 = 0 then ((Qa1.f a0_2 a1_2).bind fun t185 => (some t185)) else (some t184))) else (some t183)) = some r := H
 have A3 := Aside0.mk A30
 clear A30
 go_enter Try.func74, Try.ntmps74
 go_upto_if 15 with (first | ((with_reducible refine QaE (N := 2) rfl ?_); refine Zbx (N := 2) (cs := #[.string a0_0, .string a0_1, .string a0_2, .int .i64 a0_3]) (t := 46) ?_; intro gb181 hg w4 hbox hb; have BK181 := Aside0.mk (hbox); have GW181 := Aside0.mk (Zt w hg (Zb)); have GE181 := GW181; replace HB := Aside0.mk (Qaq (Zb) hb); clear hb hbox hg) | ((with_reducible refine QaE (N := 3) rfl ?_); refine Zbx (N := 3) (cs := #[.string a1_0, .string a1_1, .string a1_2, .int .i64 a1_3]) (t := 46) ?_; intro gb182 hg w5 hbox hb; have BK182 := Aside0.mk (hbox); have GW182 := Aside0.mk (Zt w hg (Zc1 GE181.out)); have GE182 := GW182; have NB181_182 := Aside0.mk (Zn hg BK181.out); have NB182_181 := Aside0.mk NB181_182.out.symm; replace BK181 := Aside0.mk (Zi BK181.out hb); replace HB := Aside0.mk (Qaq (Zc1 GE181.out) hb); clear hb hbox hg; have hnb6 := NB181_182.out; have hnc6 := NB182_181.out; obtain ⟨hcz7_0, hfz7_0⟩ := Zy (v := (.string a0_0)) BK181.out 0; obtain ⟨hcz7_1, hfz7_1⟩ := Zy (v := (.string a0_1)) BK181.out 1; obtain ⟨hcz7_2, hfz7_2⟩ := Zy (v := (.string a0_2)) BK181.out 2; obtain ⟨hcz7_3, hfz7_3⟩ := Zy (v := (.int .i64 a0_3)) BK181.out 3; obtain ⟨hcz8_0, hfz8_0⟩ := Zy (v := (.string a1_0)) BK182.out 0; obtain ⟨hcz8_1, hfz8_1⟩ := Zy (v := (.string a1_1)) BK182.out 1; obtain ⟨hcz8_2, hfz8_2⟩ := Zy (v := (.string a1_2)) BK182.out 2; obtain ⟨hcz8_3, hfz8_3⟩ := Zy (v := (.int .i64 a1_3)) BK182.out 3) | ((with_reducible refine QaA (f := 107) rfl ?_); refine goesL_ (some 13) rfl rfl Try.func107 (by kernel_rfl) rfl #[.string a0_0, .string a1_0] rfl (Zl) ?_; (with_reducible refine (Qa1.calls a0_0 a1_0 t183 _ A3.out).mono ?_); rintro e w' ⟨rfl, ⟨nd, rfl⟩⟩; refine ⟨_, rfl, ?_⟩))
 (try simp only [Act.put, Zj, Zk, Zm])
 by_cases c9 : t183 = 0
 ·rw [if_pos c9] at H
  have c9b0 : (t183 == 0) = T := beq_iff_eq.mpr c9
  have c9b1 : (t183 != 0) = F := bne_eq_false_iff_eq.mpr c9
  clear c9
  (try simp only [c9b0, c9b1])
  replace H := Option.bind_eq_some_iff.mp H
  obtain ⟨t184, A100, H⟩ := H
  replace H : (if t184 = 0 then ((Qa1.f a0_2 a1_2).bind fun t185 => (some t185)) else (some t184)) = some r := H
  have A10 := Aside0.mk A100
  clear A100
  have hnb11 := NB181_182.out
  have hnc11 := NB182_181.out
  obtain ⟨hcz12_0, hfz12_0⟩ := Zy (v := (.string a0_0)) BK181.out 0
  obtain ⟨hcz12_1, hfz12_1⟩ := Zy (v := (.string a0_1)) BK181.out 1
  obtain ⟨hcz12_2, hfz12_2⟩ := Zy (v := (.string a0_2)) BK181.out 2
  obtain ⟨hcz12_3, hfz12_3⟩ := Zy (v := (.int .i64 a0_3)) BK181.out 3
  obtain ⟨hcz13_0, hfz13_0⟩ := Zy (v := (.string a1_0)) BK182.out 0
  obtain ⟨hcz13_1, hfz13_1⟩ := Zy (v := (.string a1_1)) BK182.out 1
  obtain ⟨hcz13_2, hfz13_2⟩ := Zy (v := (.string a1_2)) BK182.out 2
  obtain ⟨hcz13_3, hfz13_3⟩ := Zy (v := (.int .i64 a1_3)) BK182.out 3
  go_upto_if 25 with (first | ((with_reducible refine QaA (f := 107) rfl ?_); refine goesL_ (some 23) rfl rfl Try.func107 (by kernel_rfl) rfl #[.string a0_1, .string a1_1] rfl (Zl) ?_; (with_reducible refine (Qa1.calls a0_1 a1_1 t184 _ A10.out).mono ?_); rintro e w' ⟨rfl, ⟨nd, rfl⟩⟩; refine ⟨_, rfl, ?_⟩))
  (try simp only [Act.put, Zj, Zk, Zm])
  by_cases c14 : t184 = 0
  ·rw [if_pos c14] at H
   have c14b0 : (t184 == 0) = T := beq_iff_eq.mpr c14
   have c14b1 : (t184 != 0) = F := bne_eq_false_iff_eq.mpr c14
   clear c14
   (try simp only [c14b0, c14b1])
   replace H := Option.bind_eq_some_iff.mp H
   obtain ⟨t185, A150, H⟩ := H
   replace H : (some t185) = some r := H
   have A15 := Aside0.mk A150
   clear A150
   obtain rfl := Option.some.inj H
   have hnb16 := NB181_182.out
   have hnc16 := NB182_181.out
   obtain ⟨hcz17_0, hfz17_0⟩ := Zy (v := (.string a0_0)) BK181.out 0
   obtain ⟨hcz17_1, hfz17_1⟩ := Zy (v := (.string a0_1)) BK181.out 1
   obtain ⟨hcz17_2, hfz17_2⟩ := Zy (v := (.string a0_2)) BK181.out 2
   obtain ⟨hcz17_3, hfz17_3⟩ := Zy (v := (.int .i64 a0_3)) BK181.out 3
   obtain ⟨hcz18_0, hfz18_0⟩ := Zy (v := (.string a1_0)) BK182.out 0
   obtain ⟨hcz18_1, hfz18_1⟩ := Zy (v := (.string a1_1)) BK182.out 1
   obtain ⟨hcz18_2, hfz18_2⟩ := Zy (v := (.string a1_2)) BK182.out 2
   obtain ⟨hcz18_3, hfz18_3⟩ := Zy (v := (.int .i64 a1_3)) BK182.out 3
   go_wp2_with (first | ((with_reducible refine QaA (f := 107) rfl ?_); refine goesL_ (some 31) rfl rfl Try.func107 (by kernel_rfl) rfl #[.string a0_2, .string a1_2] rfl (Zl) ?_; (with_reducible refine (Qa1.calls a0_2 a1_2 t185 _ A15.out).mono ?_); rintro e w' ⟨rfl, ⟨nd, rfl⟩⟩; refine ⟨_, rfl, ?_⟩))
   go_ret
   exact ⟨Zq, Zc2 GE181.out GE182.out⟩
  rw [if_neg c14] at H
  have c14b0 : (t184 == 0) = F := beq_eq_false_iff_ne.mpr c14
  have c14b1 : (t184 != 0) = T := bne_iff_ne.mpr c14
  (try simp only [c14b0, c14b1])
  obtain rfl := Option.some.inj H
  go_wp2
  go_ret
  exact ⟨Zq, Zc2 GE181.out GE182.out⟩
 rw [if_neg c9] at H
 have c9b0 : (t183 == 0) = F := beq_eq_false_iff_ne.mpr c9
 have c9b1 : (t183 != 0) = T := bne_iff_ne.mpr c9
 (try simp only [c9b0, c9b1])
 obtain rfl := Option.some.inj H
 go_wp2
 go_ret
 exact ⟨Zq, Zc2 GE181.out GE182.out⟩
def QaL.l0 : Nat → List ByteArray → Int → Int → Option (Bool)
 | 0, _, _, _ => none
 | k + 1, x5, x6, x7 => if x7 < x6 then (if 0 ≤ x7 then (if x7 < (x5.length : Int) then ((Qax.f k (rdOf ByteArray.empty x5 x7)).bind fun t187 => (if t187 = T then (QaL.l0 k x5 x6 (wrap64 (x7 + 1))) else (some F))) else (none)) else (none)) else (some T)
def QaL.f (k : Nat) (l0 : List ByteArray) : Option (Bool) := QaL.l0 k l0 (l0.length : Int) 0
theorem QaL.mono_l : ∀ k, (∀ y0 y1 y2, LeO (QaL.l0 k y0 y1 y2) (QaL.l0 (k + 1) y0 y1 y2))
 | 0 => fun _ _ _ r h => by simp [QaL.l0] at h
 | k + 1 => by
  have ih0 := QaL.mono_l k
  intro y0 y1 y2
  unfold QaL.l0
  exact ZM2 ih0 Qax.mono
theorem QaL.mono : ∀ a0 k, LeO (QaL.f k a0) (QaL.f (k + 1) a0) := by
 intro a0 k
 have ih0 := QaL.mono_l k
 unfold QaL.f
 exact ZM2 ih0 Qax.mono
set_option maxHeartbeats 8000000 in
theorem QaL.calls (k : Nat) (A0 : Option Addr) (c0 : Nat) (l0 : List ByteArray) (r : Bool) (w : World) (hr0 : Kd.C Kd.string w A0 l0.length l0) (hc0 : l0.length ≤ c0) (h : QaL.f k l0 = some r) :
  Calls Try.prog 83 #[.slice A0 l0.length c0] w fun e w' => e = .returned (.bool r) ∧ Drawn0 w w' := by
 have HR0 := Aside0.mk hr0
 have HC0 := Aside0.mk hc0
 clear hr0 hc0
 have H : (QaL.l0 k l0 (l0.length : Int) 0) = some r := h
 clear h
 have H' := Aside0.mk H
 clear H
 go_enter Try.func83, Try.ntmps83
 go_wp2
 go_loopg [7] k (fun kq v7 w' => ∃ (x7_1 : Int), v7 = .int .i64 x7_1 ∧ Aside0 (QaL.l0 kq l0 (l0.length : Int) x7_1 = some r) ∧ Aside0 (kq ≤ k) ∧ Drawn0 w w')
 case atStart => exact ⟨(0), (Zs), H', ⟨Nat.le_refl _⟩, Zd⟩
 case round =>
  clear H'
  obtain ⟨x7_1, rfl, HA, HK1, ⟨m1, rfl⟩⟩ := hrel
  cases gk with
  | zero => exact absurd HA.out (by simp [QaL.l0])
  | succ k1 =>
   have H := HA.out
   clear HA
   simp only [QaL.l0] at H
   by_cases c2 : x7_1 < (l0.length : Int)
   ·rw [if_pos c2] at H
    have c2b0 : decide (x7_1 < (l0.length : Int)) = T := decide_eq_true c2
    clear c2
    (try simp only [c2b0])
    by_cases c3 : 0 ≤ x7_1
    ·rw [if_pos c3] at H
     have c3b0 : decide (0 ≤ x7_1) = T := decide_eq_true c3
     clear c3
     by_cases c4 : x7_1 < (l0.length : Int)
     ·rw [if_pos c4] at H
      have c4b0 : decide (x7_1 < (l0.length : Int)) = T := decide_eq_true c4
      clear c4
      replace H := Option.bind_eq_some_iff.mp H
      obtain ⟨t187, A50, H⟩ := H
      replace H : (if t187 = T then (QaL.l0 k1 l0 (l0.length : Int) (wrap64 (x7_1 + 1))) else (some F)) = some r := H
      have A5 := Aside0.mk A50
      clear A50
      have p186 : 0 ≤ (x7_1 : Int) := Ze
      have q186 : x7_1 < (l0.length : Int) := Ze
      obtain ⟨ad186, e186, hx186_0⟩ := Kd.at_string HR0.out x7_1 p186 q186
      cases e186
      replace p186 := eq_true p186
      replace q186 := eq_true q186
      go_upto_if 13 with (first | ((with_reducible refine QaA (f := 108) rfl ?_); refine goesL_ (some 12) rfl rfl Try.func108 (by kernel_rfl) rfl #[.string (rdOf ByteArray.empty l0 x7_1)] rfl (Zl) ?_; (with_reducible refine (Qax.calls k1 (rdOf ByteArray.empty l0 x7_1) t187 _ A5.out).mono ?_); rintro e w' ⟨rfl, ⟨nd, rfl⟩⟩; refine ⟨_, rfl, ?_⟩))
      (try simp only [Act.put, Zj, Zk, Zm])
      by_cases c6 : t187 = T
      ·subst c6
       have H1 : (QaL.l0 k1 l0 (l0.length : Int) (wrap64 (x7_1 + 1))) = some r := by rw [if_pos rfl] at H; exact H
       clear H
       have H := H1
       clear H1
       have H' := Aside0.mk H
       clear H
       go_wp2
       go_roundg k1
       case measure => have := HK1.out; omega
       case rel => exact ⟨(wrap64 (x7_1 + 1)), (Zs), H', ⟨by have := HK1.out; omega⟩, Zd⟩
      replace c6 := Bool.eq_false_iff.mpr c6
      subst c6
      have H1 : (some F) = some r := by rw [if_neg (show ¬ (F = T) by decide)] at H; exact H
      clear H
      have H := H1
      clear H1
      obtain rfl := Option.some.inj H
      go_wp2
      go_ret
      exact ⟨Zs, Zd⟩
     rw [if_neg c4] at H
     exact absurd H (by simp)
    rw [if_neg c3] at H
    exact absurd H (by simp)
   rw [if_neg c2] at H
   have c2b0 : decide (x7_1 < (l0.length : Int)) = F := decide_eq_false c2
   clear c2
   (try simp only [c2b0])
   obtain rfl := Option.some.inj H
   go_wp2
   go_ret
   exact ⟨Zs, Zd⟩
def QaD.l0 : Nat → List (S84) → List (S84) → Int → Int → Option (Int)
 | 0, _, _, _, _ => none
 | k + 1, x0, x9, x10, x11 => if x11 < x10 then (if 0 ≤ x11 then (if x11 < (x9.length : Int) then ((Qaz.f k ((rd_T84 x9 x11).f0) ((rd_T84 x9 x11).f1) ((rd_T84 x9 x11).f2) ((rd_T84 x9 x11).f3) ((rd_T84 x9 x11).f4) ((rd_T84 x9 x11).f5)).bind fun t205 => (if t205 = 0 then (if x11 > 0 then (if 0 ≤ (wrap64 (x11 - 1)) then (if (wrap64 (x11 - 1)) < (x0.length : Int) then (if (Op.bytesLess (((rd_T84 x9 x11).f0).toList) (((rd_T84 x0 (wrap64 (x11 - 1))).f0).toList)) = T then (some 12) else (if (((rd_T84 x9 x11).f0).toList) = (((rd_T84 x0 (wrap64 (x11 - 1))).f0).toList) then (some 12) else (QaD.l0 k x0 x9 x10 (wrap64 (x11 + 1))))) else (none)) else (none)) else (QaD.l0 k x0 x9 x10 (wrap64 (x11 + 1)))) else (some t205))) else (none)) else (none)) else (some 0)
def QaD.f (k : Nat) (l0 : List (S84)) : Option (Int) := if (l0.length : Int) > 1024 then (some 8) else (QaD.l0 k l0 l0 (l0.length : Int) 0)
theorem QaD.mono_l : ∀ k, (∀ y0 y1 y2 y3, LeO (QaD.l0 k y0 y1 y2 y3) (QaD.l0 (k + 1) y0 y1 y2 y3))
 | 0 => fun _ _ _ _ r h => by simp [QaD.l0] at h
 | k + 1 => by
  have ih0 := QaD.mono_l k
  intro y0 y1 y2 y3
  unfold QaD.l0
  exact ZM2 ih0 Qaz.mono
theorem QaD.mono : ∀ a0 k, LeO (QaD.f k a0) (QaD.f (k + 1) a0) := by
 intro a0 k
 have ih0 := QaD.mono_l k
 unfold QaD.f
 exact ZM2 ih0 Qaz.mono
set_option maxHeartbeats 8000000 in
theorem QaD.calls (k : Nat) (A0 : Option Addr) (c0 : Nat) (l0 : List (S84)) (r : Int) (w : World) (hr0 : Kd.C k84 w A0 l0.length l0) (hc0 : l0.length ≤ c0) (h : QaD.f k l0 = some r) :
  Calls Try.prog 116 #[.slice A0 l0.length c0] w fun e w' => e = .returned (.int .i64 r) ∧ Below w.heap.size w w' := by
 have hu84 := Try.underlying84
 have HR0 := Aside0.mk hr0
 have HC0 := Aside0.mk hc0
 clear hr0 hc0
 have HB := Aside0.mk (Below.refl w.heap.size w)
 have H : (if (l0.length : Int) > 1024 then (some 8) else (QaD.l0 k l0 l0 (l0.length : Int) 0)) = some r := h
 clear h
 by_cases c2 : (l0.length : Int) > 1024
 ·rw [if_pos c2] at H
  have c2b0 : decide (1024 < (l0.length : Int)) = T := decide_eq_true c2
  have c2b1 : decide (1024 < l0.length) = T := decide_eq_true (by omega)
  clear c2
  obtain rfl := Option.some.inj H
  go_enter Try.func116, Try.ntmps116
  go_wp2
  repeat (go_quiet (fail); try go_wp2)
  go_ret
  exact ⟨Zq, Zb⟩
 rw [if_neg c2] at H
 have c2b0 : decide (1024 < (l0.length : Int)) = F := decide_eq_false c2
 have c2b1 : decide (1024 < l0.length) = F := decide_eq_false (by omega)
 clear c2
 have H' := Aside0.mk H
 clear H
 go_enter Try.func116, Try.ntmps116
 go_wp2
 repeat (go_quiet (fail); try go_wp2)
 go_loopg [11] k (fun kq v11 w' => ∃ (x11_1 : Int), v11 = .int .i64 x11_1 ∧ Aside0 (QaD.l0 kq l0 l0 (l0.length : Int) x11_1 = some r) ∧ Aside0 (kq ≤ k) ∧ Aside0 (Below w.heap.size w w'))
 case atStart => exact ⟨(0), (Zs), H', ⟨Nat.le_refl _⟩, ⟨Zb⟩⟩
 case round =>
  clear H'
  try clear c1
  try clear c2
  try clear c2b0
  try clear c2b1
  try clear p2
  obtain ⟨x11_1, rfl, HA, HK1, HB⟩ := hrel
  cases gk with
  | zero => exact absurd HA.out (by simp [QaD.l0])
  | succ k1 =>
   have H := HA.out
   clear HA
   simp only [QaD.l0] at H
   by_cases c3 : x11_1 < (l0.length : Int)
   ·rw [if_pos c3] at H
    have c3b0 : decide (x11_1 < (l0.length : Int)) = T := decide_eq_true c3
    clear c3
    (try simp only [c3b0])
    by_cases c4 : 0 ≤ x11_1
    ·rw [if_pos c4] at H
     have c4b0 : decide (0 ≤ x11_1) = T := decide_eq_true c4
     clear c4
     by_cases c5 : x11_1 < (l0.length : Int)
     ·rw [if_pos c5] at H
      have c5b0 : decide (x11_1 < (l0.length : Int)) = T := decide_eq_true c5
      clear c5
      replace H := Option.bind_eq_some_iff.mp H
      obtain ⟨t205, A60, H⟩ := H
      replace H : (if t205 = 0 then (if x11_1 > 0 then (if 0 ≤ (wrap64 (x11_1 - 1)) then (if (wrap64 (x11_1 - 1)) < (l0.length : Int) then (if (Op.bytesLess (((rd_T84 l0 x11_1).f0).toList) (((rd_T84 l0 (wrap64 (x11_1 - 1))).f0).toList)) = T then (some 12) else (if (((rd_T84 l0 x11_1).f0).toList) = (((rd_T84 l0 (wrap64 (x11_1 - 1))).f0).toList) then (some 12) else (QaD.l0 k1 l0 l0 (l0.length : Int) (wrap64 (x11_1 + 1))))) else (none)) else (none)) else (QaD.l0 k1 l0 l0 (l0.length : Int) (wrap64 (x11_1 + 1)))) else (some t205)) = some r := H
      have A6 := Aside0.mk A60
      clear A60
      have p203 : 0 ≤ (x11_1 : Int) := Ze
      have q203 : x11_1 < (l0.length : Int) := Ze
      obtain ⟨ad203, e203, hx203_0, hx203_1, hx203_2, hx203_3, hx203_4, hx203_5⟩ := at_T84 HR0.out x11_1 p203 q203
      cases e203
      replace hx203_0 := Zx HB.out hx203_0
      replace hx203_1 := Zx HB.out hx203_1
      replace hx203_2 := Zx HB.out hx203_2
      replace hx203_3 := Zx HB.out hx203_3
      replace hx203_4 := Zx HB.out hx203_4
      replace hx203_5 := Zx HB.out hx203_5
      replace p203 := eq_true p203
      replace q203 := eq_true q203
      go_upto_if 19 with (first | ((with_reducible refine QaE (N := 4) rfl ?_); refine Zbx (N := 4) (cs := #[.string (⟨#[]⟩ : ByteArray), .int .i64 0, .int .i64 0, .int .i64 0, .int .i64 0, .int .i64 0]) (t := 84) ?_; intro gb204 hg w7 hbox hb; have BK204 := Aside0.mk (hbox); have GW204 := Aside0.mk (Zt w hg (Zb)); have GE204 := GW204; replace HB := Aside0.mk (Qaq (Zb) hb); clear hb hbox hg; obtain ⟨hcz8_0, hfz8_0⟩ := Zy (v := (.string (⟨#[]⟩ : ByteArray))) BK204.out 0; obtain ⟨hcz8_1, hfz8_1⟩ := Zy (v := (.int .i64 0)) BK204.out 1; obtain ⟨hcz8_2, hfz8_2⟩ := Zy (v := (.int .i64 0)) BK204.out 2; obtain ⟨hcz8_3, hfz8_3⟩ := Zy (v := (.int .i64 0)) BK204.out 3; obtain ⟨hcz8_4, hfz8_4⟩ := Zy (v := (.int .i64 0)) BK204.out 4; obtain ⟨hcz8_5, hfz8_5⟩ := Zy (v := (.int .i64 0)) BK204.out 5) | (go_at_call 78; (with_reducible refine (Qaz.calls k1 ((rd_T84 l0 x11_1).f0) ((rd_T84 l0 x11_1).f1) ((rd_T84 l0 x11_1).f2) ((rd_T84 l0 x11_1).f3) ((rd_T84 l0 x11_1).f4) ((rd_T84 l0 x11_1).f5) t205 _ A6.out).mono ?_); rintro e w9 ⟨rfl, hb⟩; replace BK204 := Aside0.mk (Zpi #[.string ((rd_T84 l0 x11_1).f0), .int .i64 ((rd_T84 l0 x11_1).f1), .int .i64 ((rd_T84 l0 x11_1).f2), .int .i64 ((rd_T84 l0 x11_1).f3), .int .i64 ((rd_T84 l0 x11_1).f4), .int .i64 ((rd_T84 l0 x11_1).f5)] BK204.out hb); replace HB := Aside0.mk (Qaq (Zc1 GE204.out) hb); (try clear hb); (try clear hb2); (try clear hk); (try clear hi)))
      repeat (go_quiet (first | ((with_reducible refine QaE (N := 4) rfl ?_); refine Zbx (N := 4) (cs := #[.string (⟨#[]⟩ : ByteArray), .int .i64 0, .int .i64 0, .int .i64 0, .int .i64 0, .int .i64 0]) (t := 84) ?_; intro gb204 hg w7 hbox hb; have BK204 := Aside0.mk (hbox); have GW204 := Aside0.mk (Zt w hg (Zb)); have GE204 := GW204; replace HB := Aside0.mk (Qaq (Zb) hb); clear hb hbox hg; obtain ⟨hcz8_0, hfz8_0⟩ := Zy (v := (.string (⟨#[]⟩ : ByteArray))) BK204.out 0; obtain ⟨hcz8_1, hfz8_1⟩ := Zy (v := (.int .i64 0)) BK204.out 1; obtain ⟨hcz8_2, hfz8_2⟩ := Zy (v := (.int .i64 0)) BK204.out 2; obtain ⟨hcz8_3, hfz8_3⟩ := Zy (v := (.int .i64 0)) BK204.out 3; obtain ⟨hcz8_4, hfz8_4⟩ := Zy (v := (.int .i64 0)) BK204.out 4; obtain ⟨hcz8_5, hfz8_5⟩ := Zy (v := (.int .i64 0)) BK204.out 5) | (go_at_call 78; (with_reducible refine (Qaz.calls k1 ((rd_T84 l0 x11_1).f0) ((rd_T84 l0 x11_1).f1) ((rd_T84 l0 x11_1).f2) ((rd_T84 l0 x11_1).f3) ((rd_T84 l0 x11_1).f4) ((rd_T84 l0 x11_1).f5) t205 _ A6.out).mono ?_); rintro e w9 ⟨rfl, hb⟩; replace BK204 := Aside0.mk (Zpi #[.string ((rd_T84 l0 x11_1).f0), .int .i64 ((rd_T84 l0 x11_1).f1), .int .i64 ((rd_T84 l0 x11_1).f2), .int .i64 ((rd_T84 l0 x11_1).f3), .int .i64 ((rd_T84 l0 x11_1).f4), .int .i64 ((rd_T84 l0 x11_1).f5)] BK204.out hb); replace HB := Aside0.mk (Qaq (Zc1 GE204.out) hb); (try clear hb); (try clear hb2); (try clear hk); (try clear hi))); go_upto_if 19 with (first | ((with_reducible refine QaE (N := 4) rfl ?_); refine Zbx (N := 4) (cs := #[.string (⟨#[]⟩ : ByteArray), .int .i64 0, .int .i64 0, .int .i64 0, .int .i64 0, .int .i64 0]) (t := 84) ?_; intro gb204 hg w7 hbox hb; have BK204 := Aside0.mk (hbox); have GW204 := Aside0.mk (Zt w hg (Zb)); have GE204 := GW204; replace HB := Aside0.mk (Qaq (Zb) hb); clear hb hbox hg; obtain ⟨hcz8_0, hfz8_0⟩ := Zy (v := (.string (⟨#[]⟩ : ByteArray))) BK204.out 0; obtain ⟨hcz8_1, hfz8_1⟩ := Zy (v := (.int .i64 0)) BK204.out 1; obtain ⟨hcz8_2, hfz8_2⟩ := Zy (v := (.int .i64 0)) BK204.out 2; obtain ⟨hcz8_3, hfz8_3⟩ := Zy (v := (.int .i64 0)) BK204.out 3; obtain ⟨hcz8_4, hfz8_4⟩ := Zy (v := (.int .i64 0)) BK204.out 4; obtain ⟨hcz8_5, hfz8_5⟩ := Zy (v := (.int .i64 0)) BK204.out 5) | (go_at_call 78; (with_reducible refine (Qaz.calls k1 ((rd_T84 l0 x11_1).f0) ((rd_T84 l0 x11_1).f1) ((rd_T84 l0 x11_1).f2) ((rd_T84 l0 x11_1).f3) ((rd_T84 l0 x11_1).f4) ((rd_T84 l0 x11_1).f5) t205 _ A6.out).mono ?_); rintro e w9 ⟨rfl, hb⟩; replace BK204 := Aside0.mk (Zpi #[.string ((rd_T84 l0 x11_1).f0), .int .i64 ((rd_T84 l0 x11_1).f1), .int .i64 ((rd_T84 l0 x11_1).f2), .int .i64 ((rd_T84 l0 x11_1).f3), .int .i64 ((rd_T84 l0 x11_1).f4), .int .i64 ((rd_T84 l0 x11_1).f5)] BK204.out hb); replace HB := Aside0.mk (Qaq (Zc1 GE204.out) hb); (try clear hb); (try clear hb2); (try clear hk); (try clear hi))))
      (try simp only [Act.put, Zj, Zk, Zm])
      by_cases c10 : t205 = 0
      ·rw [if_pos c10] at H
       have c10b0 : (t205 == 0) = T := beq_iff_eq.mpr c10
       have c10b1 : (t205 != 0) = F := bne_eq_false_iff_eq.mpr c10
       clear c10
       (try simp only [c10b0, c10b1])
       by_cases c11 : x11_1 > 0
       ·rw [if_pos c11] at H
        have c11b0 : decide (0 < x11_1) = T := decide_eq_true c11
        clear c11
        obtain ⟨ji12, hji12⟩ : ∃ j_ : Int, (wrap64 (x11_1 - 1)) = j_ := ⟨_, rfl⟩
        replace H : (if 0 ≤ (ji12) then (if (ji12) < (l0.length : Int) then (if (Op.bytesLess (((rd_T84 l0 x11_1).f0).toList) (((rd_T84 l0 (ji12)).f0).toList)) = T then (some 12) else (if (((rd_T84 l0 x11_1).f0).toList) = (((rd_T84 l0 (ji12)).f0).toList) then (some 12) else (QaD.l0 k1 l0 l0 (l0.length : Int) (wrap64 (x11_1 + 1))))) else (none)) else (none)) = some r := by first | (rw [hji12] at H; exact H) | (simp only [hji12] at H ⊢; exact H)
        have hji12w : (IntKind.i64.wrap (x11_1 - 1)) = ji12 := (i64_w _).trans hji12
        by_cases c13 : 0 ≤ (ji12)
        ·rw [if_pos c13] at H
         have c13b0 : decide (0 ≤ (ji12)) = T := decide_eq_true c13
         clear c13
         by_cases c14 : (ji12) < (l0.length : Int)
         ·rw [if_pos c14] at H
          have c14b0 : decide ((ji12) < (l0.length : Int)) = T := decide_eq_true c14
          clear c14
          by_cases c15 : (Op.bytesLess (((rd_T84 l0 x11_1).f0).toList) (((rd_T84 l0 (ji12)).f0).toList)) = T
          ·rw [if_pos c15] at H
           have c15b0 : (Op.bytesLess (((rd_T84 l0 x11_1).f0).toList) (((rd_T84 l0 (ji12)).f0).toList)) = T := c15
           clear c15
           obtain rfl := Option.some.inj H
           obtain ⟨hcz16_0, hfz16_0⟩ := Zy (v := (.string ((rd_T84 l0 x11_1).f0))) BK204.out 0
           obtain ⟨hcz16_1, hfz16_1⟩ := Zy (v := (.int .i64 ((rd_T84 l0 x11_1).f1))) BK204.out 1
           obtain ⟨hcz16_2, hfz16_2⟩ := Zy (v := (.int .i64 ((rd_T84 l0 x11_1).f2))) BK204.out 2
           obtain ⟨hcz16_3, hfz16_3⟩ := Zy (v := (.int .i64 ((rd_T84 l0 x11_1).f3))) BK204.out 3
           obtain ⟨hcz16_4, hfz16_4⟩ := Zy (v := (.int .i64 ((rd_T84 l0 x11_1).f4))) BK204.out 4
           obtain ⟨hcz16_5, hfz16_5⟩ := Zy (v := (.int .i64 ((rd_T84 l0 x11_1).f5))) BK204.out 5
           have p206 : 0 ≤ ((ji12) : Int) := Ze
           have q206 : (ji12) < (l0.length : Int) := Ze
           obtain ⟨ad206, e206, hx206_0, hx206_1, hx206_2, hx206_3, hx206_4, hx206_5⟩ := at_T84 HR0.out (ji12) p206 q206
           obtain rfl : ad203 = ad206 := (by injection e206)
           replace hx206_0 := Zx HB.out hx206_0
           replace hx206_1 := Zx HB.out hx206_1
           replace hx206_2 := Zx HB.out hx206_2
           replace hx206_3 := Zx HB.out hx206_3
           replace hx206_4 := Zx HB.out hx206_4
           replace hx206_5 := Zx HB.out hx206_5
           replace p206 := eq_true p206
           replace q206 := eq_true q206
           go_wp2
           repeat (go_quiet (fail); try go_wp2)
           go_ret
           exact ⟨by first | rfl | (simp [Qaj, Qak] <;> rfl) | (simp only [← hji12]; first | rfl | (simp [Qaj, Qak] <;> rfl)) | (simp [*, Qaj, Qak] <;> rfl), Zc1 GE204.out⟩
          rw [if_neg c15] at H
          have c15b0 : (Op.bytesLess (((rd_T84 l0 x11_1).f0).toList) (((rd_T84 l0 (ji12)).f0).toList)) = F := by simpa using c15
          clear c15
          by_cases c17 : (((rd_T84 l0 x11_1).f0).toList) = (((rd_T84 l0 (ji12)).f0).toList)
          ·rw [if_pos c17] at H
           have c17b0 : ((((rd_T84 l0 x11_1).f0).toList) == (((rd_T84 l0 (ji12)).f0).toList)) = T := beq_iff_eq.mpr c17
           have c17b1 : ((((rd_T84 l0 x11_1).f0).toList) != (((rd_T84 l0 (ji12)).f0).toList)) = F := bne_eq_false_iff_eq.mpr c17
           clear c17
           obtain rfl := Option.some.inj H
           obtain ⟨hcz18_0, hfz18_0⟩ := Zy (v := (.string ((rd_T84 l0 x11_1).f0))) BK204.out 0
           obtain ⟨hcz18_1, hfz18_1⟩ := Zy (v := (.int .i64 ((rd_T84 l0 x11_1).f1))) BK204.out 1
           obtain ⟨hcz18_2, hfz18_2⟩ := Zy (v := (.int .i64 ((rd_T84 l0 x11_1).f2))) BK204.out 2
           obtain ⟨hcz18_3, hfz18_3⟩ := Zy (v := (.int .i64 ((rd_T84 l0 x11_1).f3))) BK204.out 3
           obtain ⟨hcz18_4, hfz18_4⟩ := Zy (v := (.int .i64 ((rd_T84 l0 x11_1).f4))) BK204.out 4
           obtain ⟨hcz18_5, hfz18_5⟩ := Zy (v := (.int .i64 ((rd_T84 l0 x11_1).f5))) BK204.out 5
           have p206 : 0 ≤ ((ji12) : Int) := Ze
           have q206 : (ji12) < (l0.length : Int) := Ze
           obtain ⟨ad206, e206, hx206_0, hx206_1, hx206_2, hx206_3, hx206_4, hx206_5⟩ := at_T84 HR0.out (ji12) p206 q206
           obtain rfl : ad203 = ad206 := (by injection e206)
           replace hx206_0 := Zx HB.out hx206_0
           replace hx206_1 := Zx HB.out hx206_1
           replace hx206_2 := Zx HB.out hx206_2
           replace hx206_3 := Zx HB.out hx206_3
           replace hx206_4 := Zx HB.out hx206_4
           replace hx206_5 := Zx HB.out hx206_5
           replace p206 := eq_true p206
           replace q206 := eq_true q206
           go_wp2
           repeat (go_quiet (fail); try go_wp2)
           go_ret
           exact ⟨by first | rfl | (simp [Qaj, Qak] <;> rfl) | (simp only [← hji12]; first | rfl | (simp [Qaj, Qak] <;> rfl)) | (simp [*, Qaj, Qak] <;> rfl), Zc1 GE204.out⟩
          rw [if_neg c17] at H
          have c17b0 : ((((rd_T84 l0 x11_1).f0).toList) == (((rd_T84 l0 (ji12)).f0).toList)) = F := beq_eq_false_iff_ne.mpr c17
          have c17b1 : ((((rd_T84 l0 x11_1).f0).toList) != (((rd_T84 l0 (ji12)).f0).toList)) = T := bne_iff_ne.mpr c17
          have H' := Aside0.mk H
          clear H
          obtain ⟨hcz19_0, hfz19_0⟩ := Zy (v := (.string ((rd_T84 l0 x11_1).f0))) BK204.out 0
          obtain ⟨hcz19_1, hfz19_1⟩ := Zy (v := (.int .i64 ((rd_T84 l0 x11_1).f1))) BK204.out 1
          obtain ⟨hcz19_2, hfz19_2⟩ := Zy (v := (.int .i64 ((rd_T84 l0 x11_1).f2))) BK204.out 2
          obtain ⟨hcz19_3, hfz19_3⟩ := Zy (v := (.int .i64 ((rd_T84 l0 x11_1).f3))) BK204.out 3
          obtain ⟨hcz19_4, hfz19_4⟩ := Zy (v := (.int .i64 ((rd_T84 l0 x11_1).f4))) BK204.out 4
          obtain ⟨hcz19_5, hfz19_5⟩ := Zy (v := (.int .i64 ((rd_T84 l0 x11_1).f5))) BK204.out 5
          have p206 : 0 ≤ ((ji12) : Int) := Ze
          have q206 : (ji12) < (l0.length : Int) := Ze
          obtain ⟨ad206, e206, hx206_0, hx206_1, hx206_2, hx206_3, hx206_4, hx206_5⟩ := at_T84 HR0.out (ji12) p206 q206
          obtain rfl : ad203 = ad206 := (by injection e206)
          replace hx206_0 := Zx HB.out hx206_0
          replace hx206_1 := Zx HB.out hx206_1
          replace hx206_2 := Zx HB.out hx206_2
          replace hx206_3 := Zx HB.out hx206_3
          replace hx206_4 := Zx HB.out hx206_4
          replace hx206_5 := Zx HB.out hx206_5
          replace p206 := eq_true p206
          replace q206 := eq_true q206
          go_wp2
          repeat (go_quiet (fail); try go_wp2)
          go_roundg k1
          case measure => have := HK1.out; omega
          case rel => exact ⟨(wrap64 (x11_1 + 1)), (Zs), H', ⟨by have := HK1.out; omega⟩, ⟨Zc1 GE204.out⟩⟩
         rw [if_neg c14] at H
         exact absurd H (by simp)
        rw [if_neg c13] at H
        exact absurd H (by simp)
       rw [if_neg c11] at H
       have c11b0 : decide (0 < x11_1) = F := decide_eq_false c11
       clear c11
       have H' := Aside0.mk H
       clear H
       go_wp2
       repeat (go_quiet (fail); try go_wp2)
       go_roundg k1
       case measure => have := HK1.out; omega
       case rel => exact ⟨(wrap64 (x11_1 + 1)), (Zs), H', ⟨by have := HK1.out; omega⟩, ⟨Zc1 GE204.out⟩⟩
      rw [if_neg c10] at H
      have c10b0 : (t205 == 0) = F := beq_eq_false_iff_ne.mpr c10
      have c10b1 : (t205 != 0) = T := bne_iff_ne.mpr c10
      (try simp only [c10b0, c10b1])
      obtain rfl := Option.some.inj H
      go_wp2
      repeat (go_quiet (fail); try go_wp2)
      go_ret
      exact ⟨Zq, Zc1 GE204.out⟩
     rw [if_neg c5] at H
     exact absurd H (by simp)
    rw [if_neg c4] at H
    exact absurd H (by simp)
   rw [if_neg c3] at H
   have c3b0 : decide (x11_1 < (l0.length : Int)) = F := decide_eq_false c3
   clear c3
   (try simp only [c3b0])
   obtain rfl := Option.some.inj H
   go_wp2
   repeat (go_quiet (fail); try go_wp2)
   go_ret
   exact ⟨Zq, Zb⟩
theorem eqA50 (d : Nat) (w : World) (x0 y0 : ByteArray) (x1 y1 : ByteArray) (x2 y2 : Int) (x3 y3 : Int) (x4 y4 : Int) :
  (Op.equalIn (d + 3) 50 (.agg #[.string x0, .string x1, .int .i64 x2, .int .i64 x3, .int .i64 x4]) (.agg #[.string y0, .string y1, .int .i64 y2, .int .i64 y3, .int .i64 y4])).run Try.prog w = .ok ((x0.toList == y0.toList && (x1.toList == y1.toList)) && (x2 == y2 && (x3 == y3 && (x4 == y4)))) w := by
 refine eqA_of Try.underlying50 (by kernel_rfl) ?_
 refine Qcb (by rfl) (by go_simp) (by go_simp) (eqA44 (d + 0) w _ _ _ _) ?_
 refine Qcb (by rfl) (by go_simp; rfl) (by go_simp; rfl) (by go_simp) ?_
 refine Qcb (by rfl) (by go_simp; rfl) (by go_simp; rfl) (by go_simp) ?_
 exact Qdn (by rfl) (by go_simp; rfl) (by go_simp; rfl) (by go_simp)
end Go.Proofs.Ytfcaaefdmabkhaa.Pr
